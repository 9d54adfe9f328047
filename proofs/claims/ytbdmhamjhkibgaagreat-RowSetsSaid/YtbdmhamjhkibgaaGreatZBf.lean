/- Texts put together: Gs Qv Qw KCopy KOver Qx Qy Ac Oi Oj Rd Qz. Conditions: none. -/
import Derived.Test.YtbdmhamjhkibgaaGreatZBe
set_option linter.unusedSimpArgs false
set_option linter.unusedVariables false
namespace Go.Art
open Go Go.Proofs Go.RowKit
def ins (x : Int) (l : List Int) (k : Nat) : List Int := l.take k ++ x :: l.drop k
theorem ins_perm (x : Int) (l : List Int) (k : Nat) : (ins x l k).Perm (x :: l) := by
  have h : (l.take k ++ x :: l.drop k).Perm (x :: (l.take k ++ l.drop k)) := List.perm_middle
  rwa [List.take_append_drop] at h
theorem ins_sorted {x : Int} {l : List Int} {k : Nat} (hl : l.Pairwise (· ≤ ·)) (h1 : ∀ j, j < k → j < l.length → l.getD j 0 ≤ x) (h2 : ∀ j, k ≤ j → j < l.length → x ≤ l.getD j 0) : (ins x l k).Pairwise (· ≤ ·) := by
  unfold ins
  rw [List.pairwise_append, List.pairwise_cons]
  have hh : (l.take k ++ l.drop k).Pairwise (· ≤ ·) := by rw [List.take_append_drop]; exact hl
  obtain ⟨p1, p2, p3⟩ := List.pairwise_append.1 hh
  have hx : ∀ y ∈ l.drop k, x ≤ y := fun y hy => by
    obtain ⟨j, hj, rfl⟩ := List.mem_iff_getElem.1 hy
    have hj' : k + j < l.length := by simp at hj; omega
    have := h2 (k + j) (by omega) hj'
    simpa [List.getD_eq_getElem?_getD, hj'] using this
  refine ⟨p1, ⟨hx, p2⟩, fun a ha b hb => ?_⟩
  have hax : a ≤ x := by
    obtain ⟨j, hj, rfl⟩ := List.mem_iff_getElem.1 ha
    have hj' : j < k ∧ j < l.length := by simp at hj; omega
    have := h1 j hj'.1 hj'.2
    simpa [List.getD_eq_getElem?_getD, hj'.2] using this
  rcases List.mem_cons.1 hb with rfl | hb
  · exact hax
  · exact p3 a ha b hb
theorem srt_unique {xs ys : List Int} (h : xs.Perm ys) (hs : xs.Pairwise (· ≤ ·)) : srt ys = xs :=
  ((srt_perm ys).trans h.symm).eq_of_pairwise (fun a b _ _ h1 h2 => by omega) (srt_sorted ys) hs
theorem swp_take (l : List Int) {i j : Nat} (hi : i < l.length) (hj : j < l.length) (hij : i ≤ j) : (swp l i j).take (i + 1) = l.take i ++ [l.getD j 0] := by
  have h1 : (swp l i j).getD i 0 = l.getD j 0 := by rw [swp_get l i hi hj, if_pos rfl]
  rw [take_succ' (show i < (swp l i j).length by rw [swp_length]; exact hi) 0, h1]
  congr 1
  apply List.ext_getElem?
  intro t
  simp only [List.getElem?_take]
  by_cases ht : t < i
  · rw [if_pos ht, if_pos ht]
    simp [swp, List.getElem?_set, show ¬ i = t by omega, show ¬ j = t by omega]
  · rw [if_neg ht, if_neg ht]
attribute [local irreducible] Fit pt own ro vw mpc lpt vels rels mow lrc dfr
attribute [local irreducible] lmp lme mit velg relg
theorem RAll_tr (k : Int) (hk : 1 ≤ k ∧ k ≤ 65536) : Tr Tryz.prog 138 [I k] [] [] fun v D => v.oneCell' = true ∧ D = [own 3 v (Is (upto k.toNat))] := by
  refine Tr.enter env _ Tryz.func138 (by kernel_rfl) rfl Tryz.ntmps138 rfl (by repeat (first | exact has00 | refine has01 ?_)) fun w0 => ?_
  repeat' first|(refine wo ?_; first|refine oa ?_)|refine sq ?_|refine rg ?_|refine xc ?_|refine nl ?_|refine bk ?_
  refine TC.im (own_nil 3 _) ?_
  refine TC.loop (ι := Nat × Value) (fun g => [(4, I g.1), (3, g.2)]) (fun g => [own 3 g.2 (Is (upto g.1))]) (fun g => g.1 ≤ k.toNat ∧ g.2.oneCell' = true) (fun g => k.toNat - g.1) (0, nS) [0] ⟨Nat.zero_le _, rfl⟩ ?_ (hf := by dsimp only; first | apply Fit.all | ((repeat (first | (apply Fit.nilN; (repeat (first | apply nrm_nil | apply nrm_cons)); try apply nrm_rfl) | (apply Fit.cons; focus ((repeat (first | apply Tk.here | apply Tk.there)); first | done | fail)))); first | done | fail))
  rintro ⟨i, o⟩ ⟨hi, ho⟩
  dsimp only at hi ho ⊢
  by_cases hlt : i < k.toNat
  · have hu := upto_length i
    have hs := upto_succ i
    generalize upto i = L at *
    repeat' first|refine slii [(i : Int)] fun v1 => ?_|(refine api (v := o) (l := L) (news := [(i : Int)]) fun v2 => ?_; refine TO.one (v := v2) (xs := Is (L ++ [(i : Int)])) fun hv2 => ?_)|(refine wo ?_; first|(refine ao ?_; first|refine aw ?_|refine oa ?_)|refine oa ?_)|(refine gc ?_; first|(refine ci (fun hB => ?_) (fun hB => ?_) <;> try (exfalso; omega)))|refine sq ?_|refine rg ?_|refine xc ?_|refine nl ?_|refine sk ?_|refine bk ?_|refine xb ?_
    exact lp (i + 1, v2) ⟨hlt, hv2⟩ (hf := by dsimp only; rw [hs]; first | apply Fit.all | ((repeat (first | (apply Fit.nilN; (repeat (first | apply nrm_nil | apply nrm_cons)); try apply nrm_rfl) | (apply Fit.cons; focus ((repeat (first | apply Tk.here | apply Tk.there)); first | done | fail)))); first | done | fail))
  · obtain rfl : i = k.toNat := by omega
    repeat' first|(refine wo ?_; first|(refine ao ?_; first|refine oa ?_)|refine oa ?_)|(refine gc ?_; first|(refine ci (fun hB => ?_) (fun hB => ?_) <;> try (exfalso; omega)))|refine sq ?_|refine rg ?_|refine xc ?_|refine nl ?_|refine xe ?_|refine rt ?_
    exact r1 ⟨ho, rfl⟩
structure RoG where
  i : Nat
  l : List Int
  st : BitVec 64
structure RiG where
  i : Nat
  o : Value
  ds : List Int
theorem rising_tr (s : Value) (l : List Int) (hl : l.length ≤ 65536) : Tr Tryz.prog 103 [s] [vw s (Is l)] [] fun v D => D = [own 3 v (Is (srt l))] := by
  refine Tr.enter env _ Tryz.func103 (by kernel_rfl) rfl Tryz.ntmps103 rfl (by repeat (first | exact has00 | refine has01 ?_)) fun w0 => ?_
  repeat' first|(refine wo ?_; first|refine oa ?_)|refine sq ?_|refine rg ?_|refine xc ?_|refine nl ?_|refine bk ?_
  refine TC.im (own_nil 3 _) ?_
  refine TC.loop (ι := RiG) (fun g => [(4, I g.i), (3, g.o)]) (fun g => [own 3 g.o (Is g.ds)]) (fun g => (g.i ≤ l.length ∧ g.o.oneCell' = true) ∧ g.ds.Pairwise (· ≤ ·) ∧ g.ds.Perm (l.take g.i)) (fun g => l.length - g.i) ⟨0, nS, []⟩ [0] ⟨⟨Nat.zero_le _, rfl⟩, by simp, by simp⟩ ?_ (hf := by dsimp only; first | apply Fit.all | ((repeat (first | (apply Fit.nilN; (repeat (first | apply nrm_nil | apply nrm_cons)); try apply nrm_rfl) | (apply Fit.cons; focus ((repeat (first | apply Tk.here | apply Tk.there)); first | done | fail)))); first | done | fail))
  rintro ⟨i, o, ds⟩ ⟨⟨hi, ho⟩, hds, hpm⟩
  dsimp only at hi ho hds hpm ⊢
  have hdl : ds.length = i := by rw [hpm.length_eq]; simp; omega
  by_cases hlt : i < l.length
  · have htk := take_succ' hlt (0 : Int)
    generalize hx : l.getD i 0 = x at *
    repeat' first|refine sq_cutX (a := .block 2 _) (ι := Nat) (fun t => t ≤ ds.length ∧ (ins x ds t).Pairwise (· ≤ ·)) (fun t => [(0, s), (3, o), (4, I i), (5, I t)]) (fun _ => [own 3 o (Is ds), vw s (Is l)]) ?_ (fun kb => ?_)|(refine wo ?_; first|(refine ao ?_; first|refine oa ?_)|refine oa ?_|refine lnm ?_)|(refine gc ?_; first|(refine ci (fun hB => ?_) (fun hB => ?_) <;> try (exfalso; omega)))|refine sq ?_|refine rg ?_|refine xc ?_|refine nl ?_|refine sk ?_|refine bk ?_
    rotate_left
    · refine TC.loop (ι := Nat) (fun t => [(5, I t)]) (fun _ => []) (fun t => t ≤ ds.length ∧ ∀ j, j < t → j < ds.length → ds.getD j 0 < x) (fun t => ds.length - t) 0 [0, 3, 4] ⟨Nat.zero_le _, fun j h => absurd h (Nat.not_lt_zero j)⟩ ?_
      rintro t ⟨ht, hlo⟩
      by_cases hc : t < ds.length ∧ ds.getD t 0 < x
      · obtain ⟨hc1, hc2⟩ := hc
        have hlo' : ∀ j, j < t + 1 → j < ds.length → ds.getD j 0 < x := fun j hj hl => by
          by_cases e : j = t
          · rw [e]; exact hc2
          · exact hlo j (by omega) hl
        clear hlo
        generalize hy : ds.getD t 0 = y at *
        repeat' first|refine qlie hx ?_|refine qlie hy ?_|(refine wo ?_; first|(refine ao ?_; first|refine aw ?_)|refine oa ?_)|(refine gc ?_; first|(refine ci (fun hB => ?_) (fun hB => ?_) <;> try (exfalso; omega)))|refine sq ?_|refine rg ?_|refine xc ?_|refine nl ?_|refine sk ?_|refine bk ?_|refine xb ?_|refine rq ?_|refine nq ?_|(refine wq ?_; first|(refine qao ?_; first|refine qa ?_)|refine qa ?_|refine qlnm ?_|refine qixmn ?_|refine qgy ?_|(refine qgsi (fun hB => ?_) (fun hB => ?_) <;> try (exfalso; omega)))
        exact lp (t + 1) ⟨by omega, hlo'⟩
      · have hge : t = ds.length ∨ x ≤ ds.getD t 0 := by omega
        have hins := ins_sorted (x := x) (k := t) hds (fun j h1 h2 => Int.le_of_lt (hlo j h1 h2)) (fun j h1 h2 => by
          rcases hge with rfl | hge
          · omega
          · refine Int.le_trans hge ?_
            by_cases e : j = t
            · rw [e]; exact Int.le_refl _
            · have := List.pairwise_iff_getElem.1 hds t j (by omega) h2 (by omega)
              simpa [List.getD_eq_getElem?_getD, h2, show t < ds.length by omega] using this)
        clear hlo
        repeat' first|refine qlie hx ?_|exact kb t ⟨ht, hins⟩ _ _ (by (repeat (refine Sub.cons rfl (by first | rfl | go_num) ?_)); exact Sub.nil) (by first | apply Fit.all | ((repeat (first | (apply Fit.nilN; (repeat (first | apply nrm_nil | apply nrm_cons)); try apply nrm_rfl) | (apply Fit.cons; focus ((repeat (first | apply Tk.here | apply Tk.there)); first | done | fail)))); first | done | fail))|(refine gc ?_; first|refine cf ?_|(refine ci (fun hB => ?_) (fun hB => ?_) <;> try (exfalso; omega)))|refine sq ?_|refine xc ?_|refine xe ?_|refine rq ?_|refine nq ?_|(refine wq ?_; first|(refine qao ?_; first|refine qa ?_)|refine qa ?_|refine qlnm ?_|refine qixmn ?_|refine qli ?_|refine qgy ?_|refine qgn ?_|(refine qgsi (fun hB => ?_) (fun hB => ?_) <;> try (exfalso; omega)))
    rintro t ⟨ht, hins⟩
    have hinp : (ins x ds t).Perm (l.take (i + 1)) := by
      rw [htk]
      exact (ins_perm x ds t).trans ((List.Perm.cons x hpm).trans (List.perm_append_comm (l₁ := [x])))
    have hie : ins x ds t = ds.take t ++ [x] ++ ds.drop t := by unfold ins; simp
    have hdr : Is (ds.drop t) = Is ((ds.take ds.length).drop t) := by rw [List.take_length]
    repeat' first|(refine sl0 fun e0 => ?_)|(refine sclm (l := ds) (lo := (t : Int)) ?_; rw [Int.toNat_natCast])|(refine ap (xs := []) (news := Is (ds.drop t)) (fun rv => ?_) (h1 := Is_one _) (hu := by rw [hdr]; exact has_subi (by first | (apply has_vw; (repeat (first | apply List.Mem.head | apply List.Mem.tail)); first | done | fail) | (apply has_own; (repeat (first | apply List.Mem.head | apply List.Mem.tail)); first | done | fail) | (apply has_ro; (repeat (first | apply List.Mem.head | apply List.Mem.tail)); first | done | fail) | apply has_nil | ((with_reducible apply has_el); (focus (first | (apply has_vels; (repeat (first | apply List.Mem.head | apply List.Mem.tail)); first | done | fail) | (apply has_rels; (repeat (first | apply List.Mem.head | apply List.Mem.tail)); first | done | fail))); omega) | (apply has_pt; (repeat (first | apply List.Mem.head | apply List.Mem.tail)); first | done | fail) | (apply has_lpt; (repeat (first | apply List.Mem.head | apply List.Mem.tail)); first | done | fail) | (apply has_vels; (repeat (first | apply List.Mem.head | apply List.Mem.tail)); first | done | fail) | (apply has_rels; (repeat (first | apply List.Mem.head | apply List.Mem.tail)); first | done | fail) | with_reducible assumption | ((with_reducible apply has_elg); (focus (first | (apply has_velg; (repeat (first | apply List.Mem.head | apply List.Mem.tail)); first | done | fail) | (apply has_relg; (repeat (first | apply List.Mem.head | apply List.Mem.tail)); first | done | fail))); omega) | (apply has_velg; (repeat (first | apply List.Mem.head | apply List.Mem.tail)); first | done | fail) | (apply has_relg; (repeat (first | apply List.Mem.head | apply List.Mem.tail)); first | done | fail) | (apply has_vwf; (repeat (first | apply List.Mem.head | apply List.Mem.tail)); first | done | fail)) ht (Nat.le_refl _)))|(refine wo ?_; first|refine oa ?_)|refine sq ?_|refine rg ?_|refine xc ?_|refine nl ?_
    refine TC.fact (p := ∃ w0, Sl w0 o (Is ds)) (fun w hw => ⟨w, has_sl hw (by first | (apply has_vw; (repeat (first | apply List.Mem.head | apply List.Mem.tail)); first | done | fail) | (apply has_own; (repeat (first | apply List.Mem.head | apply List.Mem.tail)); first | done | fail) | (apply has_ro; (repeat (first | apply List.Mem.head | apply List.Mem.tail)); first | done | fail) | apply has_nil | ((with_reducible apply has_el); (focus (first | (apply has_vels; (repeat (first | apply List.Mem.head | apply List.Mem.tail)); first | done | fail) | (apply has_rels; (repeat (first | apply List.Mem.head | apply List.Mem.tail)); first | done | fail))); omega) | (apply has_pt; (repeat (first | apply List.Mem.head | apply List.Mem.tail)); first | done | fail) | (apply has_lpt; (repeat (first | apply List.Mem.head | apply List.Mem.tail)); first | done | fail) | (apply has_vels; (repeat (first | apply List.Mem.head | apply List.Mem.tail)); first | done | fail) | (apply has_rels; (repeat (first | apply List.Mem.head | apply List.Mem.tail)); first | done | fail) | with_reducible assumption | ((with_reducible apply has_elg); (focus (first | (apply has_velg; (repeat (first | apply List.Mem.head | apply List.Mem.tail)); first | done | fail) | (apply has_relg; (repeat (first | apply List.Mem.head | apply List.Mem.tail)); first | done | fail))); omega) | (apply has_velg; (repeat (first | apply List.Mem.head | apply List.Mem.tail)); first | done | fail) | (apply has_relg; (repeat (first | apply List.Mem.head | apply List.Mem.tail)); first | done | fail) | (apply has_vwf; (repeat (first | apply List.Mem.head | apply List.Mem.tail)); first | done | fail))⟩) fun ⟨wS, hS⟩ => ?_
    have hz1 : (ds.take t).length ≤ 65536 := by rw [List.length_take]; omega
    have hz2 : (ds.drop t).length ≤ 65536 := by rw [List.length_drop]; omega
    have hz3 : (ds.take t ++ [x]).length ≤ 65537 := by rw [List.length_append]; simp only [List.length_cons, List.length_nil]; omega
    refine rs (id := 9) (fun w => Sl w s (Is l)) ?_ (fun w hw => has_sl hw (by first | (apply has_vw; (repeat (first | apply List.Mem.head | apply List.Mem.tail)); first | done | fail) | (apply has_own; (repeat (first | apply List.Mem.head | apply List.Mem.tail)); first | done | fail) | (apply has_ro; (repeat (first | apply List.Mem.head | apply List.Mem.tail)); first | done | fail) | apply has_nil | ((with_reducible apply has_el); (focus (first | (apply has_vels; (repeat (first | apply List.Mem.head | apply List.Mem.tail)); first | done | fail) | (apply has_rels; (repeat (first | apply List.Mem.head | apply List.Mem.tail)); first | done | fail))); omega) | (apply has_pt; (repeat (first | apply List.Mem.head | apply List.Mem.tail)); first | done | fail) | (apply has_lpt; (repeat (first | apply List.Mem.head | apply List.Mem.tail)); first | done | fail) | (apply has_vels; (repeat (first | apply List.Mem.head | apply List.Mem.tail)); first | done | fail) | (apply has_rels; (repeat (first | apply List.Mem.head | apply List.Mem.tail)); first | done | fail) | with_reducible assumption | ((with_reducible apply has_elg); (focus (first | (apply has_velg; (repeat (first | apply List.Mem.head | apply List.Mem.tail)); first | done | fail) | (apply has_relg; (repeat (first | apply List.Mem.head | apply List.Mem.tail)); first | done | fail))); omega) | (apply has_velg; (repeat (first | apply List.Mem.head | apply List.Mem.tail)); first | done | fail) | (apply has_relg; (repeat (first | apply List.Mem.head | apply List.Mem.tail)); first | done | fail) | (apply has_vwf; (repeat (first | apply List.Mem.head | apply List.Mem.tail)); first | done | fail)))
    refine tka 0 ?_
    refine tka 1 ?_
    refine tk 2 (v := slSub o 0 (t : Int).toNat) (hi := rfl) (fun w _ => R_sliceHiA (E := env) rfl rfl rfl rfl hS ⟨by omega, by rw [Is_len]; omega⟩ w) ?_
    rw [Int.toNat_natCast]
    refine tka 3 ?_
    refine tka 4 ?_
    refine tkx 5 (len := l.length) (fun w h => ⟨_, h, Is_len l⟩) ?_
    refine tkli 6 (l := l) (j := i) (c := x) (fun w h => h) hx ?_
    refine tka 9 ?_
    refine t1 7 ?_
    refine slii [x] fun v1 => ?_
    refine nl ?_
    refine te (fun w hw => has_sl hw (by first | (apply has_vw; (repeat (first | apply List.Mem.head | apply List.Mem.tail)); first | done | fail) | (apply has_own; (repeat (first | apply List.Mem.head | apply List.Mem.tail)); first | done | fail) | (apply has_ro; (repeat (first | apply List.Mem.head | apply List.Mem.tail)); first | done | fail) | apply has_nil | ((with_reducible apply has_el); (focus (first | (apply has_vels; (repeat (first | apply List.Mem.head | apply List.Mem.tail)); first | done | fail) | (apply has_rels; (repeat (first | apply List.Mem.head | apply List.Mem.tail)); first | done | fail))); omega) | (apply has_pt; (repeat (first | apply List.Mem.head | apply List.Mem.tail)); first | done | fail) | (apply has_lpt; (repeat (first | apply List.Mem.head | apply List.Mem.tail)); first | done | fail) | (apply has_vels; (repeat (first | apply List.Mem.head | apply List.Mem.tail)); first | done | fail) | (apply has_rels; (repeat (first | apply List.Mem.head | apply List.Mem.tail)); first | done | fail) | with_reducible assumption | ((with_reducible apply has_elg); (focus (first | (apply has_velg; (repeat (first | apply List.Mem.head | apply List.Mem.tail)); first | done | fail) | (apply has_relg; (repeat (first | apply List.Mem.head | apply List.Mem.tail)); first | done | fail))); omega) | (apply has_velg; (repeat (first | apply List.Mem.head | apply List.Mem.tail)); first | done | fail) | (apply has_relg; (repeat (first | apply List.Mem.head | apply List.Mem.tail)); first | done | fail) | (apply has_vwf; (repeat (first | apply List.Mem.head | apply List.Mem.tail)); first | done | fail))) ?_
    refine t1 8 ?_
    refine TO.im (Im.trans (show Tk (own 3 o (Is ds)) _ _ by (repeat (first | apply Tk.here | apply Tk.there)); first | done | fail) (Im1.im (im_subi 3 o ds (lo := 0) (hi := t) (Nat.zero_le _) ht) _)) ?_
    rw [List.drop_zero]
    refine api (v := slSub o 0 t) (l := ds.take t) (news := [x]) fun v2 => ?_
    refine nl ?_
    refine te (fun w hw => has_sl hw (by first | (apply has_vw; (repeat (first | apply List.Mem.head | apply List.Mem.tail)); first | done | fail) | (apply has_own; (repeat (first | apply List.Mem.head | apply List.Mem.tail)); first | done | fail) | (apply has_ro; (repeat (first | apply List.Mem.head | apply List.Mem.tail)); first | done | fail) | apply has_nil | ((with_reducible apply has_el); (focus (first | (apply has_vels; (repeat (first | apply List.Mem.head | apply List.Mem.tail)); first | done | fail) | (apply has_rels; (repeat (first | apply List.Mem.head | apply List.Mem.tail)); first | done | fail))); omega) | (apply has_pt; (repeat (first | apply List.Mem.head | apply List.Mem.tail)); first | done | fail) | (apply has_lpt; (repeat (first | apply List.Mem.head | apply List.Mem.tail)); first | done | fail) | (apply has_vels; (repeat (first | apply List.Mem.head | apply List.Mem.tail)); first | done | fail) | (apply has_rels; (repeat (first | apply List.Mem.head | apply List.Mem.tail)); first | done | fail) | with_reducible assumption | ((with_reducible apply has_elg); (focus (first | (apply has_velg; (repeat (first | apply List.Mem.head | apply List.Mem.tail)); first | done | fail) | (apply has_relg; (repeat (first | apply List.Mem.head | apply List.Mem.tail)); first | done | fail))); omega) | (apply has_velg; (repeat (first | apply List.Mem.head | apply List.Mem.tail)); first | done | fail) | (apply has_relg; (repeat (first | apply List.Mem.head | apply List.Mem.tail)); first | done | fail) | (apply has_vwf; (repeat (first | apply List.Mem.head | apply List.Mem.tail)); first | done | fail))) ?_
    refine t1 10 ?_
    refine api (v := v2) (l := ds.take t ++ [x]) (news := ds.drop t) (fun v3 => ?_)
    refine TO.one (v := v3) (xs := Is (ds.take t ++ [x] ++ ds.drop t)) fun hv3 => ?_
    refine nl ?_
    refine te (fun w hw => has_sl hw (by first | (apply has_vw; (repeat (first | apply List.Mem.head | apply List.Mem.tail)); first | done | fail) | (apply has_own; (repeat (first | apply List.Mem.head | apply List.Mem.tail)); first | done | fail) | (apply has_ro; (repeat (first | apply List.Mem.head | apply List.Mem.tail)); first | done | fail) | apply has_nil | ((with_reducible apply has_el); (focus (first | (apply has_vels; (repeat (first | apply List.Mem.head | apply List.Mem.tail)); first | done | fail) | (apply has_rels; (repeat (first | apply List.Mem.head | apply List.Mem.tail)); first | done | fail))); omega) | (apply has_pt; (repeat (first | apply List.Mem.head | apply List.Mem.tail)); first | done | fail) | (apply has_lpt; (repeat (first | apply List.Mem.head | apply List.Mem.tail)); first | done | fail) | (apply has_vels; (repeat (first | apply List.Mem.head | apply List.Mem.tail)); first | done | fail) | (apply has_rels; (repeat (first | apply List.Mem.head | apply List.Mem.tail)); first | done | fail) | with_reducible assumption | ((with_reducible apply has_elg); (focus (first | (apply has_velg; (repeat (first | apply List.Mem.head | apply List.Mem.tail)); first | done | fail) | (apply has_relg; (repeat (first | apply List.Mem.head | apply List.Mem.tail)); first | done | fail))); omega) | (apply has_velg; (repeat (first | apply List.Mem.head | apply List.Mem.tail)); first | done | fail) | (apply has_relg; (repeat (first | apply List.Mem.head | apply List.Mem.tail)); first | done | fail) | (apply has_vwf; (repeat (first | apply List.Mem.head | apply List.Mem.tail)); first | done | fail))) ?_
    refine tka 11 ?_
    refine t0 ?_
    rw [← hie]
    repeat' first|(refine wo ?_; first|(refine ao ?_; first|refine aw ?_)|refine oa ?_)|refine rg ?_|refine xc ?_|refine nl ?_|refine xb ?_
    exact lp ⟨i + 1, v3, ins x ds t⟩ ⟨⟨hlt, hv3⟩, hins, hinp⟩ (hf := by dsimp only; first | apply Fit.all | ((repeat (first | (apply Fit.nilN; (repeat (first | apply nrm_nil | apply nrm_cons)); try apply nrm_rfl) | (apply Fit.cons; focus ((repeat (first | apply Tk.here | apply Tk.there)); first | done | fail)))); first | done | fail))
  · obtain rfl : i = l.length := by omega
    rw [List.take_length] at hpm
    repeat' first|(refine wo ?_; first|(refine ao ?_; first|refine oa ?_)|refine oa ?_|refine lnm ?_)|(refine gc ?_; first|(refine ci (fun hB => ?_) (fun hB => ?_) <;> try (exfalso; omega)))|refine sq ?_|refine rg ?_|refine xc ?_|refine nl ?_|refine xe ?_|refine rt ?_
    exact r1 (v := o) (D := [own 3 o (Is ds)]) (by rw [srt_unique hpm hds])
end Go.Art
set_option linter.unusedSimpArgs false
set_option linter.unusedVariables false
namespace Go.Art
open Go Go.Proofs Go.RowKit
abbrev w0u : Value := .int .u64 0
def rloC (b : Nat) (sv : Value) (x : Lw) (used : Int) : List Ch :=
  match x with
  | .inl st => rloP b st used
  | .inr (l, br) => [pt b [sv, .bool false, w0u, I used, .bool br] TRl, own TLI sv (Is l)]
abbrev rlot (b : Nat) (sv : Value) (x : Lw) (used : Int) : Ch := bnd (rloC b sv x used)
theorem rloC_nb (b : Nat) (sv : Value) (x : Lw) (used : Int) : ∀ c ∈ rloC b sv x used, ∀ b, ¬ c.bd b := by
  cases x with
  | inl st => unfold rloC; (repeat (first | exact nb0 | refine nb1 ?_))
  | inr p => unfold rloC; (repeat (first | exact nb0 | refine nb1 ?_))
instance (b : Nat) (sv : Value) (x : Lw) (used : Int) : NoB (rlot b sv x used) := ⟨fun b h => by obtain ⟨c, hc, h1⟩ := h; exact rloC_nb _ _ _ _ c hc b h1⟩
structure RwG where
  i : Nat
  l : List Int
  outs : List Int
  sv : Value
  x : Lw
attribute [local irreducible] Fit pt own ro vw mpc lpt vels rels mow lrc dfr
attribute [local irreducible] lmp lme mit velg relg
theorem RRow_tr (v : Value) (l : List Int) (hl : l.length ≤ 17592186044416) : Tr Tryz.prog 23 [v] [vw v (Is l)] [] fun u D => ∃ b sv, u = ptr b ∧ D = [rlot b sv (.inr (l, false)) 0] := by
  refine Tr.enter env _ Tryz.func23 (by kernel_rfl) rfl Tryz.ntmps23 rfl (by repeat (first | exact has00 | refine has01 ?_)) fun w0 => ?_
  repeat' first|(refine sl0 fun o => ?_)|(refine api (l := []) (news := l) (fun o => ?_); refine TO.one (v := o) (xs := Is ([] ++ l)) fun ho => ?_)|refine bdz ?_|refine bx fun b1 => ?_|(refine wo ?_; first|refine oa ?_)|refine sq ?_|refine rg ?_|refine xc ?_|refine nl ?_|refine rt ?_
  exact r1 (D := [rlot b1 o (.inr (l, false)) 0]) ⟨b1, o, rfl, rfl⟩ (hf := fit_bnd (C := [pt b1 [o, .bool false, w0u, I 0, .bool false] TRl, own TLI o (Is l)]) (by first | apply Fit.all | ((repeat (first | (apply Fit.nilN; (repeat (first | apply nrm_nil | apply nrm_cons)); try apply nrm_rfl) | (apply Fit.cons; focus ((repeat (first | apply Tk.here | apply Tk.there)); first | done | fail)))); first | done | fail)))
theorem RSeededL_tr (x y z : BitVec 64) : Tr Tryz.prog 27 [U x, U y, U z] [] [] fun v D => ∃ b sv, v = ptr b ∧ D = [rlot b sv (.inl (seedOf x y z)) 0] := by
  refine Tr.enter env _ Tryz.func27 (by kernel_rfl) rfl Tryz.ntmps27 rfl (by repeat (first | exact has00 | refine has01 ?_)) fun w0 => ?_
  repeat' first|(refine gca ?_; first|(refine ca (RStir_tr _) ?_; rintro _ _ ⟨rfl, rfl⟩))|refine uad ?_|refine bdz ?_|refine bx fun r => ?_|(refine wo ?_; first|refine oa ?_)|refine sq ?_|refine rg ?_|refine xc ?_|refine nl ?_|refine rt ?_
  exact r1 (D := [rlot r nS (.inl (seedOf x y z)) 0]) ⟨r, nS, rfl, rfl⟩ (hf := fit_bnd (C := rloP r (seedOf x y z) 0) (by first | apply Fit.all | ((repeat (first | (apply Fit.nilN; (repeat (first | apply nrm_nil | apply nrm_cons)); try apply nrm_rfl) | (apply Fit.cons; focus ((repeat (first | apply Tk.here | apply Tk.there)); first | done | fail)))); first | done | fail)))
theorem RDrawRow_tr (b : Nat) (sv : Value) (l : List Int) (br : Bool) (used n : Int) (hu : 0 ≤ used ∧ used ≤ 4611686018427387904) : Tr Tryz.prog 66 [ptr b, I n] [] (rloC b sv (.inr (l, br)) used)
    fun v D => v = tup2 (I (drw n (.inr (l, br))).1.1) (I (drw n (.inr (l, br))).1.2) ∧ ∃ sv', D = rloC b sv' (drw n (.inr (l, br))).2 (used + dru n (.inr (l, br))) := by
  show Tr _ _ _ _ [pt b [sv, .bool false, w0u, I used, .bool br] TRl, own TLI sv (Is l)] _
  have e0 : l.getD (Int.toNat 0) 0 = l.getD 0 0 := rfl
  by_cases hn : 1 ≤ n ∧ n ≤ 1099511627776
  rotate_left
  · rw [show dru n (.inr (l, br)) = 0 by unfold dru; rw [drw_bad _ hn]; rfl, drw_bad _ hn, Int.add_zero]
    refine Tr.mono (R := fun v D => v = tup2 (I 0) (I 3) ∧ D = [pt b [sv, .bool false, w0u, I used, .bool br] TRl, own TLI sv (Is l)]) ?_ (fun v D h => ⟨h.1, sv, h.2⟩)
    refine Tr.enter env _ Tryz.func66 (by kernel_rfl) rfl Tryz.ntmps66 rfl (by repeat (first | exact has00 | refine has01 ?_)) fun w0 => ?_
    repeat' first|(refine wo ?_; first|(refine ao ?_; first|refine oa ?_)|refine oa ?_|refine gy ?_|refine gn ?_|(refine gsi (fun hB => ?_) (fun hB => ?_) <;> try (exfalso; omega)))|(refine gc ?_; first|refine ct ?_|(refine ci (fun hB => ?_) (fun hB => ?_) <;> try (exfalso; omega)))|refine sq ?_|refine rg ?_|refine xc ?_|refine nl ?_|refine rt ?_
    all_goals exact r2 ⟨rfl, rfl⟩
  by_cases hr : rowOk n l br
  · have e1 : drw n (.inr (l, br)) = ((l.getD 0 0, 0), .inr (l.drop 1, false)) := by rw [drw_inr, if_pos hn, if_pos hr]
    rw [show dru n (.inr (l, br)) = 1 by unfold dru; rw [e1]; rfl, e1]
    obtain rfl : br = false := hr.1
    unfold rowOk at hr
    refine Tr.mono (R := fun v D => v = tup2 (I (l.getD 0 0)) (I 0) ∧ D = [pt b [slSub sv 1 l.length, .bool false, w0u, I (used + 1), .bool false] TRl, own TLI (slSub sv 1 l.length) (Is (l.drop 1))]) ?_ (fun v D h => ⟨h.1, slSub sv 1 l.length, h.2⟩)
    refine Tr.enter env _ Tryz.func66 (by kernel_rfl) rfl Tryz.ntmps66 rfl (by repeat (first | exact has00 | refine has01 ?_)) fun w0 => ?_
    refine TC.leni (l := l) fun hll => ?_
    refine TC.one (v := sv) (xs := Is l) fun hsv => ?_
    have hs1 := one_slSub hsv 1 l.length
    repeat' first|(refine wo ?_; first|(refine ao ?_; first|refine aw ?_|refine oa ?_)|refine oa ?_|refine ld ?_|refine lnm ?_|refine ixm ?_|refine li ?_|refine sr ?_|refine sclm ?_|refine gy ?_|(refine gsi (fun hB => ?_) (fun hB => ?_) <;> try (exfalso; omega)))|(refine gc ?_; first|refine cf ?_|(refine ci (fun hB => ?_) (fun hB => ?_) <;> try (exfalso; omega)))|refine sq ?_|refine rg ?_|refine xc ?_|refine nl ?_|refine sk ?_|refine rt ?_
    refine TX.im (sub_own (e := TLI) (v := sv) (l := l) (lo := 1) (hi := l.length) (by omega) (Nat.le_refl _) (by first | apply Fit.all | ((repeat (first | (apply Fit.nilN; (repeat (first | apply nrm_nil | apply nrm_cons)); try apply nrm_rfl) | (apply Fit.cons; focus ((repeat (first | apply Tk.here | apply Tk.there)); first | done | fail)))); first | done | fail))) ?_
    rw [List.take_length]
    exact r2 ⟨rfl, rfl⟩
  · have e1 : drw n (.inr (l, br)) = ((0, 12), .inr (l, true)) := by rw [drw_inr, if_pos hn, if_neg hr]
    rw [show dru n (.inr (l, br)) = 0 by unfold dru; rw [e1]; rfl, e1, Int.add_zero]
    refine Tr.mono (R := fun v D => v = tup2 (I 0) (I 12) ∧ D = [pt b [sv, .bool false, w0u, I used, .bool true] TRl, own TLI sv (Is l)]) ?_ (fun v D h => ⟨h.1, sv, h.2⟩)
    cases br with
    | true =>
      refine Tr.enter env _ Tryz.func66 (by kernel_rfl) rfl Tryz.ntmps66 rfl (by repeat (first | exact has00 | refine has01 ?_)) fun w0 => ?_
      repeat' first|(refine wo ?_; first|(refine ao ?_; first|refine oa ?_)|refine oa ?_|refine ld ?_|refine sr ?_|refine gy ?_|refine gn ?_|(refine gsi (fun hB => ?_) (fun hB => ?_) <;> try (exfalso; omega)))|(refine gc ?_; first|refine ct ?_|refine cf ?_|(refine ci (fun hB => ?_) (fun hB => ?_) <;> try (exfalso; omega)))|refine sq ?_|refine rg ?_|refine xc ?_|refine nl ?_|refine sk ?_|refine rt ?_
      exact r2 ⟨rfl, rfl⟩
    | false =>
      have hr' : ¬ (0 < l.length ∧ 0 ≤ l.getD 0 0 ∧ l.getD 0 0 < n) := fun k => hr ⟨rfl, k⟩
      refine Tr.enter env _ Tryz.func66 (by kernel_rfl) rfl Tryz.ntmps66 rfl (by repeat (first | exact has00 | refine has01 ?_)) fun w0 => ?_
      refine TC.leni (l := l) fun hll => ?_
      repeat' first|(refine wo ?_; first|(refine ao ?_; first|refine oa ?_)|refine oa ?_|refine ld ?_|refine lnm ?_|refine ixm ?_|refine li ?_|refine sr ?_|refine gy ?_|refine gn ?_|(refine gsi (fun hB => ?_) (fun hB => ?_) <;> try (exfalso; omega)))|(refine gc ?_; first|refine ct ?_|refine cf ?_|(refine ci (fun hB => ?_) (fun hB => ?_) <;> try (exfalso; omega)))|refine sq ?_|refine rg ?_|refine xc ?_|refine nl ?_|refine sk ?_|refine rt ?_
      all_goals first | (exfalso; omega) | exact r2 ⟨rfl, rfl⟩
theorem RDrawL_tr (b : Nat) (sv : Value) (x : Lw) (used n : Int) (hu : 0 ≤ used ∧ used ≤ 4611686018427387904) : Tr Tryz.prog 66 [ptr b, I n] [] [rlot b sv x used]
    fun v D => v = tup2 (I (drw n x).1.1) (I (drw n x).1.2) ∧ ∃ sv', D = [rlot b sv' (drw n x).2 (used + dru n x)] := by
  cases x with
  | inl st =>
    refine TrB1 (C := rloC b sv (.inl st) used) (RDraw_tr b st used n hu) fun v D h => ?_
    have e : ldraw n st used = ((drw n (.inl st)).1, ((if 1 ≤ n ∧ n ≤ 1099511627776 then (sdraw n.toNat st).2 else st), used + dru n (.inl st))) ∧ (drw n (.inl st)).2 = .inl (if 1 ≤ n ∧ n ≤ 1099511627776 then (sdraw n.toNat st).2 else st) := by
      unfold dru ldraw
      rw [drw_inl]
      split
      · exact ⟨rfl, rfl⟩
      · rw [if_neg (show ¬ (3 : Int) = 0 by decide), Int.add_zero]; exact ⟨rfl, rfl⟩
    rw [e.1] at h
    rw [e.2]
    exact ⟨h.1, sv, by rw [h.2]; rfl⟩
  | inr p =>
    obtain ⟨l, br⟩ := p
    exact TrB1 (RDrawRow_tr b sv l br used n hu) fun v D ⟨h1, sv', h2⟩ => ⟨h1, sv', by rw [h2]⟩
theorem ROrderL_tr (b : Nat) (sv : Value) (x : Lw) (used k d : Int) (hu : 0 ≤ used ∧ used ≤ 1152921504606846976) : Tr Tryz.prog 102 [ptr b, I k, I d] [] [rlot b sv x used]
    fun v D => ∃ o sv', v = tup2 o (I (ordO k d x).1.2) ∧ D = [own TLI o (Is (ordO k d x).1.1), rlot b sv' (ordO k d x).2.1 (used + (ordO k d x).2.2)] := by
  by_cases hsz : Sized k d
  rotate_left
  · rw [show ordO k d x = (([], 3), (x, 0)) from if_neg hsz, Int.add_zero]
    unfold Sized at hsz
    refine Tr.enter env _ Tryz.func102 (by kernel_rfl) rfl Tryz.ntmps102 rfl (by repeat (first | exact has00 | refine has01 ?_)) fun w0 => ?_
    refine TC.im (own_nil TLI _) ?_
    repeat' first|(refine wo ?_; first|(refine ao ?_; first|refine oa ?_)|refine oa ?_|refine gy ?_|refine gn ?_|(refine gsi (fun hB => ?_) (fun hB => ?_) <;> try (exfalso; omega)))|(refine gc ?_; first|refine ct ?_|(refine ci (fun hB => ?_) (fun hB => ?_) <;> try (exfalso; omega)))|refine sq ?_|refine rg ?_|refine xc ?_|refine nl ?_|refine rt ?_
    all_goals exact r2 ⟨nS, sv, rfl, rfl⟩
  have hO : ordO k d x = _ := if_pos hsz
  rw [hO]
  clear hO
  obtain ⟨k1, k2, d1, d2⟩ := id hsz
  have hul := upto_length k.toNat
  refine Tr.enter env _ Tryz.func102 (by kernel_rfl) rfl Tryz.ntmps102 rfl (by repeat (first | exact has00 | refine has01 ?_)) fun w0 => ?_
  repeat' first|(refine gca ?_; first|(refine ca (RAll_tr k ⟨k1, k2⟩) ?_; rintro pv _ ⟨hpv, rfl⟩))|(refine wo ?_; first|(refine ao ?_; first|refine oa ?_)|refine oa ?_|refine gy ?_|(refine gsi (fun hB => ?_) (fun hB => ?_) <;> try (exfalso; omega)))|(refine gc ?_; first|(refine ci (fun hB => ?_) (fun hB => ?_) <;> try (exfalso; omega)))|refine sq ?_|refine rg ?_|refine xc ?_|refine nl ?_|refine sk ?_|refine bk ?_
  generalize hF : ordW k.toNat d.toNat 0 (upto k.toNat) x = Fn at *
  refine TC.loop (ι := RwG) (fun g => [(9, I g.i)]) (fun g => [own TLI pv (Is g.l), rlot b g.sv g.x (used + g.i)]) (fun g => g.i ≤ d.toNat ∧ g.l.length = k.toNat ∧ g.l.take g.i ++ (ordW k.toNat (d.toNat - g.i) g.i g.l g.x).1.1 = Fn.1.1 ∧ (ordW k.toNat (d.toNat - g.i) g.i g.l g.x).1.2 = Fn.1.2 ∧ (ordW k.toNat (d.toNat - g.i) g.i g.l g.x).2 = Fn.2)
    (fun g => d.toNat - g.i) ⟨0, upto k.toNat, [], sv, x⟩ [0, 1, 2, 8] ⟨by simp, hul, by simp [hF], by simp [hF], by simp [hF]⟩ ?_ (hf := by dsimp only; rw [show used + ((0 : Nat) : Int) = used by omega]; first | apply Fit.all | ((repeat (first | (apply Fit.nilN; (repeat (first | apply nrm_nil | apply nrm_cons)); try apply nrm_rfl) | (apply Fit.cons; focus ((repeat (first | apply Tk.here | apply Tk.there)); first | done | fail)))); first | done | fail))
  clear hF hul
  rintro ⟨i, l, _, sv2, x2⟩ ⟨h1, h2, h3, h4, h5⟩
  dsimp only at h1 h2 h3 h4 h5 ⊢
  by_cases hi : i < d.toNat
  · have hki : 1 ≤ k - (i : Int) ∧ k - (i : Int) ≤ 1099511627776 := by omega
    have hkn : (k.toNat : Int) - (i : Int) = k - i := by omega
    rw [show d.toNat - i = (d.toNat - (i + 1)) + 1 by omega] at h3 h4 h5
    unfold ordW at h3 h4 h5
    rw [hkn] at h3 h4 h5
    have hD := RDrawL_tr b sv2 x2 (used + i) (k - i) (by omega)
    by_cases he : (drw (k - (i : Int)) x2).1.2 = 0
    · rw [if_pos he] at h3 h4 h5
      dsimp only at h3 h4 h5
      obtain ⟨q3, q4⟩ := drw_rng he
      rw [show dru (k - i) x2 = 1 from if_pos he, he] at hD
      obtain ⟨s, hs⟩ : ∃ s : Nat, (drw (k - (i : Int)) x2).1.1 = s := ⟨(drw (k - (i : Int)) x2).1.1.toNat, by omega⟩
      obtain ⟨x3, hx3⟩ : ∃ x3, x3 = (drw (k - (i : Int)) x2).2 := ⟨_, rfl⟩
      rw [hs] at h3 h4 h5 q3 q4 hD
      rw [← hx3] at h3 h4 h5 hD
      rw [Int.toNat_natCast] at h3 h4 h5
      clear hs hx3 he
      have htk := swp_take l (i := i) (j := i + s) (by omega) (by omega) (by omega)
      have hsw : swp l i (i + s) = (l.set (i + s) (l.getD i 0)).set i (l.getD (i + s) 0) := rfl
      have hsl := swp_length l i (i + s)
      generalize hx : l.getD (i + s) 0 = y1 at *
      generalize hy : l.getD i 0 = y2 at *
      have hq : (l.set (i + s) y2).length = l.length := List.length_set ..
      have hax : (i : Int) + s = ((i + s : Nat) : Int) := by omega
      repeat' first|(refine gca ?_; first|(refine ca hD ?_; rintro _ _ ⟨rfl, sv3, rfl⟩))|(refine aw (m := ((i + s : Nat) : Int)) ?_ (h := by rw [← hax]; rfl))|refine lie hx ?_|refine lie hy ?_|refine soi (l := l) (j := i + s) ?_|refine soi (l := l.set (i + s) y2) (j := i) ?_ (hj := by rw [List.length_set]; omega)|(refine wo ?_; first|(refine ao ?_; first|refine aw ?_|refine oa ?_)|refine oa ?_|refine ixmn ?_)|(refine gc ?_; first|refine cf ?_|(refine ci (fun hB => ?_) (fun hB => ?_) <;> try (exfalso; omega)))|refine sq ?_|refine rg ?_|refine xc ?_|refine nl ?_|refine sk ?_|refine bk ?_|refine xb ?_
      refine lp ⟨i + 1, swp l i (i + s), [], sv3, x3⟩ ⟨by dsimp only; omega, by dsimp only; omega, by dsimp only; rw [htk, List.append_assoc]; exact h3, h4, h5⟩ (hf := by dsimp only; rw [hsw, show used + ((i + 1 : Nat) : Int) = used + i + 1 by omega]; first | apply Fit.all | ((repeat (first | (apply Fit.nilN; (repeat (first | apply nrm_nil | apply nrm_cons)); try apply nrm_rfl) | (apply Fit.cons; focus ((repeat (first | apply Tk.here | apply Tk.there)); first | done | fail)))); first | done | fail))
    · rw [if_neg he] at h3 h4 h5
      dsimp only at h3 h4 h5
      rw [List.append_nil] at h3
      rw [show dru (k - i) x2 = 0 from if_neg he, Int.add_zero] at hD
      have hf0 : ¬ Fn.1.2 = 0 := by rw [← h4]; exact he
      rw [if_neg hf0]
      have hlen : Fn.1.1.length = i := by rw [← h3, List.length_take]; omega
      rw [← h4, ← h5, hlen]
      obtain ⟨dr, hdr⟩ : ∃ dr, dr = drw (k - (i : Int)) x2 := ⟨_, rfl⟩
      rw [← hdr] at hD he ⊢
      repeat' first|(refine gca ?_; first|(refine ca hD ?_; rintro _ _ ⟨rfl, sv3, rfl⟩))|(refine wo ?_; first|(refine ao ?_; first|refine aw ?_|refine oa ?_)|refine oa ?_)|(refine gc ?_; first|(refine ci (fun hB => ?_) (fun hB => ?_) <;> try (exfalso; omega))|(refine cn (fun hB => ?_) (fun hB => ?_) <;> try (exfalso; omega)))|refine sq ?_|refine rg ?_|refine xc ?_|refine nl ?_|refine sk ?_|refine bk ?_|refine rt ?_
      refine TX.im (own_nil TLI _) ?_
      exact r2 ⟨nS, sv3, rfl, rfl⟩
  · obtain rfl : i = d.toNat := by omega
    rw [Nat.sub_self] at h3 h4 h5
    unfold ordW at h3 h4 h5
    dsimp only at h3 h4 h5
    rw [List.append_nil] at h3
    rw [if_pos h4.symm]
    have hlen : Fn.1.1.length = d.toNat := by rw [← h3, List.length_take]; omega
    rw [← h4, ← h5, hlen]
    repeat' first|(refine wo ?_; first|(refine ao ?_; first|refine oa ?_)|refine oa ?_|refine schm ?_)|(refine gc ?_; first|(refine ci (fun hB => ?_) (fun hB => ?_) <;> try (exfalso; omega)))|refine sq ?_|refine rg ?_|refine xc ?_|refine nl ?_|refine xe ?_|refine rt ?_
    refine TX.im (sub_own (e := TLI) (v := pv) (l := l) (lo := 0) (hi := d.toNat) (Nat.zero_le _) (by omega) (by first | apply Fit.all | ((repeat (first | (apply Fit.nilN; (repeat (first | apply nrm_nil | apply nrm_cons)); try apply nrm_rfl) | (apply Fit.cons; focus ((repeat (first | apply Tk.here | apply Tk.there)); first | done | fail)))); first | done | fail))) ?_
    rw [List.drop_zero, h3]
    exact r2 ⟨slSub pv 0 d.toNat, sv2, rfl, rfl⟩
theorem RPickL_tr (b : Nat) (sv : Value) (x : Lw) (used k d : Int) (hu : 0 ≤ used ∧ used ≤ 1152921504606846976) : Tr Tryz.prog 67 [ptr b, I k, I d] [] [rlot b sv x used]
    fun v D => ∃ o sv', v = tup2 o (I (pickO k d x).2) ∧ D = [own TLI o (Is (pickO k d x).1), rlot b sv' (ordO k d x).2.1 (used + (ordO k d x).2.2)] := by
  have hlen := ordO_len k d x
  refine Tr.enter env _ Tryz.func67 (by kernel_rfl) rfl Tryz.ntmps67 rfl (by repeat (first | exact has00 | refine has01 ?_)) fun w0 => ?_
  repeat' first|(refine gca ?_; first|(refine ca (ROrderL_tr b sv x used k d hu) ?_; rintro _ _ ⟨o, sv2, rfl, rfl⟩)|(refine ca (rising_tr o (ordO k d x).1.1 hlen) ?_; rintro v2 _ rfl))|(refine wo ?_; first|refine oa ?_)|refine sq ?_|refine rg ?_|refine xc ?_|refine nl ?_|refine rt ?_
  exact r2 ⟨v2, sv2, rfl, rfl⟩
end Go.Art
set_option linter.unusedSimpArgs false
set_option linter.unusedVariables false
namespace Go.Art
open Go Go.Proofs Go.RowKit
theorem pickO_err {k d : Int} {x : Lw} (h : (pickO k d x).2 ≠ 0) : (pickO k d x).1 = [] := by
  unfold pickO ordO at h ⊢
  split
  · rename_i hs
    rw [if_pos hs] at h
    dsimp only at h ⊢
    rw [if_neg h]
    exact List.perm_nil.1 (srt_perm [])
  · exact List.perm_nil.1 (srt_perm [])
def colBad (tot : Int) (cut oth : List Int) (i : Nat) : Prop := cut.getD i 0 < 0 ∨ tot < cut.getD i 0 ∨ oth.getD i 0 < 0 ∨ (cut.length : Int) ≤ oth.getD i 0
def alFst (tot : Int) (cut oth : List Int) : Prop := (1 ≤ tot ∧ tot ≤ 1099511627776) ∧ (1 ≤ cut.length ∧ cut.length ≤ 65536) ∧ oth.length = cut.length
theorem alE_bad {tot : Int} {cut oth : List Int} (h : alFst tot cut oth) {i : Nat} (hi : i < cut.length) (hb : colBad tot cut oth i) : alE tot cut oth = 6 := by
  unfold alE
  unfold alFst at h
  rw [if_neg (by omega), if_pos]
  have a1 : cut.getD i 0 ∈ cut := mem_getD.2 ⟨i, hi, rfl⟩
  have a2 : oth.getD i 0 ∈ oth := mem_getD.2 ⟨i, by omega, rfl⟩
  unfold colBad at hb
  rw [Bool.or_eq_true]
  by_cases h1 : cut.getD i 0 < 0 ∨ tot < cut.getD i 0
  · exact .inl (List.any_eq_true.2 ⟨_, a1, decide_eq_true (by omega)⟩)
  · exact .inr (List.any_eq_true.2 ⟨_, a2, decide_eq_true (by omega)⟩)
theorem alE_fine {tot : Int} {cut oth : List Int} (h : alFst tot cut oth) (hb : ∀ i, i < cut.length → ¬ colBad tot cut oth i) : alE tot cut oth = 0 := by
  unfold alE
  unfold alFst at h
  rw [if_neg (by omega), if_neg]
  rw [Bool.or_eq_true]
  rintro (h1 | h1)
  · obtain ⟨y, hy, h2⟩ := List.any_eq_true.1 h1
    obtain ⟨i, hi, rfl⟩ := mem_getD.1 hy
    have h3 := of_decide_eq_true h2
    exact hb i hi (by unfold colBad; omega)
  · obtain ⟨y, hy, h2⟩ := List.any_eq_true.1 h1
    obtain ⟨i, hi, rfl⟩ := mem_getD.1 hy
    have h3 := of_decide_eq_true h2
    exact hb i (by omega) (by unfold colBad; omega)
theorem alE_not {tot : Int} {cut oth : List Int} (h : ¬ alFst tot cut oth) : alE tot cut oth = 6 := by
  unfold alE
  unfold alFst at h
  rw [if_pos (by omega)]
attribute [local irreducible] Fit pt own ro vw mpc lpt vels rels mow lrc dfr
attribute [local irreducible] lmp lme mit velg relg
theorem RAlE_tr (tot : Int) (cv ov : Value) (cut oth : List Int) (hc : cv.oneCell' = true) (ho : ov.oneCell' = true) : Tr Tryz.prog 73 [.agg #[I tot, cv, ov]] [vw cv (Is cut), vw ov (Is oth)] [] fun v D => v = I (alE tot cut oth) ∧ D = [] := by
  by_cases hf : alFst tot cut oth
  rotate_left
  · rw [alE_not hf]
    unfold alFst at hf
    refine Tr.enter env _ Tryz.func73 (by kernel_rfl) rfl Tryz.ntmps73 rfl (by repeat (first | exact has00 | refine has01 ?_)) fun w0 => ?_
    refine TC.leni (v := cv) (l := cut) fun hcl => ?_
    refine TC.leni (v := ov) (l := oth) fun hol => ?_
    repeat' first|refine bx fun b => ?_|(refine wo ?_; first|(refine ao ?_; first|refine oa ?_)|refine oa ?_|refine ld ?_|refine lnm ?_|refine gy ?_|refine gn ?_|(refine gsi (fun hB => ?_) (fun hB => ?_) <;> try (exfalso; omega)))|(refine gc ?_; first|refine ct ?_|(refine cn (fun hB => ?_) (fun hB => ?_) <;> try (exfalso; omega)))|refine sq ?_|refine rg ?_|refine xc ?_|refine nl ?_|refine rt ?_
    all_goals exact r1 ⟨rfl, rfl⟩
  have hbad := fun i hi hb => alE_bad (i := i) hf hi hb
  have hfine := alE_fine hf
  generalize alE tot cut oth = e at *
  unfold alFst at hf
  refine Tr.enter env _ Tryz.func73 (by kernel_rfl) rfl Tryz.ntmps73 rfl (by repeat (first | exact has00 | refine has01 ?_)) fun w0 => ?_
  repeat' first|refine bx fun b => ?_|(refine wo ?_; first|(refine ao ?_; first|refine oa ?_)|refine oa ?_|refine ld ?_|refine lnm ?_|refine gy ?_|(refine gsi (fun hB => ?_) (fun hB => ?_) <;> try (exfalso; omega)))|(refine gc ?_; first|(refine cn (fun hB => ?_) (fun hB => ?_) <;> try (exfalso; omega)))|refine sq ?_|refine rg ?_|refine xc ?_|refine nl ?_|refine sk ?_|refine bk ?_
  refine TC.loop (ι := Nat) (fun i => [(4, I i)]) (fun _ => []) (fun i => i ≤ cut.length ∧ ∀ j, j < i → ¬ colBad tot cut oth j) (fun i => cut.length - i) 0 [1, 3] ⟨Nat.zero_le _, fun j h => absurd h (Nat.not_lt_zero j)⟩ ?_
  rintro i ⟨hi, hok⟩
  by_cases hlt : i < cut.length
  · have hb1 := hbad i hlt
    have hnx : ¬ colBad tot cut oth i → ∀ j, j < i + 1 → ¬ colBad tot cut oth j := fun h j hj => by
      by_cases e : j = i
      · rw [e]; exact h
      · exact hok j (by omega)
    unfold colBad at hb1 hnx
    clear hbad hfine hok
    generalize hx : cut.getD i 0 = x at *
    generalize hy : oth.getD i 0 = y at *
    by_cases hb : x < 0 ∨ tot < x ∨ y < 0 ∨ (cut.length : Int) ≤ y
    · have e6 := hb1 hb
      subst e6
      clear hb1 hnx
      repeat' first|refine qlie hx ?_|refine qlie hy ?_|(refine wo ?_; first|(refine ao ?_; first|refine oa ?_)|refine oa ?_)|(refine gc ?_; first|refine ct ?_|(refine ci (fun hB => ?_) (fun hB => ?_) <;> try (exfalso; omega)))|refine sq ?_|refine rg ?_|refine xc ?_|refine nl ?_|refine sk ?_|refine bk ?_|refine rt ?_|refine rq ?_|refine nq ?_|(refine wq ?_; first|(refine qao ?_; first|refine qa ?_)|refine qa ?_|refine qld ?_|refine qixmn ?_|refine qgy ?_|refine qgn ?_|(refine qgsi (fun hB => ?_) (fun hB => ?_) <;> try (exfalso; omega)))
      all_goals exact r1 ⟨rfl, rfl⟩
    · have hn := hnx hb
      clear hb1 hnx
      repeat' first|refine qlie hx ?_|refine qlie hy ?_|(refine wo ?_; first|(refine ao ?_; first|refine aw ?_|refine oa ?_)|refine oa ?_)|(refine gc ?_; first|(refine ci (fun hB => ?_) (fun hB => ?_) <;> try (exfalso; omega)))|refine sq ?_|refine rg ?_|refine xc ?_|refine nl ?_|refine sk ?_|refine bk ?_|refine xb ?_|refine rq ?_|refine nq ?_|(refine wq ?_; first|(refine qao ?_; first|refine qa ?_)|refine qa ?_|refine qld ?_|refine qixmn ?_|refine qgy ?_|(refine qgsi (fun hB => ?_) (fun hB => ?_) <;> try (exfalso; omega)))
      exact lp (i + 1) ⟨hlt, by unfold colBad; exact hn⟩
  · obtain rfl : i = cut.length := by omega
    have e0 := hfine hok
    subst e0
    repeat' first|(refine wo ?_; first|(refine ao ?_; first|refine oa ?_)|refine oa ?_)|(refine gc ?_; first|(refine ci (fun hB => ?_) (fun hB => ?_) <;> try (exfalso; omega)))|refine sq ?_|refine rg ?_|refine xc ?_|refine nl ?_|refine xe ?_|refine rt ?_
    exact r1 ⟨rfl, rfl⟩
theorem RAlPk_tr (tot c l : Int) (cv ov : Value) (cut oth : List Int) (hc : cv.oneCell' = true) (ho : ov.oneCell' = true) (hE : alE tot cut oth = 0) (h1 : 0 ≤ c ∧ c < cut.length) (h2 : 0 ≤ l ∧ l < tot) :
    Tr Tryz.prog 104 [.agg #[I tot, cv, ov], I c, I l] [vw cv (Is cut), vw ov (Is oth)] [] fun v D => v = tup2 (I (alPick tot cut oth c l)) (I 0) ∧ D = [] := by
  have hol : oth.length = cut.length := by
    refine Classical.byContradiction fun hn => ?_
    have := alE_not (tot := tot) (cut := cut) (oth := oth) (fun h => hn h.2.2)
    omega
  have hA := RAlE_tr tot cv ov cut oth hc ho
  rw [hE] at hA
  refine Tr.enter env _ Tryz.func104 (by kernel_rfl) rfl Tryz.ntmps104 rfl (by repeat (first | exact has00 | refine has01 ?_)) fun w0 => ?_
  repeat' first|(refine gca ?_; first|(refine ca hA ?_; rintro _ _ ⟨rfl, rfl⟩))|refine bx fun b => ?_|refine lda ?_|(refine wo ?_; first|(refine ao ?_; first|refine oa ?_)|refine oa ?_|refine ld ?_|refine lnm ?_|refine ixm ?_|refine li ?_|refine gy ?_|(refine gsi (fun hB => ?_) (fun hB => ?_) <;> try (exfalso; omega)))|(refine gc ?_; first|refine cf ?_|(refine ci (fun hB => ?_) (fun hB => ?_) <;> try (exfalso; omega)))|refine sq ?_|refine rg ?_|refine xc ?_|refine nl ?_|refine sk ?_|refine bk ?_|refine rt ?_|refine xb ?_
  · refine r2 ⟨?_, rfl⟩
    unfold alPick; rw [if_pos hB]
  · refine r2 ⟨?_, rfl⟩
    unfold alPick; rw [if_neg hB]
theorem RRwE_tr (tot k : Int) (cv ov : Value) (cut oth : List Int) (hc : cv.oneCell' = true) (ho : ov.oneCell' = true) : Tr Tryz.prog 30 [.agg #[I tot, cv, ov], I k] [vw cv (Is cut), vw ov (Is oth)] [] fun v D => v = I (rwE tot cut oth k) ∧ D = [] := by
  have hA := RAlE_tr tot cv ov cut oth hc ho
  unfold rwE
  rcases alE_or tot cut oth with hE | hE
  · rw [hE] at hA
    rw [if_pos hE]
    refine Tr.enter env _ Tryz.func30 (by kernel_rfl) rfl Tryz.ntmps30 rfl (by repeat (first | exact has00 | refine has01 ?_)) fun w0 => ?_
    repeat' first|(refine gca ?_; first|(refine ca hA ?_; rintro _ _ ⟨rfl, rfl⟩))|refine bx fun b => ?_|refine lda ?_|(refine wo ?_; first|(refine ao ?_; first|refine oa ?_)|refine oa ?_|refine ld ?_|refine lnm ?_|refine gy ?_|refine gn ?_|(refine gsi (fun hB => ?_) (fun hB => ?_) <;> try (exfalso; omega)))|(refine gc ?_; first|refine ct ?_|refine cf ?_|(refine ci (fun hB => ?_) (fun hB => ?_) <;> try (exfalso; omega)))|refine sq ?_|refine rg ?_|refine xc ?_|refine nl ?_|refine sk ?_|refine rt ?_
    · exact r1 ⟨by rw [if_pos (by omega)], rfl⟩
    · exact r1 ⟨by rw [if_pos (by omega)], rfl⟩
    · exact r1 ⟨by rw [if_pos (by omega)], rfl⟩
    · exact r1 ⟨by rw [if_neg (by omega)], rfl⟩
  · rw [hE] at hA
    rw [if_neg (by omega)]
    refine Tr.enter env _ Tryz.func30 (by kernel_rfl) rfl Tryz.ntmps30 rfl (by repeat (first | exact has00 | refine has01 ?_)) fun w0 => ?_
    repeat' first|(refine gca ?_; first|(refine ca hA ?_; rintro _ _ ⟨rfl, rfl⟩))|refine bx fun b => ?_|refine lda ?_|(refine wo ?_; first|(refine ao ?_; first|refine oa ?_)|refine oa ?_)|(refine gc ?_; first|refine ct ?_)|refine sq ?_|refine rg ?_|refine xc ?_|refine nl ?_|refine rt ?_
    exact r1 ⟨rfl, rfl⟩
theorem degreeW_tr (tot c l : Int) (cv ov : Value) (cut oth : List Int) (hc : cv.oneCell' = true) (ho : ov.oneCell' = true) (hE : alE tot cut oth = 0) (h1 : 0 ≤ c ∧ c < cut.length) (h2 : 0 ≤ l ∧ l < tot) :
    Tr Tryz.prog 68 [.agg #[I tot, cv, ov], I c, I l] [vw cv (Is cut), vw ov (Is oth)] [] fun v D => v = I (alPick tot cut oth c l + 1) ∧ D = [] := by
  have hP := RAlPk_tr tot c l cv ov cut oth hc ho hE h1 h2
  have hb := alE_bnd hE
  have h3 := alPick_in hE (l := l) h1
  generalize alPick tot cut oth c l = a at *
  refine Tr.enter env _ Tryz.func68 (by kernel_rfl) rfl Tryz.ntmps68 rfl (by repeat (first | exact has00 | refine has01 ?_)) fun w0 => ?_
  repeat' first|(refine gca ?_; first|(refine ca hP ?_; rintro _ _ ⟨rfl, rfl⟩))|refine bx fun b => ?_|refine lda ?_|(refine wo ?_; first|(refine ao ?_; first|refine aw ?_)|refine oa ?_)|refine sq ?_|refine rg ?_|refine xc ?_|refine nl ?_|refine rt ?_
  exact r1 ⟨rfl, rfl⟩
theorem RSetW_tr (tot k : Int) (cv ov : Value) (cut oth : List Int) (b : Nat) (sv : Value) (x : Lw) (hc : cv.oneCell' = true) (ho : ov.oneCell' = true) :
    Tr Tryz.prog 25 [.agg #[I tot, cv, ov], I k, ptr b] [vw cv (Is cut), vw ov (Is oth)] [rlot b sv x 0] fun v D => ∃ o sv', v = tup2 o (I (setW tot cut oth k x).1.2) ∧ D = [own TLI o (Is (setW tot cut oth k x).1.1), rlot b sv' (setW tot cut oth k x).2.1 (setW tot cut oth k x).2.2] := by
  have hck := RRwE_tr tot k cv ov cut oth hc ho
  unfold setW
  by_cases hk : rwE tot cut oth k = 0
  rotate_left
  · rw [if_neg hk]
    generalize rwE tot cut oth k = e at *
    refine Tr.enter env _ Tryz.func25 (by kernel_rfl) rfl Tryz.ntmps25 rfl (by repeat (first | exact has00 | refine has01 ?_)) fun w0 => ?_
    repeat' first|(refine gca ?_; first|(refine ca hck ?_; rintro _ _ ⟨rfl, rfl⟩))|refine bx fun b => ?_|refine lda ?_|(refine wo ?_; first|(refine ao ?_; first|refine oa ?_)|refine oa ?_)|(refine gc ?_; first|(refine cn (fun hB => ?_) (fun hB => ?_) <;> try (exfalso; omega)))|refine sq ?_|refine rg ?_|refine xc ?_|refine nl ?_|refine rt ?_
    refine TX.im (own_nil TLI _) ?_
    exact r2 ⟨nS, sv, rfl, rfl⟩
  rw [hk] at hck
  rw [if_pos hk]
  obtain ⟨hE, k1, k2, k3⟩ := rwE_ok hk
  clear hk
  have hb := alE_bnd hE
  have h1 := RDrawL_tr b sv x 0 cut.length (by omega)
  have hpi := @plcW_in tot cut oth x hE
  unfold plcW at hpi ⊢
  by_cases he1 : (drw cut.length x).1.2 = 0
  · simp only [if_pos he1] at hpi ⊢
    rw [show dru cut.length x = 1 from if_pos he1, he1, Int.zero_add] at h1
    have l1 := drw_rng he1
    clear he1
    generalize (drw cut.length x).1.1 = c at *
    generalize (drw cut.length x).2 = x1 at *
    have h2 := fun sv1 => RDrawL_tr b sv1 x1 1 tot (by omega)
    by_cases he2 : (drw tot x1).1.2 = 0
    · simp only [if_pos he2] at hpi ⊢
      rw [show dru tot x1 = 1 from if_pos he2, he2] at h2
      have l2 := drw_rng he2
      clear he2
      generalize (drw tot x1).1.1 = l at *
      generalize (drw tot x1).2 = x2 at *
      have hd := degreeW_tr tot c l cv ov cut oth hc ho hE (by omega) (by omega)
      generalize alPick tot cut oth c l = at1 at *
      have h3 := fun sv1 => RPickL_tr b sv1 x2 (1 + 1) k (at1 + 1) (by omega)
      have hpe := @pickO_err k (at1 + 1) x2
      generalize pickO k (at1 + 1) x2 = pk at *
      generalize ordO k (at1 + 1) x2 = oo at *
      rw [if_pos trivial]
      by_cases hp : pk.2 = 0
      · rw [hp] at h3 ⊢
        refine Tr.enter env _ Tryz.func25 (by kernel_rfl) rfl Tryz.ntmps25 rfl (by repeat (first | exact has00 | refine has01 ?_)) fun w0 => ?_
        repeat' first|(refine gca ?_; first|(refine ca hck ?_; rintro _ _ ⟨rfl, rfl⟩)|(refine ca h1 ?_; rintro _ _ ⟨rfl, sv1, rfl⟩)|(refine ca (h2 sv1) ?_; rintro _ _ ⟨rfl, sv2, rfl⟩)|(refine ca hd ?_; rintro _ _ ⟨rfl, rfl⟩)|(refine ca (h3 sv2) ?_; rintro _ _ ⟨o, sv3, rfl, rfl⟩))|refine bx fun b => ?_|refine lda ?_|(refine wo ?_; first|(refine ao ?_; first|refine oa ?_)|refine oa ?_|refine ld ?_|refine lnm ?_)|(refine gc ?_; first|refine cf ?_)|refine sq ?_|refine rg ?_|refine xc ?_|refine nl ?_|refine sk ?_|refine rt ?_
        exact r2 ⟨o, sv3, rfl, by rw [show (2 : Int) = 1 + 1 from rfl]⟩
      · have hn := hpe hp
        rw [hn]
        rw [hn] at h3
        generalize pk.2 = pe at *
        refine Tr.enter env _ Tryz.func25 (by kernel_rfl) rfl Tryz.ntmps25 rfl (by repeat (first | exact has00 | refine has01 ?_)) fun w0 => ?_
        repeat' first|(refine gca ?_; first|(refine ca hck ?_; rintro _ _ ⟨rfl, rfl⟩)|(refine ca h1 ?_; rintro _ _ ⟨rfl, sv1, rfl⟩)|(refine ca (h2 sv1) ?_; rintro _ _ ⟨rfl, sv2, rfl⟩)|(refine ca hd ?_; rintro _ _ ⟨rfl, rfl⟩)|(refine ca (h3 sv2) ?_; rintro _ _ ⟨o, sv3, rfl, rfl⟩))|refine bx fun q => ?_|refine lda ?_|(refine wo ?_; first|(refine ao ?_; first|refine oa ?_)|refine oa ?_|refine ld ?_|refine lnm ?_)|(refine gc ?_; first|refine cf ?_|(refine cn (fun hB => ?_) (fun hB => ?_) <;> try (exfalso; omega)))|refine sq ?_|refine rg ?_|refine xc ?_|refine nl ?_|refine sk ?_|refine rt ?_
        refine TX.im (own_nil TLI _) ?_
        exact r2 ⟨nS, sv3, rfl, by rw [show (2 : Int) = 1 + 1 from rfl]⟩
    · simp only [if_neg he2] at hpi ⊢
      rw [show dru tot x1 = 0 from if_neg he2] at h2
      generalize (drw tot x1).1.1 = n2 at *
      generalize (drw tot x1).1.2 = e2 at *
      generalize (drw tot x1).2 = x2 at *
      refine Tr.enter env _ Tryz.func25 (by kernel_rfl) rfl Tryz.ntmps25 rfl (by repeat (first | exact has00 | refine has01 ?_)) fun w0 => ?_
      repeat' first|(refine gca ?_; first|(refine ca hck ?_; rintro _ _ ⟨rfl, rfl⟩)|(refine ca h1 ?_; rintro _ _ ⟨rfl, sv1, rfl⟩)|(refine ca (h2 sv1) ?_; rintro _ _ ⟨rfl, sv2, rfl⟩))|refine bx fun q => ?_|refine lda ?_|(refine wo ?_; first|(refine ao ?_; first|refine oa ?_)|refine oa ?_|refine ld ?_|refine lnm ?_)|(refine gc ?_; first|refine cf ?_|(refine cn (fun hB => ?_) (fun hB => ?_) <;> try (exfalso; omega)))|refine sq ?_|refine rg ?_|refine xc ?_|refine nl ?_|refine sk ?_|refine rt ?_
      refine TX.im (own_nil TLI _) ?_
      exact r2 ⟨nS, sv2, rfl, rfl⟩
  · simp only [if_neg he1] at hpi ⊢
    rw [show dru cut.length x = 0 from if_neg he1] at h1
    generalize (drw cut.length x).1.1 = n2 at *
    generalize (drw cut.length x).1.2 = e2 at *
    generalize (drw cut.length x).2 = x2 at *
    refine Tr.enter env _ Tryz.func25 (by kernel_rfl) rfl Tryz.ntmps25 rfl (by repeat (first | exact has00 | refine has01 ?_)) fun w0 => ?_
    repeat' first|(refine gca ?_; first|(refine ca hck ?_; rintro _ _ ⟨rfl, rfl⟩)|(refine ca h1 ?_; rintro _ _ ⟨rfl, sv1, rfl⟩))|refine bx fun q => ?_|refine lda ?_|(refine wo ?_; first|(refine ao ?_; first|refine oa ?_)|refine oa ?_|refine ld ?_|refine lnm ?_)|(refine gc ?_; first|refine cf ?_|(refine cn (fun hB => ?_) (fun hB => ?_) <;> try (exfalso; omega)))|refine sq ?_|refine rg ?_|refine xc ?_|refine nl ?_|refine sk ?_|refine rt ?_
    refine TX.im (own_nil TLI _) ?_
    exact r2 ⟨nS, sv1, rfl, rfl⟩
end Go.Art
set_option linter.unusedSimpArgs false
set_option linter.unusedVariables false
namespace Go.Art
open Go Go.Proofs Go.RowKit
attribute [local irreducible] Fit pt own ro vw mpc lpt vels rels mow lrc dfr
end Go.Art
set_option linter.unusedSimpArgs false
set_option linter.unusedVariables false
namespace Go.Art
open Go Go.Proofs Go.RowKit
attribute [local irreducible] Fit pt own ro vw mpc lpt vels rels mow lrc dfr
theorem OverInts_tr (a : Value) (xs : List Int) : Tr Tryz.prog 31 [a] [] [own 3 a (Is xs)] fun v D => D = [] := by
  refine Tr.enter env _ Tryz.func31 (by kernel_rfl) rfl Tryz.ntmps31 rfl (by repeat (first | exact has00 | refine has01 ?_)) fun w0 => ?_
  refine TC.leni (l := xs) fun hl => ?_
  repeat' first|(refine wo ?_; first|refine oa ?_)|refine sq ?_|refine rg ?_|refine xc ?_|refine nl ?_|refine bk ?_
  refine TC.loop (ι := Nat × List Int) (fun k => [(2, I k.1)]) (fun k => [own 3 a (Is k.2)]) (fun k => k.2.length = xs.length ∧ k.1 ≤ xs.length) (fun k => xs.length - k.1) (0, xs) [0] ⟨rfl, by simp⟩ ?_
  rintro ⟨k, ys⟩ ⟨hl, hk⟩
  dsimp only at hl hk ⊢
  repeat' first|(refine wo ?_; first|(refine ao ?_; first|refine aw ?_|refine oa ?_)|refine oa ?_|refine lnm ?_|refine ixmn ?_|refine soi ?_)|(refine gc ?_; first|(refine ci (fun hB => ?_) (fun hB => ?_) <;> try (exfalso; omega)))|refine sq ?_|refine rg ?_|refine xc ?_|refine nl ?_|refine sk ?_|refine bk ?_|refine xe ?_|refine xb ?_
  · exact lp (k + 1, ys.set k (-77)) ⟨by simp [hl], by dsimp only; omega⟩
  · exact e0 rfl
end Go.Art
set_option linter.unusedSimpArgs false
set_option linter.unusedVariables false
namespace Go.Art
open Go Go.Proofs Go.RowKit
theorem has_bnd {F C : List Ch} {c : Ch} (h : bnd C ∈ F) (k : Has C c) : Has F c := ⟨fun w hw => k.P w (hw.h (bnd C) h), k.wr, k.rd, fun b hb => ⟨bnd C, h, bnd_ft.2 (k.ft b hb)⟩⟩
def loH (r : Nat) (x : Lw) (used : Int) : List Value :=
  match x with
  | .inl _ => [.iface TpS (ptr r), I used, .bool false]
  | .inr (_, br) => [.iface TpR (ptr r), I used, .bool br]
theorem has_lot {F : List Ch} {b r : Nat} {sv : Value} {x : Lw} {used : Int} (h : lot b r sv x used ∈ F) : Has F (lpt b (loH r x used) TLo) := by
  refine has_bnd h ?_
  cases x with
  | inl st => exact has_pt (T := TLo) (b := b) (cs := [.iface TpS (ptr r), I used, .bool false]) (List.Mem.head _)
  | inr p => obtain ⟨l, br⟩ := p; exact has_pt (T := TLo) (b := b) (cs := [.iface TpR (ptr r), I used, .bool br]) (List.Mem.head _)
def rloH (sv : Value) (x : Lw) (used : Int) : List Value :=
  match x with
  | .inl st => [nS, .bool true, U st, I used, .bool false]
  | .inr (_, br) => [sv, .bool false, w0u, I used, .bool br]
theorem has_rlot {F : List Ch} {b : Nat} {sv : Value} {x : Lw} {used : Int} (h : rlot b sv x used ∈ F) : Has F (lpt b (rloH sv x used) TRl) := by
  refine has_bnd h ?_
  cases x with
  | inl st => exact has_pt (T := TRl) (b := b) (cs := [nS, .bool true, U st, I used, .bool false]) (List.Mem.head _)
  | inr p => obtain ⟨l, br⟩ := p; exact has_pt (T := TRl) (b := b) (cs := [sv, .bool false, w0u, I used, .bool br]) (List.Mem.head _)
theorem rloH_3 (sv : Value) (x : Lw) (used : Int) : (rloH sv x used)[3]? = some (I used) := by
  cases x with
  | inl st => rfl
  | inr p => obtain ⟨l, br⟩ := p; rfl
theorem rlot_told {A : List Ch} {b : Nat} {sv : Value} {x : Lw} {used : Int} (h : rlot b sv x used ∈ A) {w : World} (hw : Sat A w) : w.cell? ⟨b, 3, none⟩ = some (I used) := blk_cell ((has_rlot h).P w hw) (by simpa using rloH_3 sv x used)
section
variable {P : Program} {E : Env P} {n : Sh} {X : Cx} {s : List K} {fr : Fr} {A : List Ch} {ops : Array Oper} {rest : List Oper} {d : Nat} {ty t : TypeId} {pos : String} {after : Array Edge} {x : Operand} {dt : TypeDesc} {sz by_ : Nat} {z : Value} {cs vs : List Value} {b j : Nat} {T : TypeId}
theorem qtold {b : Nat} {sv : Value} {y : Lw} {used : Int} (k : TQ E n X s ops rest ((d, I used) :: fr) A) (hx : ev fr x = some (.pointer (some ⟨b, 3, none⟩)) := by rfl) (hm : rlot b sv y used ∈ A := by (repeat (first | apply List.Mem.head | apply List.Mem.tail)); first | done | fail) (ht : lk E.und t = some dt := by rfl) (hg : aggB dt = false := by rfl) (hd : Nat.blt d n.n = true := by rfl) :
    TQ E n X s ops (⟨some d, .load t x, ty, pos, after, none⟩ :: rest) fr A := TQ.val (fun _ hw => R_load ht hg hx (rlot_told hm hw)) k hd
theorem qlda (k : TQ E n X s ops rest ((d, .agg vs.toArray) :: fr) A) (hx : ev fr x = some (.pointer (some ⟨b, j, none⟩)) := by rfl) (hm : pt b cs T ∈ A := by (repeat (first | apply List.Mem.head | apply List.Mem.tail)); first | done | fail) (ht : lk E.und t = some dt := by rfl) (hg : aggB dt = true := by rfl) (hi : lk E.inf t = some (z, sz, by_) := by rfl)
    (hv : (cs.drop j).take sz = vs := by rfl) (hl : vs.length = sz := by rfl) (hd : Nat.blt d n.n = true := by rfl) : TQ E n X s ops (⟨some d, .load t x, ty, pos, after, none⟩ :: rest) fr A := TQ.val (fun _ h => R_loadA ht hg hi hx (h.h (pt b cs T) hm) hv hl) k hd
end
attribute [local irreducible] Fit pt own ro vw mpc lpt vels rels mow lrc dfr
attribute [local irreducible] lmp lme mit velg relg
theorem Used_tr (b r : Nat) (x : Lw) (used : Int) : Tr Tryz.prog 28 [ptr b] [lpt b (loH r x used) TLo] [] fun v D => v = I used ∧ D = [] := by
  cases x with
  | inl st =>
    show Tr _ _ _ [lpt b [.iface TpS (ptr r), I used, .bool false] TLo] _ _
    refine Tr.enter env _ Tryz.func28 (by kernel_rfl) rfl Tryz.ntmps28 rfl (by repeat (first | exact has00 | refine has01 ?_)) fun w0 => ?_
    repeat' first|(refine gca ?_; first|(refine ca (none_tr b r 0 used false) ?_; rintro _ _ ⟨rfl, rfl⟩))|(refine wo ?_; first|refine oa ?_|refine ldl ?_)|(refine gc ?_; first|refine cf ?_)|refine sq ?_|refine rg ?_|refine xc ?_|refine nl ?_|refine sk ?_|refine rt ?_
    exact r1 ⟨rfl, rfl⟩
  | inr p =>
    obtain ⟨l, br⟩ := p
    show Tr _ _ _ [lpt b [.iface TpR (ptr r), I used, .bool br] TLo] _ _
    refine Tr.enter env _ Tryz.func28 (by kernel_rfl) rfl Tryz.ntmps28 rfl (by repeat (first | exact has00 | refine has01 ?_)) fun w0 => ?_
    repeat' first|(refine gca ?_; first|(refine ca (noneR_tr b r used br) ?_; rintro _ _ ⟨rfl, rfl⟩))|(refine wo ?_; first|refine oa ?_|refine ldl ?_)|(refine gc ?_; first|refine cf ?_)|refine sq ?_|refine rg ?_|refine xc ?_|refine nl ?_|refine sk ?_|refine rt ?_
    exact r1 ⟨rfl, rfl⟩
theorem farK_tr (k : Int) : Tr Tryz.prog 10 [I k] [] [] fun v D => v = .bool (decide (300 < k ∧ k ≤ 65536)) ∧ D = [] := by
  refine Tr.enter env _ Tryz.func10 (by kernel_rfl) rfl Tryz.ntmps10 rfl (by repeat (first | exact has00 | refine has01 ?_)) fun w0 => ?_
  repeat' first|(refine wo ?_; first|(refine ao ?_; first|refine oa ?_)|refine oa ?_|refine gy ?_|refine gn ?_|(refine gsi (fun hB => ?_) (fun hB => ?_) <;> try (exfalso; omega)))|refine sq ?_|refine rg ?_|refine xc ?_|refine nl ?_|refine rt ?_
  · refine r1 ⟨?_, rfl⟩
    congr 1; exact decide_eq_decide.2 ⟨fun h => ⟨hB, h⟩, fun h => h.2⟩
  · refine r1 ⟨?_, rfl⟩
    rw [decide_eq_false fun h => hB h.1]
theorem CopyIntsV_tr (a : Value) (xs : List Int) (hb : xs.length ≤ 17592186044416) : Tr Tryz.prog 13 [a] [vw a (Is xs)] [] fun v D => v.oneCell' = true ∧ D = [own TLI v (Is xs)] := by
  refine Tr.enter env _ Tryz.func13 (by kernel_rfl) rfl Tryz.ntmps13 rfl (by repeat (first | exact has00 | refine has01 ?_)) fun w0 => ?_
  repeat' first|(refine sl0 fun o => ?_)|(refine api (l := []) (news := xs) (fun o => ?_); refine TO.one (v := o) (xs := Is ([] ++ xs)) fun ho => ?_)|(refine wo ?_; first|refine oa ?_)|refine sq ?_|refine rg ?_|refine xc ?_|refine nl ?_|refine rt ?_
  exact r1 ⟨ho, rfl⟩
theorem CopyAlias_tr (tot : Int) (cv ov : Value) (cut oth : List Int) (h1 : cut.length ≤ 17592186044416) (h2 : oth.length ≤ 17592186044416) (hc : cv.oneCell' = true) (ho : ov.oneCell' = true) : Tr Tryz.prog 12 [.agg #[I tot, cv, ov]] [vw cv (Is cut), vw ov (Is oth)] []
    fun v D => ∃ c o, v = .agg #[I tot, c, o] ∧ c.oneCell' = true ∧ o.oneCell' = true ∧ D = [own TLI c (Is cut), own TLI o (Is oth)] := by
  refine Tr.enter env _ Tryz.func12 (by kernel_rfl) rfl Tryz.ntmps12 rfl (by repeat (first | exact has00 | refine has01 ?_)) fun w0 => ?_
  repeat' first|refine bx fun q => ?_|refine al fun q2 => ?_|refine sq ?_|refine rg ?_|refine xc ?_|refine nl ?_
  refine rs (fun _ => True) ?_ (fun _ _ => trivial)
  refine tka 0 ?_
  refine tka 3 ?_
  refine t2 1 4 ?_ ?_
  · refine ld ?_
    refine nl ?_
    refine te (fun _ _ => trivial) ?_
    refine t2 2 4 ?_ ?_
    · refine ca (CopyIntsV_tr cv cut h1) ?_
      rintro c _ ⟨hc1, rfl⟩
      refine nl ?_
      refine te (fun _ _ => trivial) ?_
      refine t1 4 ?_
      refine ld ?_
      refine nl ?_
      refine te (fun _ _ => trivial) ?_
      refine tka 6 ?_
      refine t1 5 ?_
      refine ca (CopyIntsV_tr ov oth h2) ?_
      rintro o _ ⟨ho1, rfl⟩
      refine nl ?_
      refine te (fun _ _ => trivial) ?_
      refine t1 7 ?_
      refine sr ?_
      refine nl ?_
      refine te (fun _ _ => trivial) ?_
      refine tka 8 ?_
      refine t1 9 ?_
      refine sr ?_
      refine nl ?_
      refine te (fun _ _ => trivial) ?_
      refine t0 ?_
      repeat' first|refine lda ?_|refine srz ?_|refine sq ?_|refine rg ?_|refine xc ?_|refine nl ?_|refine rt ?_
      exact rca1 (cs := [I tot, c, o]) (vs := [I tot, c, o]) (T := TAl) ⟨c, o, rfl, hc1, ho1, rfl⟩
    · refine ld ?_
      refine nl ?_
      refine te (fun _ _ => trivial) ?_
      refine t1 2 ?_
      refine ca (CopyIntsV_tr cv cut h1) ?_
      rintro c _ ⟨hc1, rfl⟩
      refine nl ?_
      refine te (fun _ _ => trivial) ?_
      refine tka 6 ?_
      refine t1 5 ?_
      refine ca (CopyIntsV_tr ov oth h2) ?_
      rintro o _ ⟨ho1, rfl⟩
      refine nl ?_
      refine te (fun _ _ => trivial) ?_
      refine t1 7 ?_
      refine sr ?_
      refine nl ?_
      refine te (fun _ _ => trivial) ?_
      refine tka 8 ?_
      refine t1 9 ?_
      refine sr ?_
      refine nl ?_
      refine te (fun _ _ => trivial) ?_
      refine t0 ?_
      repeat' first|refine lda ?_|refine srz ?_|refine sq ?_|refine rg ?_|refine xc ?_|refine nl ?_|refine rt ?_
      exact rca1 (cs := [I tot, c, o]) (vs := [I tot, c, o]) (T := TAl) ⟨c, o, rfl, hc1, ho1, rfl⟩
  · refine ld ?_
    refine nl ?_
    refine te (fun _ _ => trivial) ?_
    refine t1 1 ?_
    refine ld ?_
    refine nl ?_
    refine te (fun _ _ => trivial) ?_
    refine t1 2 ?_
    refine ca (CopyIntsV_tr cv cut h1) ?_
    rintro c _ ⟨hc1, rfl⟩
    refine nl ?_
    refine te (fun _ _ => trivial) ?_
    refine tka 6 ?_
    refine t1 5 ?_
    refine ca (CopyIntsV_tr ov oth h2) ?_
    rintro o _ ⟨ho1, rfl⟩
    refine nl ?_
    refine te (fun _ _ => trivial) ?_
    refine t1 7 ?_
    refine sr ?_
    refine nl ?_
    refine te (fun _ _ => trivial) ?_
    refine tka 8 ?_
    refine t1 9 ?_
    refine sr ?_
    refine nl ?_
    refine te (fun _ _ => trivial) ?_
    refine t0 ?_
    repeat' first|refine lda ?_|refine srz ?_|refine sq ?_|refine rg ?_|refine xc ?_|refine nl ?_|refine rt ?_
    exact rca1 (cs := [I tot, c, o]) (vs := [I tot, c, o]) (T := TAl) ⟨c, o, rfl, hc1, ho1, rfl⟩
theorem SameAlias_tr (t1 t2 : Int) (c1 o1 c2 o2 : Value) (x1 y1 x2 y2 : List Int) : Tr Tryz.prog 20 [.agg #[I t1, c1, o1], .agg #[I t2, c2, o2]] [vw c1 (Is x1), vw o1 (Is y1), vw c2 (Is x2), vw o2 (Is y2)] []
    fun v D => v = .bool (decide (t1 = t2 ∧ x1 = x2 ∧ y1 = y2)) ∧ D = [] := by
  refine Tr.enter env _ Tryz.func20 (by kernel_rfl) rfl Tryz.ntmps20 rfl (by repeat (first | exact has00 | refine has01 ?_)) fun w0 => ?_
  repeat' first|(refine gca ?_; first|(refine ca (SameInts_tr c1 c2 x1 x2) ?_; rintro _ _ ⟨rfl, rfl⟩)|(refine ca (SameInts_tr o1 o2 y1 y2) ?_; rintro _ _ ⟨rfl, rfl⟩))|refine bx fun q => ?_|(refine wo ?_; first|(refine ao ?_; first|refine oa ?_)|refine oa ?_|refine ld ?_|refine gy ?_|refine gn ?_|(refine gsi (fun hB => ?_) (fun hB => ?_) <;> try (exfalso; omega)))|refine sq ?_|refine rg ?_|refine xc ?_|refine nl ?_|refine rt ?_
  · refine r1 ⟨?_, rfl⟩
    congr 1; exact decide_eq_decide.2 ⟨fun h => ⟨by assumption, by assumption, h⟩, fun h => h.2.2⟩
  · refine r1 ⟨?_, rfl⟩
    rw [decide_eq_false fun h => hB h.2.1]
  · refine r1 ⟨?_, rfl⟩
    rw [decide_eq_false fun h => hB h.1]
theorem SameIntsT_tr (a b : Value) (xs : List Int) : Tr Tryz.prog 21 [a, b] [vw a (Is xs), vw b (Is xs)] [] fun v D => v = .bool true ∧ D = [] :=
  (SameInts_tr a b xs xs).mono fun v D h => by rw [decide_eq_true rfl] at h; exact h
theorem SameAliasT_tr (t1 : Int) (c1 o1 c2 o2 : Value) (x1 y1 : List Int) : Tr Tryz.prog 20 [.agg #[I t1, c1, o1], .agg #[I t1, c2, o2]] [vw c1 (Is x1), vw o1 (Is y1), vw c2 (Is x1), vw o2 (Is y1)] []
    fun v D => v = .bool true ∧ D = [] := (SameAlias_tr t1 t1 c1 o1 c2 o2 x1 y1 x1 y1).mono fun v D h => by rw [decide_eq_true ⟨rfl, rfl, rfl⟩] at h; exact h
end Go.Art
set_option linter.unusedSimpArgs false
set_option linter.unusedVariables false
namespace Go.Art
open Go Go.Proofs Go.RowKit
attribute [local irreducible] Fit pt own ro vw mpc lpt vels rels mow lrc dfr
attribute [local irreducible] lmp lme mit velg relg
theorem RowSets_tr (tot k : Int) (cv ov lv : Value) (cut oth l : List Int) (x y z : BitVec 64) (hc : cv.oneCell' = true) (ho : ov.oneCell' = true) : Tr Tryz.prog 4 [.agg #[I tot, cv, ov], I k, lv, U x, U y, U z] [vw cv (Is cut), vw ov (Is oth), vw lv (Is l)] [] fun v D => v = .bool true ∧ D = [] := by
  have hA := LongAlias_tr tot 30 cv ov cut oth
  have hF := farK_tr k
  by_cases hg : ((30 : Int) < cut.length ∨ (30 : Int) < oth.length) ∨ (300 < k ∧ k ≤ 65536) ∨ 40 < l.length
  · refine Tr.enter env _ Tryz.func4 (by kernel_rfl) rfl Tryz.ntmps4 rfl (by repeat (first | exact has00 | refine has01 ?_)) fun w0 => ?_
    refine TC.leni (v := lv) (l := l) fun hll => ?_
    repeat' first|(refine gca ?_; first|(refine ca hA ?_; rintro _ _ ⟨rfl, rfl⟩)|(refine ca hF ?_; rintro _ _ ⟨rfl, rfl⟩)|(refine ca awake_tr ?_; rintro _ _ ⟨rfl, rfl⟩))|refine bx fun q => ?_|refine lda ?_|(refine wo ?_; first|(refine ao ?_; first|refine oa ?_)|refine oa ?_|refine lnm ?_|refine gy ?_|refine gn ?_|(refine gsi (fun hB => ?_) (fun hB => ?_) <;> try (exfalso; omega)))|(refine gc ?_; first|refine ct ?_|(refine ci (fun hB => ?_) (fun hB => ?_) <;> try (exfalso; omega)))|refine sq ?_|refine rg ?_|refine xc ?_|refine nl ?_|refine rt ?_
    all_goals exact r1 ⟨rfl, rfl⟩
  have hS1 := fun b r sv c o hc1 ho1 => SetW_tr tot k c o cut oth b r sv (.inr (l, false)) (okL_row l false) hc1 ho1
  have hR1 := fun b sv => RSetW_tr tot k cv ov cut oth b sv (.inr (l, false)) hc ho
  have hS2 := fun b r sv c o hc1 ho1 => SetW_tr tot k c o cut oth b r sv (.inl (seedOf x y z)) trivial hc1 ho1
  have hR2 := fun b sv => RSetW_tr tot k cv ov cut oth b sv (.inl (seedOf x y z)) hc ho
  obtain ⟨w1, hw1⟩ : ∃ w1, w1 = setW tot cut oth k (.inr (l, false)) := ⟨_, rfl⟩
  obtain ⟨w2, hw2⟩ : ∃ w2, w2 = setW tot cut oth k (.inl (seedOf x y z)) := ⟨_, rfl⟩
  simp only [← hw1] at hS1 hR1
  simp only [← hw2] at hS2 hR2
  clear hw1 hw2
  obtain ⟨⟨s1, e1⟩, y1, u1⟩ := w1
  obtain ⟨⟨s2, e2⟩, y2, u2⟩ := w2
  dsimp only at hS1 hS2 hR1 hR2
  have hK1 := fun c o hc1 ho1 => RwE_tr tot k c o cut oth hc1 ho1
  have hK2 := RRwE_tr tot k cv ov cut oth hc ho
  generalize rwE tot cut oth k = ek at *
  have hSA := fun c o => SameAliasT_tr tot c o cv ov cut oth
  have hLR := LRow_tr lv l (by omega)
  have hRR := RRow_tr lv l (by omega)
  have hLS := LSeeded_tr x y z
  have hRS := RSeededL_tr x y z
  have hCA := CopyAlias_tr tot cv ov cut oth (by omega) (by omega) hc ho
  refine Tr.enter env _ Tryz.func4 (by kernel_rfl) rfl Tryz.ntmps4 rfl (by repeat (first | exact has00 | refine has01 ?_)) fun w0 => ?_
  repeat' first|(refine gca ?_; first|(refine ca hA ?_; rintro _ _ ⟨rfl, rfl⟩)|(refine ca hF ?_; rintro _ _ ⟨rfl, rfl⟩)|(refine ca awake_tr ?_; rintro _ _ ⟨rfl, rfl⟩)|(refine ca hCA ?_; rintro _ _ ⟨c, o, rfl, hc1, ho1, rfl⟩)|(refine ca hLR ?_; rintro _ _ ⟨b1, rA1, v1, rfl, rfl⟩)|(refine ca hRR ?_; rintro _ _ ⟨b2, v2, rfl, rfl⟩)|(refine ca hLS ?_; rintro _ _ ⟨b3, rA3, v3, rfl, rfl⟩)|(refine ca hRS ?_; rintro _ _ ⟨b4, v4, rfl, rfl⟩)|(refine ca (hS1 b1 rA1 v1 c o hc1 ho1) ?_; rintro _ _ ⟨o1, v5, rfl, rfl⟩)|(refine ca (hR1 b2 v2) ?_; rintro _ _ ⟨o2, v6, rfl, rfl⟩)|(refine ca (hS2 b3 rA3 v3 c o hc1 ho1) ?_; rintro _ _ ⟨o3, v7, rfl, rfl⟩)|(refine ca (hR2 b4 v4) ?_; rintro _ _ ⟨o4, v8, rfl, rfl⟩))|refine bx fun q => ?_|refine al fun q2 => ?_|refine lda ?_|refine srz ?_|(refine wo ?_; first|(refine ao ?_; first|refine oa ?_)|refine oa ?_|refine lnm ?_|refine gy ?_|(refine gsi (fun hB => ?_) (fun hB => ?_) <;> try (exfalso; omega)))|(refine gc ?_; first|(refine ci (fun hB => ?_) (fun hB => ?_) <;> try (exfalso; omega)))|refine sq ?_|refine rg ?_|refine xc ?_|refine nl ?_|refine sk ?_
  repeat' first|(refine gca ?_; first|(refine ca (OverInts_tr o1 s1) ?_; rintro _ _ rfl)|(refine ca (OverInts_tr o3 s2) ?_; rintro _ _ rfl)|(refine ca (hSA c o) ?_; rintro _ _ ⟨rfl, rfl⟩)|(refine ca awake_tr ?_; rintro _ _ ⟨rfl, rfl⟩))|(refine qca (SameIntsT_tr o1 o2 s1) (fun _ _ h => h) ?_)|(refine qca (SameIntsT_tr o3 o4 s2) (fun _ _ h => h) ?_)|(refine qca (Used_tr b1 rA1 y1 u1) (fun _ _ h => h) ?_ (hp := has1 (has_lot (by (repeat (first | apply List.Mem.head | apply List.Mem.tail)); first | done | fail)) has0))|(refine qca (Used_tr b3 rA3 y2 u2) (fun _ _ h => h) ?_ (hp := has1 (has_lot (by (repeat (first | apply List.Mem.head | apply List.Mem.tail)); first | done | fail)) has0))|(refine qtold (b := b2) (sv := v6) (y := y1) (used := u1) ?_)|(refine qtold (b := b4) (sv := v8) (y := y2) (used := u2) ?_)|(refine qca (hK1 c o hc1 ho1) (fun _ _ h => h) ?_)|(refine qca hK2 (fun _ _ h => h) ?_)|refine lda ?_|(refine qlda ?_)|(refine wo ?_; first|refine oa ?_|refine gy ?_|(refine gsi (fun hB => ?_) (fun hB => ?_) <;> try (exfalso; omega)))|refine sq ?_|refine rg ?_|refine xc ?_|refine nl ?_|refine rt ?_|refine rq ?_|refine nq ?_|(refine wq ?_; first|(refine qao ?_; first|refine qa ?_)|refine qa ?_|refine qgy ?_|(refine qgsi (fun hB => ?_) (fun hB => ?_) <;> try (exfalso; omega)))
  exact r1 ⟨rfl, rfl⟩
end Go.Art
set_option linter.unusedSimpArgs false
set_option linter.unusedVariables false
namespace Go.Art
open Go Go.RowKit

def adr (v : Value) (m : Nat) : Addr := (addrAt v 0).add m
def SlW (w : World) (v : Value) (n : Nat) (xs : List Value) : Prop :=
  ∃ a cap, v = .slice a n cap ∧ n ≤ cap ∧ cap ≤ maxLen ∧ (0 < n → ∃ x, a = some x) ∧ ∀ i u, xs[i]? = some u → ∃ x, a = some x ∧ w.cell? (x.add i) = some u
theorem add_block (x : Addr) (i : Nat) : (x.add i).block = x.block := by unfold Addr.add; split <;> rfl
def vwf (v : Value) (n : Nat) (xs : List Value) : Ch where
  wr := fun _ => False
  rd := fun _ => False
  bd := fun x => xs ≠ [] ∧ v.ownBlock = some x
  P := fun w => SlW w v n xs
  loc := fun {w w'} h hb => by
    obtain ⟨a, cap, rfl, h1, h2, h0, h3⟩ := h
    refine ⟨a, cap, rfl, h1, h2, h0, fun i u hi => ?_⟩
    obtain ⟨x, rfl, hx⟩ := h3 i u hi
    exact ⟨x, rfl, (World.cell?_of_block (by rw [add_block]; exact hb _ (.inr (.inr ⟨by rintro rfl; simp at hi, rfl⟩)))).trans hx⟩
  lt := fun {w b} h hb => by
    rcases hb with hb | hb | ⟨h4, h5⟩
    · exact hb.elim
    · exact hb.elim
    · obtain ⟨a, cap, rfl, h1, h2, h0, h3⟩ := h
      cases xs with
      | nil => exact absurd rfl h4
      | cons u r =>
        obtain ⟨x, rfl, hx⟩ := h3 0 u rfl
        have := World.block_lt_of_cell? w _ hx
        rw [add_block] at this
        simp only [Value.ownBlock, Option.some.injEq] at h5
        rw [← h5]; exact this
instance (v : Value) (n : Nat) (xs : List Value) : Lent (vwf v n xs) := ⟨fun _ => ⟨fun h => h, fun h => h⟩⟩
theorem flat_row : ∀ {rs : List (List Value)} {sz : Nat}, (∀ r ∈ rs, r.length = sz) → ∀ {i : Nat} {r : List Value}, rs[i]? = some r → (rs.flatten.drop (sz * i)).take sz = r
  | [], _, _, i, r, h => by simp at h
  | a :: rs, sz, hl, 0, r, h => by
    simp at h; subst h
    have := hl a (by simp)
    simp [List.take_append, this, List.take_of_length_le]
  | a :: rs, sz, hl, i + 1, r, h => by
    have ha := hl a (by simp)
    have ih := flat_row (rs := rs) (sz := sz) (fun r hr => hl r (by simp [hr])) (i := i) (r := r) (by simpa using h)
    rw [List.flatten_cons, show sz * (i + 1) = a.length + sz * i by rw [ha, Nat.mul_succ]; omega, List.drop_append, List.drop_eq_nil_of_le (by omega), List.nil_append, Nat.add_sub_cancel_left]
    exact ih
section
variable {P : Program} {E : Env P} {n : Sh} {X : Cx} {s : List K} {fr : Fr} {A A' : List Ch} {ops : Array Oper} {rest : List Oper} {d m N sz by_ : Nat} {ty t el : TypeId} {pos : String} {after : Array Edge} {v u z : Value} {x y : Operand} {xs vs : List Value} {dt : TypeDesc} {k1 : IntKind} {w : World} {fs : Array Field} {f : Nat} {fld : Field}
end
end Go.Art
set_option linter.unusedSimpArgs false
set_option linter.unusedVariables false
namespace Go.Art
open Go Go.RowKit
section
variable {H : Type} {enc : TypeId × Value → H} {P : Program} {w : World} {base fuel : Nat} {t e : TypeId} {k : IntKind} {cs : List Value} {x : DataW H × List MemPlace}
theorem Env.cells (E : Env P) {z : Value} {s b : Nat} (h : lk E.inf t = some (z, s, b)) : P.cellsOf t = s := by
  obtain ⟨i, h1, _, h2, _⟩ := E.info h
  simp [Program.cellsOf, h1, h2]
theorem leaf_int (E : Env P) (h : DataW.trod enc P w base (fun _ => true) true fuel t cs = some x) (ht : lk E.und t = some (.int k) := by rfl) : ∃ n, cs = [.int k n] ∧ (Lit.int k n).wf = true := by
  obtain ⟨n, h1, _, h2⟩ := DataW.trod_int (E.un ht) h
  exact ⟨n, h1, h2⟩
theorem leaf_field (E : Env P) {fs : Array Field} (h : DataW.trod enc P w base (fun _ => true) true fuel t cs = some x) (ht : lk E.und t = some (.struct fs) := by rfl) {i : Nat} {f : Field} {z : Value} {s b : Nat} (hf : fs[i]? = some f) (he : lk E.inf f.type = some (z, s, b)) :
    ∃ n y, DataW.trod enc P w base (fun _ => true) true n f.type ((cs.drop f.offset).take s) = some y := by
  obtain ⟨xs, n, _, _, _, hl, hx⟩ := DataW.trod_struct (E.un ht) h
  have h1 := hx i f hf
  rw [E.cells he] at h1
  have : i < xs.length := by rw [hl]; exact (Array.getElem?_eq_some_iff.1 hf).1
  exact ⟨n, xs[i], by rw [h1, List.getElem?_eq_getElem this]⟩
theorem leaf_len (E : Env P) {fs : Array Field} (h : DataW.trod enc P w base (fun _ => true) true fuel t cs = some x) (ht : lk E.und t = some (.struct fs) := by rfl) {z : Value} {s b : Nat} (he : lk E.inf t = some (z, s, b)) : cs.length = s := by
  obtain ⟨xs, n, _, _, h1, _⟩ := DataW.trod_struct (E.un ht) h
  rw [h1, E.cells he]
theorem leaf_row (E : Env P) (h : DataW.trod enc P w base (fun _ => true) true fuel t cs = some x) {z : Value} {b : Nat} (ht : lk E.und t = some (.slice e) := by rfl) (he : lk E.und e = some (.int k) := by rfl) (hc : lk E.inf e = some (z, 1, b) := by rfl) :
    ∃ (v : Value) (l : List Int), cs = [v] ∧ Sl w v (l.map (.int k)) ∧ (∀ n ∈ l, (Lit.int k n).wf = true) ∧ v.oneCell' = true := by
  rcases Go.ChangeShapes.open_ints (E.un ht) (E.un he) (E.cells hc) h with ⟨rfl, _⟩ | ⟨a, len, cap, zs, rfl, _, hl, hm, hz, _, hcell, hw⟩
  · exact ⟨_, [], rfl, Sl.nil w, by simp, rfl⟩
  · simp only [if_true] at hz
    refine ⟨_, zs.take len, rfl, ⟨some a, cap, by simp; omega, by simp; omega, hm, fun i u hi => ⟨a, rfl, ?_⟩⟩, fun n hn => hw n (List.mem_of_mem_take hn), rfl⟩
    have hlt : i < len ∧ i < zs.length := by
      have := (List.getElem?_eq_some_iff.1 hi).1
      simp at this; omega
    rw [hcell i hlt.2]
    simp [hlt.1, hlt.2] at hi
    rw [← hi]; simp [List.getD_eq_getElem?_getD, hlt.2]
theorem wide_agg (E : Env P) {fs : Array Field} {r : Reach} {v : Value} (h : Value.okWide P w r base t v) (ht : lk E.und t = some (.struct fs) := by rfl) : ∃ cs, v = .agg cs := by
  unfold Value.okWide at h
  rw [E.un ht] at h
  obtain ⟨cs, rfl, _⟩ := h
  exact ⟨cs, rfl⟩
end
end Go.Art
set_option linter.unusedSimpArgs false
set_option linter.unusedVariables false
namespace Go.Art
open Go Go.Proofs Go.RowKit
def InAl (w : World) (v : Value) : Prop :=
  ∃ (tot : Int) (cv ov : Value) (cut oth : List Int), v = .agg #[I tot, cv, ov] ∧ cv.oneCell' = true ∧ ov.oneCell' = true ∧ Sl w cv (Is cut) ∧ Sl w ov (Is oth)
set_option maxRecDepth 20000 in
theorem inAl_of {H : Type} {enc : TypeId × Value → H} {w : World} {r : Reach} {base : Nat} {v : Value} {d : DataW H} {ps : List MemPlace} (hv : Value.okWide Tryz.prog w r base 24 v)
    (h : DataW.Trod enc Tryz.prog w 0 (fun _ => true) true 24 v d ps) : InAl w v := by
  obtain ⟨cs, rfl⟩ := wide_agg env hv
  obtain ⟨fuel, h⟩ := h
  have h : DataW.trod enc Tryz.prog w 0 (fun _ => true) true fuel 24 cs.toList = some (d, ps) := h
  have hl := leaf_len env h rfl rfl
  have hc : cs = cs.toList.toArray := by simp
  rw [hc]
  generalize cs.toList = l at *
  match l, hl with
  | [c0, c1, c2], _ =>
    obtain ⟨_, _, g0⟩ := leaf_field env h (i := 0) rfl rfl rfl
    obtain ⟨_, _, g1⟩ := leaf_field env h (i := 1) rfl rfl rfl
    obtain ⟨_, _, g2⟩ := leaf_field env h (i := 2) rfl rfl rfl
    obtain ⟨tot, e0, b0⟩ := leaf_int env g0
    obtain ⟨cv, cut, e1, s1, b1, o1⟩ := leaf_row env g1
    obtain ⟨ov, oth, e2, s2, b2, o2⟩ := leaf_row env g2
    injection e0 with e0; injection e1 with e1; injection e2 with e2
    subst e0 e1 e2
    exact ⟨tot, c1, c2, cut, oth, rfl, o1, o2, s1, s2⟩
end Go.Art
set_option linter.unusedSimpArgs false
set_option linter.unusedVariables false
namespace Go.Art
open Go Go.RowKit

structure SatL (A : List Ch) (w : World) : Prop where
  s : Sat A w
  l : ∀ c ∈ A, ∀ b, ¬ c.wr b
theorem SatL.nil (w : World) : SatL [] w := ⟨Sat.nil w, fun _ h => nomatch h⟩
theorem SatL.cons {c : Ch} {A : List Ch} {w : World} [hc : Lent c] (h : c.P w) (k : SatL A w) : SatL (c :: A) w :=
  ⟨Sat.cons.2 ⟨h, fun a ha => ⟨fun b hb => absurd hb (hc.lent b).1, fun b hb => absurd hb (k.l a ha b)⟩, k.s⟩, fun x hx b => by rcases List.mem_cons.1 hx with rfl | hx; exact (hc.lent b).1; exact k.l x hx b⟩

structure IsMat (k : IntKind) (w : World) (v : Value) (hs : List Value) (ls : List (List Int)) : Prop where
  sl : Sl w v hs
  len : hs.length = ls.length
  el : ∀ i, i < ls.length → Sl w (hs.getD i nS) ((ls.getD i []).map (.int k)) ∧ ∀ n ∈ ls.getD i [], (Lit.int k n).wf = true
theorem getD_map_range {α : Type} (f : Nat → α) (n i : Nat) (z : α) (h : i < n) : ((List.range n).map f).getD i z = f i := by simp [List.getD_eq_getElem?_getD, h]
theorem isMat_of {H : Type} {enc : TypeId × Value → H} {P : Program} {w : World} {base fuel : Nat} {t e q : TypeId} {k : IntKind} {a : Option Addr} {len cap : Nat} {x : DataW H × List MemPlace} (ht : P.underlying t = some (.slice e)) (he : P.underlying e = some (.slice q)) (hq : P.underlying q = some (.int k))
    (ce : P.cellsOf e = 1) (cq : P.cellsOf q = 1) (h : DataW.trod enc P w base (fun _ => true) true fuel t [.slice a len cap] = some x) : ∃ hs ls, IsMat k w (.slice a len cap) hs ls := by
  rcases Deep.open_int_rows ht he hq ce cq h with ⟨hcs, _⟩ | ⟨ad, l, c, A, L, C, Z, hcs, _, hl, hm, _, hr⟩
  · injection hcs with hcs; injection hcs with h1 h2 h3
    subst h1 h2 h3
    exact ⟨[], [], Sl.nil w, rfl, fun i hi => by simp at hi⟩
  · injection hcs with hcs; injection hcs with h1 h2 h3
    subst h1 h2 h3
    refine ⟨(List.range len).map fun r => .slice (A r) (L r) (C r), (List.range len).map fun r => (Z r).take (L r), ?_, by simp, fun i hi => ?_⟩
    · refine ⟨some ad, cap, by simp, by simpa using hl, hm, fun i u hi => ⟨ad, rfl, ?_⟩⟩
      simp only [List.getElem?_map, Option.map_eq_some_iff] at hi
      obtain ⟨r, hr1, rfl⟩ := hi
      have : i < len := by
        have := (List.getElem?_eq_some_iff.1 hr1).1
        simpa using this
      rw [List.getElem?_range this] at hr1; cases hr1
      exact (hr i (by omega)).1
    · have hi' : i < len := by simpa using hi
      obtain ⟨_, h4, h5, h6, h7, h8, h9⟩ := hr i (by omega)
      rw [getD_map_range _ _ _ _ hi', getD_map_range _ _ _ _ hi']
      refine ⟨?_, fun n hn => h7 n (List.mem_of_mem_take hn)⟩
      cases hA : A i with
      | none =>
        have hc := h8 hA
        have hz : Z i = [] := List.eq_nil_of_length_eq_zero (by omega)
        have h0 : L i = 0 := by omega
        rw [hz, hc, h0]; exact Sl.nil w
      | some a' =>
        refine ⟨some a', C i, by simp; omega, by simp; omega, h5, fun j u hj => ⟨a', rfl, ?_⟩⟩
        simp only [List.getElem?_map, Option.map_eq_some_iff] at hj
        obtain ⟨z, hz1, rfl⟩ := hj
        rw [List.getElem?_take] at hz1
        split at hz1
        · rw [(h9 a' hA).2 j (by omega)]
          simp [List.getD_eq_getElem?_getD, hz1]
        · cases hz1
end Go.Art
set_option linter.unusedSimpArgs false
set_option linter.unusedVariables false
namespace Go.Art
open Go Go.Proofs Go.RowKit
theorem u_of {a : Int} (h : (Lit.int .u64 a).wf = true) : ∃ x : BitVec 64, (Value.int .u64 a) = U x := by
  have hb := Go.bounds_u64 h
  refine ⟨c64 a, ?_⟩
  unfold U
  rw [c64_toNat (by omega), Int.toNat_of_nonneg (by omega)]
theorem RowSets_law {w : World} {a v : Value} {l : List Int} (k x y z : Int) (ha : InAl w a) (hv : Sl w v (Is l)) (hx : (Lit.int .u64 x).wf = true) (hy : (Lit.int .u64 y).wf = true) (hz : (Lit.int .u64 z).wf = true) :
    Fn Tryz.prog 4 [a, I k, v, .int .u64 x, .int .u64 y, .int .u64 z] w fun v w' => v = .bool true ∧ Ext w w' := by
  obtain ⟨tot, cv, ov, cut, oth, rfl, o1, o2, s1, s2⟩ := ha
  obtain ⟨x', ex⟩ := u_of hx
  obtain ⟨y', ey⟩ := u_of hy
  obtain ⟨z', ez⟩ := u_of hz
  rw [ex, ey, ez]
  exact (RowSets_tr tot k cv ov v cut oth l x' y' z' o1 o2).law (SatL.cons s1 (SatL.cons s2 (SatL.cons hv (SatL.nil w)))).s
end Go.Art
