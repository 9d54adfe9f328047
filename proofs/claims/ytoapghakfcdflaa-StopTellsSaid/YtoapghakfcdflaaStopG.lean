/- Which symbols sets leave unknown: the program's walk, second part. Conditions: none. -/
import Derived.Test.YtoapghakfcdflaaStopF
set_option linter.unusedSimpArgs false
set_option linter.unusedVariables false
namespace Go.Art
open Go Go.Proofs Go.RowKit
attribute [local irreducible] Fit pt own ro vw mpc lpt vels rels mow lrc dfr

theorem next_tr (bq : Nat) (qv : Value) (x : Int) (r : List Int) : Tr Try.prog 87 [ptr bq] [] [pt bq [qv] 111, own 3 qv (Is (x :: r))] fun v D => v = I x ∧ ∃ qv', D = [pt bq [qv'] 111, own 3 qv' (Is r)] := by
  refine Tr.enter env _ Try.func87 (by kernel_rfl) rfl Try.ntmps87 rfl (by repeat (first | exact has00 | refine has01 ?_)) fun w0 => ?_
  refine TC.leni (l := x :: r) fun hl => ?_
  have h0 : 0 < (x :: r).length := by simp
  repeat' first|refine sclm (l := x :: r) ?_|(refine wo ?_; first|(refine ao ?_; first|refine aw ?_|refine aw6 ?_|refine oa ?_|refine adiv ?_|refine amod ?_|refine shr1 ?_|refine shr ?_|refine umod ?_|refine isl ?_|refine ipe ?_|refine ipn ?_|refine ibe ?_)|refine acw ?_|refine ucv ?_|refine anw ?_|refine oa ?_|refine ld ?_|refine ldl ?_|refine lnm ?_|refine ixmn ?_|refine ixm ?_|refine li ?_|refine lv ?_|refine ln ?_|refine ixn ?_|refine ix ?_|refine le ?_|refine sr ?_|refine soi ?_|refine scm ?_|refine sclm ?_|refine schm ?_|refine gy ?_|refine gn ?_|refine gnn ?_|refine gu ?_|(refine gsi (fun hB => ?_) (fun hB => ?_) <;> try (exfalso; omega))|(refine gsn (fun hB => ?_) (fun hB => ?_) <;> try (exfalso; omega))|(refine gs (fun hB => ?_) (fun hB => ?_) <;> try (exfalso; omega)))|(refine gc ?_; first|refine ct ?_|refine cf ?_|(refine ci (fun hB => ?_) (fun hB => ?_) <;> try (exfalso; omega))|(refine cn (fun hB => ?_) (fun hB => ?_) <;> try (exfalso; omega))|(refine cb (fun hB => ?_) (fun hB => ?_) <;> try (exfalso; omega)))|refine sq ?_|refine rg ?_|refine xc ?_|refine nl ?_|refine sk ?_|refine bk ?_|refine xe ?_|refine rt ?_|refine xb ?_
  refine TO.im (Im.trans (Tk.there Tk.here) (Im1.im (im_subi 3 qv (x :: r) (lo := 1) (hi := (x :: r).length) (by simp) (Nat.le_refl _)) _)) ?_
  refine TO.one (v := slSub qv 1 (x :: r).length) (xs := Is (((x :: r).take (x :: r).length).drop 1)) fun hv => ?_
  repeat' first|(refine wo ?_; first|(refine ao ?_; first|refine aw ?_|refine aw6 ?_|refine oa ?_|refine adiv ?_|refine amod ?_|refine shr1 ?_|refine shr ?_|refine umod ?_|refine isl ?_|refine ipe ?_|refine ipn ?_|refine ibe ?_)|refine acw ?_|refine ucv ?_|refine anw ?_|refine oa ?_|refine ld ?_|refine ldl ?_|refine lnm ?_|refine ixmn ?_|refine ixm ?_|refine li ?_|refine lv ?_|refine ln ?_|refine ixn ?_|refine ix ?_|refine le ?_|refine sr ?_|refine soi ?_|refine scm ?_|refine sclm ?_|refine schm ?_|refine gy ?_|refine gn ?_|refine gnn ?_|refine gu ?_|(refine gsi (fun hB => ?_) (fun hB => ?_) <;> try (exfalso; omega))|(refine gsn (fun hB => ?_) (fun hB => ?_) <;> try (exfalso; omega))|(refine gs (fun hB => ?_) (fun hB => ?_) <;> try (exfalso; omega)))|(refine gc ?_; first|refine ct ?_|refine cf ?_|(refine ci (fun hB => ?_) (fun hB => ?_) <;> try (exfalso; omega))|(refine cn (fun hB => ?_) (fun hB => ?_) <;> try (exfalso; omega))|(refine cb (fun hB => ?_) (fun hB => ?_) <;> try (exfalso; omega)))|refine sq ?_|refine rg ?_|refine xc ?_|refine nl ?_|refine sk ?_|refine bk ?_|refine xe ?_|refine rt ?_|refine xb ?_
  rw [List.take_length]
  exact r1 ⟨rfl, slSub qv 1 (x :: r).length, rfl⟩

theorem not_mem_take {l : List Int} (h : ∀ i j, i < j → j < l.length → l.getD i 0 < l.getD j 0) {m : Nat} (hm : m < l.length) : l.getD m 0 ∉ l.take m := by
  intro hmem
  obtain ⟨j, hj, e⟩ := mem_getD.1 hmem
  have hj' : j < m := by simp at hj; omega
  have h1 := h j m hj' hm
  have h2 : (l.take m).getD j 0 = l.getD j 0 := by simp [List.getD_eq_getElem?_getD, List.getElem?_take, hj']
  rw [h2] at e; omega
def idx (ls : List (List Int)) (x : Int) (i : Nat) : List Int := ((List.range i).filter fun j => decide (x ∈ ls.getD j [])).map fun j : Nat => (j : Int)
theorem idx_succ (ls : List (List Int)) (x : Int) (i : Nat) : idx ls x (i + 1) = idx ls x i ++ if x ∈ ls.getD i [] then [(i : Int)] else [] := by
  unfold idx
  rw [List.range_succ, List.filter_append, List.map_append]
  congr 1
  by_cases h : x ∈ ls.getD i []
  · rw [if_pos h, List.filter_cons, if_pos (by simpa using h)]; rfl
  · rw [if_neg h, List.filter_cons, if_neg (by simpa using h)]; rfl
theorem mem_idx {ls : List (List Int)} {x y : Int} {n : Nat} : y ∈ idx ls x n ↔ ∃ j : Nat, y = j ∧ j < n ∧ x ∈ ls.getD j [] := by
  unfold idx
  simp only [List.mem_map, List.mem_filter, List.mem_range, decide_eq_true_eq]
  constructor
  · rintro ⟨j, ⟨h1, h2⟩, rfl⟩; exact ⟨j, rfl, h1, h2⟩
  · rintro ⟨j, rfl, h1, h2⟩; exact ⟨j, ⟨h1, h2⟩, rfl⟩
theorem idx_len (ls : List (List Int)) (x : Int) (n : Nat) : (idx ls x n).length ≤ n := by
  unfold idx; rw [List.length_map]; exact Nat.le_trans (List.length_filter_le _ _) (by simp)
theorem idx_nodup (ls : List (List Int)) (x : Int) (n : Nat) : (idx ls x n).Nodup := by
  unfold idx
  rw [List.nodup_iff_pairwise_ne, List.pairwise_map]
  exact ((List.pairwise_lt_range (n := n)).sublist List.filter_sublist).imp fun h e => by omega

/-- What stands between two symbols of the queue. -/
structure UInv (k : Int) (ls : List (List Int)) (G : Int → Option Value) (g : Int → List Int) (many q : List Int) : Prop where
  dom : ∀ x, left G x = true → 0 ≤ x ∧ x < k
  sets : ∀ x, left G x = true → g x = idx ls x ls.length
  gone : ∀ x, 0 ≤ x → x < k → left G x = false → Kn ls x
  len : many.length = ls.length
  que : ∀ x ∈ q, 0 ≤ x ∧ x < k ∧ Kn ls x
  size : q.length + cnt (left G) (belowI k) * (ls.length + 1) ≤ (k.toNat + 1) * (ls.length + 1)
/-- The count of set i is right, and if it is one, that one waits. -/
def Fine1 (ls : List (List Int)) (G : Int → Option Value) (many q : List Int) (i : Nat) : Prop :=
  many.getD i 0 = cnt (left G) (ls.getD i []) ∧ (cnt (left G) (ls.getD i []) = 1 → ∀ x ∈ ls.getD i [], left G x = true → x ∈ q)

theorem getD_mem {ls : List (List Int)} {i : Nat} (h : i < ls.length) : ls.getD i [] ∈ ls := by rw [List.getD_eq_getElem?_getD, List.getElem?_eq_getElem h]; exact List.getElem_mem h
theorem UInv.end {k : Int} {ls : List (List Int)} {G : Int → Option Value} {g : Int → List Int} {many : List Int} (h : UInv k ls G g many []) (hs : ∀ l ∈ ls, isSet k l = true) (hf : ∀ i, i < ls.length → Fine1 ls G many [] i) (x : Int) (h0 : 0 ≤ x) (hk : x < k) : left G x = true ↔ ¬ Kn ls x := by
  constructor
  · intro hl hkn
    have := hkn.not (p := left G) (fun l hl => isSet_nodup (hs l hl)) (fun l hl hc => by
      obtain ⟨i, hi, rfl⟩ := List.mem_iff_getElem.1 hl
      have h1 := hf i hi
      rw [show ls[i] = ls.getD i [] by simp [List.getD_eq_getElem?_getD, hi]] at hc
      obtain ⟨s, hs1, hs2, _⟩ := cnt_one hc
      have := h1.2 hc s hs1 hs2
      cases this)
    rw [this] at hl; cases hl
  · intro hkn
    cases hc : left G x with
    | true => rfl
    | false => exact absurd (h.gone x h0 hk hc) hkn
/-- lone: what it adds. -/
theorem lone_inv {k : Int} {ls : List (List Int)} {G : Int → Option Value} {g : Int → List Int} {many q : List Int} {i B : Nat} (h : UInv k ls G g many q) (hs : ∀ l ∈ ls, isSet k l = true) (hi : i < ls.length) (hm : many.getD i 0 = cnt (left G) (ls.getD i []))
    (hB : q.length + cnt (left G) (belowI k) * (ls.length + 1) + B + 1 ≤ (k.toNat + 1) * (ls.length + 1)) :
    UInv k ls G g many (q ++ loneL many G ls i) ∧ Fine1 ls G many (q ++ loneL many G ls i) i ∧ (∀ x ∈ q, x ∈ q ++ loneL many G ls i) ∧ (q ++ loneL many G ls i).length + cnt (left G) (belowI k) * (ls.length + 1) + B ≤ (k.toNat + 1) * (ls.length + 1) := by
  have hln : (loneL many G ls i).length ≤ 1 := by
    unfold loneL
    split
    · rename_i h1; rw [hm] at h1; have : cnt (left G) (ls.getD i []) = 1 := by omega
      exact Nat.le_of_eq this
    · simp
  refine ⟨⟨h.dom, h.sets, h.gone, h.len, fun x hx => ?_, by rw [List.length_append]; omega⟩, ⟨hm, fun hc x hx hl => ?_⟩, fun x hx => List.mem_append_left _ hx, by rw [List.length_append]; omega⟩
  · rcases List.mem_append.1 hx with hx | hx
    · exact h.que x hx
    · unfold loneL at hx
      split at hx
      · rename_i h1; rw [hm] at h1
        obtain ⟨h2, h3⟩ := List.mem_filter.1 hx
        have hd := h.dom x h3
        refine ⟨hd.1, hd.2, Kn.of_cnt (getD_mem hi) (by omega) (fun y hy hly => ?_) h2 h3⟩
        have hy' := (isSet_iff.1 (hs _ (getD_mem hi))).2.2 y hy
        exact h.gone y hy'.1 hy'.2 hly
      · cases hx
  · refine List.mem_append_right _ ?_
    unfold loneL
    rw [if_pos (by rw [hm, hc]; rfl)]
    exact List.mem_filter.2 ⟨hx, hl⟩
theorem left_set (G : Int → Option Value) (x : Int) (v : Value) (hx : left G x = true) (y : Int) : left (setK G x (some v)) y = left G y := by
  unfold left at *
  by_cases e : y = x
  · rw [e, setK_eq, hx]; rfl
  · rw [setK_ne _ _ e]
theorem left_del (G : Int → Option Value) (x : Int) : left (setK G x none) x = false := by unfold left; rw [setK_eq]; rfl
theorem left_del_ne (G : Int → Option Value) {x y : Int} (h : y ≠ x) : left (setK G x none) y = left G y := by unfold left; rw [setK_ne _ _ h]
/-- The state behind a removal, j of the symbol's sets gone through. -/
structure VInv (k : Int) (ls : List (List Int)) (G : Int → Option Value) (g : Int → List Int) (x : Int) (W many q r : List Int) (j : Nat) : Prop where
  inv : UInv k ls G g many q
  many : ∀ i, i < ls.length → many.getD i 0 = cnt (left G) (ls.getD i []) + (if x ∈ ls.getD i [] ∧ (i : Int) ∉ W.take j then 1 else 0)
  fine : ∀ i, i < ls.length → (x ∉ ls.getD i [] ∨ (i : Int) ∈ W.take j) → cnt (left G) (ls.getD i []) = 1 → ∀ y ∈ ls.getD i [], left G y = true → y ∈ q
  bud : q.length + cnt (left G) (belowI k) * (ls.length + 1) + (W.length - j) + 1 ≤ (k.toNat + 1) * (ls.length + 1)
  qlen : q.length ≤ r.length + j
theorem VInv.start {k : Int} {ls : List (List Int)} {G : Int → Option Value} {g : Int → List Int} {many r : List Int} {x : Int} (h : UInv k ls G g many (x :: r)) (hs : ∀ l ∈ ls, isSet k l = true) (hf : ∀ i, i < ls.length → Fine1 ls G many (x :: r) i) (hx : left G x = true) :
    VInv k ls (setK G x none) g x (idx ls x ls.length) many r r 0 := by
  have hd := h.dom x hx
  have hcd : ∀ {l : List Int}, l.Nodup → cnt (left G) l = cnt (left (setK G x none)) l + if x ∈ l then 1 else 0 := fun hn => cnt_drop hx (left_del G x) (fun y hy => left_del_ne G hy) hn
  have hb := hcd (l := belowI k) ((belowI_sorted k).imp fun h e => by omega)
  rw [if_pos (mem_belowI.2 hd)] at hb
  have hsz := h.size
  rw [hb, Nat.add_mul, Nat.one_mul] at hsz
  simp only [List.length_cons] at hsz
  have hil := idx_len ls x ls.length
  refine ⟨⟨fun y hy => ?_, fun y hy => ?_, fun y h0 hk hy => ?_, h.len, fun y hy => h.que y (by simp [hy]), by omega⟩, fun i hi => ?_, fun i hi hor hc y hy hl => ?_, by omega, by omega⟩
  · by_cases e : y = x
    · rw [e]; exact hd
    · rw [left_del_ne G e] at hy; exact h.dom y hy
  · by_cases e : y = x
    · rw [e, left_del] at hy; cases hy
    · rw [left_del_ne G e] at hy; exact h.sets y hy
  · by_cases e : y = x
    · rw [e]; exact (h.que x (by simp)).2.2
    · rw [left_del_ne G e] at hy; exact h.gone y h0 hk hy
  · rw [(hf i hi).1, hcd (isSet_nodup (hs _ (getD_mem hi)))]
    by_cases e : x ∈ ls.getD i []
    · rw [if_pos e, if_pos ⟨e, by simp⟩]; rfl
    · rw [if_neg e, if_neg (fun h => e h.1)]; rfl
  · have hxn : x ∉ ls.getD i [] := by
      rcases hor with h1 | h1
      · exact h1
      · simp at h1
    have hc1 := hcd (isSet_nodup (hs _ (getD_mem hi)))
    rw [if_neg hxn, hc] at hc1
    have hyx : y ≠ x := fun e => hxn (e ▸ hy)
    rw [left_del_ne G hyx] at hl
    rcases List.mem_cons.1 ((hf i hi).2 hc1 y hy hl) with e | h2
    · exact absurd e hyx
    · exact h2
theorem VInv.step {k : Int} {ls : List (List Int)} {G : Int → Option Value} {g : Int → List Int} {many q r : List Int} {x : Int} {j i : Nat} (h : VInv k ls G g x (idx ls x ls.length) many q r j) (hs : ∀ l ∈ ls, isSet k l = true) (hj : j < (idx ls x ls.length).length) (hi : (idx ls x ls.length).getD j 0 = i) :
    i < ls.length ∧ VInv k ls G g x (idx ls x ls.length) (many.set i (many.getD i 0 - 1)) (q ++ loneL (many.set i (many.getD i 0 - 1)) G ls i) r (j + 1) := by
  generalize hW : idx ls x ls.length = W at *
  have hmem : (i : Int) ∈ W := mem_getD.2 ⟨j, hj, hi⟩
  obtain ⟨i', e, hil, hxi⟩ := mem_idx.1 (hW ▸ hmem)
  obtain rfl : i = i' := by omega
  have hnd : W.Nodup := hW ▸ idx_nodup ls x ls.length
  have hnt : (i : Int) ∉ W.take j := by
    intro hm
    obtain ⟨m, hm1, hm2⟩ := List.mem_iff_getElem.1 hm
    have hmj : m < j := by simp at hm1; omega
    have hi' : W[j] = (i : Int) := by rw [← hi]; simp [List.getD_eq_getElem?_getD, hj]
    have hm3 : W[m]'(by omega) = W[j] := by rw [hi', ← hm2]; simp
    have := (List.getElem_inj hnd).1 hm3
    omega
  have htk : W.take (j + 1) = W.take j ++ [(i : Int)] := by rw [take_succ' hj 0, hi]
  have hmi := h.many i hil
  rw [if_pos ⟨hxi, hnt⟩] at hmi
  have hlt : i < many.length := by rw [h.inv.len]; exact hil
  have hget : ∀ m, (many.set i (many.getD i 0 - 1)).getD m 0 = if i = m then many.getD i 0 - 1 else many.getD m 0 := fun m => getD_set many i m _ hlt
  have hinv : UInv k ls G g (many.set i (many.getD i 0 - 1)) q := ⟨h.inv.dom, h.inv.sets, h.inv.gone, by simp [h.inv.len], h.inv.que, h.inv.size⟩
  obtain ⟨l1, l2, l3, l4⟩ := lone_inv (B := W.length - (j + 1) + 1) hinv hs hil (by rw [hget, if_pos rfl, hmi]; omega) (by have := h.bud; omega)
  refine ⟨hil, l1, fun m hm => ?_, fun m hm hor hc y hy hl => ?_, by omega, ?_⟩
  · rw [hget, htk]
    by_cases e : i = m
    · subst e; rw [if_pos rfl, hmi, if_neg (by simp)]; omega
    · rw [if_neg e, h.many m hm]
      congr 1
      have : ((m : Int) ∈ W.take j ++ [(i : Int)]) ↔ (m : Int) ∈ W.take j := by simp; omega
      simp only [this]
  · by_cases e : i = m
    · subst e; exact l2.2 hc y hy hl
    · refine l3 y (h.fine m hm (hor.imp id fun h1 => ?_) hc y hy hl)
      rw [htk, List.mem_append] at h1
      rcases h1 with h1 | h1
      · exact h1
      · simp at h1; omega
  · rw [List.length_append]
    have h2 := h.qlen
    have h3 : (loneL (many.set i (many.getD i 0 - 1)) G ls i).length ≤ 1 := by
      unfold loneL
      split
      · rename_i h1; rw [l2.1] at h1
        have : cnt (left G) (ls.getD i []) = 1 := by omega
        exact Nat.le_of_eq this
      · simp
    omega
theorem VInv.end {k : Int} {ls : List (List Int)} {G : Int → Option Value} {g : Int → List Int} {many q r : List Int} {x : Int} (h : VInv k ls G g x (idx ls x ls.length) many q r (idx ls x ls.length).length) : UInv k ls G g many q ∧ ∀ i, i < ls.length → Fine1 ls G many q i := by
  have hor : ∀ i, i < ls.length → (x ∉ ls.getD i [] ∨ (i : Int) ∈ (idx ls x ls.length).take (idx ls x ls.length).length) := fun i hi => by
    rw [List.take_length]
    by_cases e : x ∈ ls.getD i []
    · exact .inr (mem_idx.2 ⟨i, rfl, hi, e⟩)
    · exact .inl e
  refine ⟨h.inv, fun i hi => ⟨?_, h.fine i hi (hor i hi)⟩⟩
  rw [h.many i hi, if_neg]
  · simp
  · rintro ⟨h1, h2⟩
    rcases hor i hi with h3 | h3
    · exact h3 h1
    · exact h2 h3
end Go.Art
