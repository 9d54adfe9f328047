/- What the document's answer makes known: the walks. Conditions: none. -/
import Derived.Test.YtoapghakfcdflaaStopN
set_option linter.unusedSimpArgs false
set_option linter.unusedVariables false
namespace Go.Art
open Go Go.Proofs Go.RowKit
attribute [local irreducible] Fit pt own ro vw mpc lpt vels rels mow lrc dfr
attribute [local irreducible] lmp lme mit

abbrev Bs (l : List Bool) : List Value := l.map .bool
section
variable {P : Program} {E : Env P} {n : Sh} {X : Cx} {s : List K} {fr : Fr} {A A' : List Ch} {ops : Array Oper} {rest : List Oper} {d : Nat} {ty t el : TypeId} {pos : String} {after : Array Edge} {v z : Value} {x y : Operand} {by_ : Nat}
theorem Bs_get (l : List Bool) (i : Nat) (h : i < l.length) : (Bs l)[i]? = some (.bool (l.getD i false)) := by simp [List.getD_eq_getElem?_getD, h]
theorem lb {l : List Bool} {j : Nat} {dt : TypeDesc} (k : TO E n X s ops rest ((d, .bool (l.getD j false)) :: fr) A) (hx : ev fr x = some (.pointer (some (addrAt v j))) := by rfl) (hh : Has A (vw v (Bs l)) := by first | (apply has_vw; (repeat (first | apply List.Mem.head | apply List.Mem.tail)); first | done | fail) | (apply has_own; (repeat (first | apply List.Mem.head | apply List.Mem.tail)); first | done | fail) | (apply has_ro; (repeat (first | apply List.Mem.head | apply List.Mem.tail)); first | done | fail) | apply has_nil | ((with_reducible apply has_el); (focus (first | (apply has_vels; (repeat (first | apply List.Mem.head | apply List.Mem.tail)); first | done | fail) | (apply has_rels; (repeat (first | apply List.Mem.head | apply List.Mem.tail)); first | done | fail))); omega) | (apply has_pt; (repeat (first | apply List.Mem.head | apply List.Mem.tail)); first | done | fail) | (apply has_lpt; (repeat (first | apply List.Mem.head | apply List.Mem.tail)); first | done | fail) | (apply has_vels; (repeat (first | apply List.Mem.head | apply List.Mem.tail)); first | done | fail) | (apply has_rels; (repeat (first | apply List.Mem.head | apply List.Mem.tail)); first | done | fail) | with_reducible assumption) (hj : j < l.length := by omega)
    (ht : lk E.und t = some dt := by rfl) (hg : aggB dt = false := by rfl) (hd : Nat.blt d n.n = true := by rfl) : TO E n X s ops (⟨some d, .load t x, ty, pos, after, none⟩ :: rest) fr A := le k hx hh (Bs_get l j hj) ht hg hd
theorem sob {l : List Bool} {j : Nat} {m : Bool} (k : TO E n X s ops rest fr (own el v (Bs (l.set j m)) :: A')) (hx : ev fr x = some (.pointer (some (addrAt v j))) := by rfl) (hm : Tk (own el v (Bs l)) A A' := by (repeat (first | apply Tk.here | apply Tk.there)); first | done | fail) (hy : ev fr y = some (.bool m) := by rfl)
    (hj : j < l.length := by omega) (ht : lk E.inf t = some (z, 1, by_) := by rfl) : TO E n X s ops (⟨none, .store t x y, ty, pos, after, none⟩ :: rest) fr A := so k hx hm hy (by simpa using hj) (List.map_set ..) rfl ht
end

/-- What is not known, of one set. -/
def unk (kb : List Bool) (l : List Int) : List Int := l.filter fun x => !kb.getD x.toNat false
def lastL (kb : List Bool) (l : List Int) : Int := match unk kb l with
  | [x] => x
  | _ => -1
theorem unk_snoc (kb : List Bool) (l : List Int) (x : Int) : unk kb (l ++ [x]) = unk kb l ++ if kb.getD x.toNat false then [] else [x] := by
  unfold unk; rw [List.filter_append]; congr 1
  rw [List.filter_cons]; cases h : kb.getD x.toNat false <;> rfl
theorem last_tr (v w : Value) (kb : List Bool) (l : List Int) (hl : ∀ x ∈ l, 0 ≤ x ∧ x < kb.length) : Tr Try.prog 91 [v, w] [vw v (Bs kb), vw w (Is l)] [] fun u D => u = I (lastL kb l) ∧ D = [] := by
  refine Tr.enter env _ Try.func91 (by kernel_rfl) rfl Try.ntmps91 rfl (by repeat (first | exact has00 | refine has01 ?_)) fun w0 => ?_
  refine TC.leni (l := l) fun hlen => ?_
  repeat' first|(refine wo ?_; first|(refine ao ?_; first|refine aw ?_|refine aw6 ?_|refine oa ?_|refine adiv ?_|refine amod ?_|refine shr1 ?_|refine shr ?_|refine umod ?_|refine isl ?_|refine ipe ?_|refine ipn ?_|refine ibe ?_)|refine acw ?_|refine ucv ?_|refine anw ?_|refine oa ?_|refine ld ?_|refine ldl ?_|refine lnm ?_|refine ixmn ?_|refine ixm ?_|refine li ?_|refine lv ?_|refine ln ?_|refine ixn ?_|refine ix ?_|refine le ?_|refine sr ?_|refine soi ?_|refine scm ?_|refine sclm ?_|refine schm ?_|refine gy ?_|refine gn ?_|refine gnn ?_|refine gu ?_|(refine gsi (fun hB => ?_) (fun hB => ?_) <;> try (exfalso; omega))|(refine gsn (fun hB => ?_) (fun hB => ?_) <;> try (exfalso; omega))|(refine gs (fun hB => ?_) (fun hB => ?_) <;> try (exfalso; omega)))|(refine gc ?_; first|refine ct ?_|refine cf ?_|(refine ci (fun hB => ?_) (fun hB => ?_) <;> try (exfalso; omega))|(refine cn (fun hB => ?_) (fun hB => ?_) <;> try (exfalso; omega))|(refine cb (fun hB => ?_) (fun hB => ?_) <;> try (exfalso; omega)))|refine sq ?_|refine rg ?_|refine xc ?_|refine nl ?_|refine sk ?_|refine bk ?_|refine xe ?_|refine rt ?_|refine xb ?_
  refine TC.loop (ι := Nat × Int) (fun i => [(6, I i.1), (5, I i.2)]) (fun _ => []) (fun i => i.1 ≤ l.length ∧ (unk kb (l.take i.1) = [] ∧ i.2 = -1 ∨ unk kb (l.take i.1) = [i.2] ∧ 0 ≤ i.2)) (fun i => l.length - i.1) (0, -1) [0, 1] ⟨by simp, .inl ⟨rfl, rfl⟩⟩ ?_
  rintro ⟨i, o⟩ ⟨h1, h2⟩
  dsimp only at h1 h2 ⊢
  by_cases hi : i < l.length
  · have hx := hl _ (mem_getD.2 ⟨i, hi, rfl⟩)
    have hs := unk_snoc kb (l.take i) (l.getD i 0)
    have htd : l = l.take (i + 1) ++ l.drop (i + 1) := (List.take_append_drop ..).symm
    have hub : unk kb l = unk kb (l.take (i + 1)) ++ unk kb (l.drop (i + 1)) := by unfold unk; rw [← List.filter_append, ← htd]
    rw [← take_succ' hi 0] at hs
    generalize hy : l.getD i 0 = y at *
    repeat' first|refine lie hy ?_|refine lb (l := kb) ?_|(refine wo ?_; first|(refine ao ?_; first|refine aw ?_|refine aw6 ?_|refine oa ?_|refine adiv ?_|refine amod ?_|refine shr1 ?_|refine shr ?_|refine umod ?_|refine isl ?_|refine ipe ?_|refine ipn ?_|refine ibe ?_)|refine acw ?_|refine ucv ?_|refine anw ?_|refine oa ?_|refine ld ?_|refine ldl ?_|refine lnm ?_|refine ixmn ?_|refine ixm ?_|refine li ?_|refine lv ?_|refine ln ?_|refine ixn ?_|refine ix ?_|refine le ?_|refine sr ?_|refine soi ?_|refine scm ?_|refine sclm ?_|refine schm ?_|refine gy ?_|refine gn ?_|refine gnn ?_|refine gu ?_|(refine gsi (fun hB => ?_) (fun hB => ?_) <;> try (exfalso; omega))|(refine gsn (fun hB => ?_) (fun hB => ?_) <;> try (exfalso; omega))|(refine gs (fun hB => ?_) (fun hB => ?_) <;> try (exfalso; omega)))|(refine gc ?_; first|refine ct ?_|refine cf ?_|(refine ci (fun hB => ?_) (fun hB => ?_) <;> try (exfalso; omega))|(refine cn (fun hB => ?_) (fun hB => ?_) <;> try (exfalso; omega))|(refine cb (fun hB => ?_) (fun hB => ?_) <;> try (exfalso; omega)))|refine sq ?_|refine rg ?_|refine xc ?_|refine nl ?_|refine sk ?_|refine bk ?_|refine xe ?_|refine rt ?_|refine xb ?_
    · have hb : kb.getD y.toNat false = false := by simpa using ‹(!kb.getD y.toNat false) = true›
      rw [hb] at hs
      refine r1 ⟨?_, rfl⟩
      rcases h2 with ⟨h, rfl⟩ | ⟨h, h3⟩
      · omega
      · rw [h] at hs
        unfold lastL; rw [hub, hs]; rfl
    · have hb : kb.getD y.toNat false = false := by simpa using ‹(!kb.getD y.toNat false) = true›
      rw [hb] at hs
      refine lp (i + 1, y) ⟨by dsimp only; omega, .inr ⟨?_, hx.1⟩⟩
      rcases h2 with ⟨h, rfl⟩ | ⟨h, h3⟩
      · dsimp only; rw [hs, h]; rfl
      · omega
    · have hb : kb.getD y.toNat false = true := by simpa using hB
      rw [hb, if_pos rfl, List.append_nil] at hs
      exact lp (i + 1, o) ⟨by dsimp only; omega, by dsimp only; rw [hs]; exact h2⟩
  · obtain rfl : i = l.length := by omega
    rw [List.take_length] at h2
    repeat' first|(refine wo ?_; first|(refine ao ?_; first|refine aw ?_|refine aw6 ?_|refine oa ?_|refine adiv ?_|refine amod ?_|refine shr1 ?_|refine shr ?_|refine umod ?_|refine isl ?_|refine ipe ?_|refine ipn ?_|refine ibe ?_)|refine acw ?_|refine ucv ?_|refine anw ?_|refine oa ?_|refine ld ?_|refine ldl ?_|refine lnm ?_|refine ixmn ?_|refine ixm ?_|refine li ?_|refine lv ?_|refine ln ?_|refine ixn ?_|refine ix ?_|refine le ?_|refine sr ?_|refine soi ?_|refine scm ?_|refine sclm ?_|refine schm ?_|refine gy ?_|refine gn ?_|refine gnn ?_|refine gu ?_|(refine gsi (fun hB => ?_) (fun hB => ?_) <;> try (exfalso; omega))|(refine gsn (fun hB => ?_) (fun hB => ?_) <;> try (exfalso; omega))|(refine gs (fun hB => ?_) (fun hB => ?_) <;> try (exfalso; omega)))|(refine gc ?_; first|refine ct ?_|refine cf ?_|(refine ci (fun hB => ?_) (fun hB => ?_) <;> try (exfalso; omega))|(refine cn (fun hB => ?_) (fun hB => ?_) <;> try (exfalso; omega))|(refine cb (fun hB => ?_) (fun hB => ?_) <;> try (exfalso; omega)))|refine sq ?_|refine rg ?_|refine xc ?_|refine nl ?_|refine sk ?_|refine bk ?_|refine xe ?_|refine rt ?_|refine xb ?_
    refine r1 ⟨?_, rfl⟩
    unfold lastL
    rcases h2 with ⟨h, rfl⟩ | ⟨h, _⟩ <;> rw [h]

theorem those_tr (v : Value) (kb : List Bool) (k : Int) (want : Bool) (hk : k.toNat = kb.length) (hk2 : kb.length ≤ 65536) : Tr Try.prog 79 [v, .bool want] [vw v (Bs kb)] [] fun u D => D = [own 3 u (Is ((belowI k).filter fun x => kb.getD x.toNat false == want))] := by
  refine Tr.enter env _ Try.func79 (by kernel_rfl) rfl Try.ntmps79 rfl (by repeat (first | exact has00 | refine has01 ?_)) fun w0 => ?_
  refine TC.im (own_nil 3 _) ?_
  repeat' first|(refine wo ?_; first|(refine ao ?_; first|refine aw ?_|refine aw6 ?_|refine oa ?_|refine adiv ?_|refine amod ?_|refine shr1 ?_|refine shr ?_|refine umod ?_|refine isl ?_|refine ipe ?_|refine ipn ?_|refine ibe ?_)|refine acw ?_|refine ucv ?_|refine anw ?_|refine oa ?_|refine ld ?_|refine ldl ?_|refine lnm ?_|refine ixmn ?_|refine ixm ?_|refine li ?_|refine lv ?_|refine ln ?_|refine ixn ?_|refine ix ?_|refine le ?_|refine sr ?_|refine soi ?_|refine scm ?_|refine sclm ?_|refine schm ?_|refine gy ?_|refine gn ?_|refine gnn ?_|refine gu ?_|(refine gsi (fun hB => ?_) (fun hB => ?_) <;> try (exfalso; omega))|(refine gsn (fun hB => ?_) (fun hB => ?_) <;> try (exfalso; omega))|(refine gs (fun hB => ?_) (fun hB => ?_) <;> try (exfalso; omega)))|(refine gc ?_; first|refine ct ?_|refine cf ?_|(refine ci (fun hB => ?_) (fun hB => ?_) <;> try (exfalso; omega))|(refine cn (fun hB => ?_) (fun hB => ?_) <;> try (exfalso; omega))|(refine cb (fun hB => ?_) (fun hB => ?_) <;> try (exfalso; omega)))|refine sq ?_|refine rg ?_|refine xc ?_|refine nl ?_|refine sk ?_|refine bk ?_|refine xe ?_|refine rt ?_|refine xb ?_
  refine TC.loop (ι := Nat × Value) (fun i => [(6, I i.1), (5, i.2)]) (fun i => [own 3 i.2 (Is (((belowI k).take i.1).filter fun x => kb.getD x.toNat false == want))]) (fun i => i.1 ≤ kb.length) (fun i => kb.length - i.1) (0, nS) [0, 1] (by simp) ?_
  rintro ⟨i, o⟩ h1
  dsimp only at h1 ⊢
  by_cases hi : i < kb.length
  · have hts := take_succ' (l := belowI k) (i := i) (by rw [belowI_len]; omega) 0
    rw [belowI_get (by omega)] at hts
    have hfl : (((belowI k).take i).filter fun x => kb.getD x.toNat false == want).length ≤ i := Nat.le_trans (List.length_filter_le _ _) (List.length_take_le _ _)
    have hf : ((belowI k).take (i + 1)).filter (fun x => kb.getD x.toNat false == want) = ((belowI k).take i).filter (fun x => kb.getD x.toNat false == want) ++ if kb.getD i false = want then [(i : Int)] else [] := by
      rw [hts, List.filter_append]; congr 1; rw [List.filter_cons, Int.toNat_natCast]; cases kb.getD i false <;> cases want <;> rfl
    repeat' first|refine lb (l := kb) ?_|(refine wo ?_; first|(refine ao ?_; first|refine aw ?_|refine aw6 ?_|refine oa ?_|refine adiv ?_|refine amod ?_|refine shr1 ?_|refine shr ?_|refine umod ?_|refine isl ?_|refine ipe ?_|refine ipn ?_|refine ibe ?_)|refine acw ?_|refine ucv ?_|refine anw ?_|refine oa ?_|refine ld ?_|refine ldl ?_|refine lnm ?_|refine ixmn ?_|refine ixm ?_|refine li ?_|refine lv ?_|refine ln ?_|refine ixn ?_|refine ix ?_|refine le ?_|refine sr ?_|refine soi ?_|refine scm ?_|refine sclm ?_|refine schm ?_|refine gy ?_|refine gn ?_|refine gnn ?_|refine gu ?_|(refine gsi (fun hB => ?_) (fun hB => ?_) <;> try (exfalso; omega))|(refine gsn (fun hB => ?_) (fun hB => ?_) <;> try (exfalso; omega))|(refine gs (fun hB => ?_) (fun hB => ?_) <;> try (exfalso; omega)))|(refine gc ?_; first|refine ct ?_|refine cf ?_|(refine ci (fun hB => ?_) (fun hB => ?_) <;> try (exfalso; omega))|(refine cn (fun hB => ?_) (fun hB => ?_) <;> try (exfalso; omega))|(refine cb (fun hB => ?_) (fun hB => ?_) <;> try (exfalso; omega)))|refine sq ?_|refine rg ?_|refine xc ?_|refine nl ?_|refine sk ?_|refine bk ?_|refine xe ?_|refine rt ?_|refine xb ?_
    · rw [if_pos hB] at hf
      refine slii [(i : Int)] fun v1 => ?_
      refine api (v := o) (news := [(i : Int)]) fun v2 => ?_
      repeat' first|(refine wo ?_; first|(refine ao ?_; first|refine aw ?_|refine aw6 ?_|refine oa ?_|refine adiv ?_|refine amod ?_|refine shr1 ?_|refine shr ?_|refine umod ?_|refine isl ?_|refine ipe ?_|refine ipn ?_|refine ibe ?_)|refine acw ?_|refine ucv ?_|refine anw ?_|refine oa ?_|refine ld ?_|refine ldl ?_|refine lnm ?_|refine ixmn ?_|refine ixm ?_|refine li ?_|refine lv ?_|refine ln ?_|refine ixn ?_|refine ix ?_|refine le ?_|refine sr ?_|refine soi ?_|refine scm ?_|refine sclm ?_|refine schm ?_|refine gy ?_|refine gn ?_|refine gnn ?_|refine gu ?_|(refine gsi (fun hB => ?_) (fun hB => ?_) <;> try (exfalso; omega))|(refine gsn (fun hB => ?_) (fun hB => ?_) <;> try (exfalso; omega))|(refine gs (fun hB => ?_) (fun hB => ?_) <;> try (exfalso; omega)))|(refine gc ?_; first|refine ct ?_|refine cf ?_|(refine ci (fun hB => ?_) (fun hB => ?_) <;> try (exfalso; omega))|(refine cn (fun hB => ?_) (fun hB => ?_) <;> try (exfalso; omega))|(refine cb (fun hB => ?_) (fun hB => ?_) <;> try (exfalso; omega)))|refine sq ?_|refine rg ?_|refine xc ?_|refine nl ?_|refine sk ?_|refine bk ?_|refine xe ?_|refine rt ?_|refine xb ?_
      exact lp (i + 1, v2) (by dsimp only; omega) (hf := by dsimp only; rw [hf]; first | apply Fit.all | ((repeat (first | (apply Fit.nilN; (repeat (first | apply nrm_nil | apply nrm_cons)); try apply nrm_rfl) | (apply Fit.cons; focus ((repeat (first | apply Tk.here | apply Tk.there)); first | done | fail)))); first | done | fail))
    · rw [if_neg hB, List.append_nil] at hf
      exact lp (i + 1, o) (by dsimp only; omega) (hf := by dsimp only; rw [hf]; first | apply Fit.all | ((repeat (first | (apply Fit.nilN; (repeat (first | apply nrm_nil | apply nrm_cons)); try apply nrm_rfl) | (apply Fit.cons; focus ((repeat (first | apply Tk.here | apply Tk.there)); first | done | fail)))); first | done | fail))
  · rw [List.take_of_length_le (by rw [belowI_len]; omega)]
    repeat' first|(refine wo ?_; first|(refine ao ?_; first|refine aw ?_|refine aw6 ?_|refine oa ?_|refine adiv ?_|refine amod ?_|refine shr1 ?_|refine shr ?_|refine umod ?_|refine isl ?_|refine ipe ?_|refine ipn ?_|refine ibe ?_)|refine acw ?_|refine ucv ?_|refine anw ?_|refine oa ?_|refine ld ?_|refine ldl ?_|refine lnm ?_|refine ixmn ?_|refine ixm ?_|refine li ?_|refine lv ?_|refine ln ?_|refine ixn ?_|refine ix ?_|refine le ?_|refine sr ?_|refine soi ?_|refine scm ?_|refine sclm ?_|refine schm ?_|refine gy ?_|refine gn ?_|refine gnn ?_|refine gu ?_|(refine gsi (fun hB => ?_) (fun hB => ?_) <;> try (exfalso; omega))|(refine gsn (fun hB => ?_) (fun hB => ?_) <;> try (exfalso; omega))|(refine gs (fun hB => ?_) (fun hB => ?_) <;> try (exfalso; omega)))|(refine gc ?_; first|refine ct ?_|refine cf ?_|(refine ci (fun hB => ?_) (fun hB => ?_) <;> try (exfalso; omega))|(refine cn (fun hB => ?_) (fun hB => ?_) <;> try (exfalso; omega))|(refine cb (fun hB => ?_) (fun hB => ?_) <;> try (exfalso; omega)))|refine sq ?_|refine rg ?_|refine xc ?_|refine nl ?_|refine sk ?_|refine bk ?_|refine xe ?_|refine rt ?_|refine xb ?_
    exact r1 rfl
/-- How many are not known yet. -/
def falses (kb : List Bool) : Nat := kb.countP (fun b => !b)
theorem falses_set {kb : List Bool} {i : Nat} (h : i < kb.length) (hb : kb.getD i false = false) : falses (kb.set i true) + 1 = falses kb := by
  induction kb generalizing i with
  | nil => simp at h
  | cons b r ih =>
    cases i with
    | zero =>
      have : b = false := by simpa using hb
      subst this; simp [falses]
    | succ i =>
      have h2 := ih (i := i) (by simpa using h) (by simpa using hb)
      unfold falses at h2 ⊢
      simp only [List.set_cons_succ, List.countP_cons]
      omega
structure ClI (k : Int) (ls : List (List Int)) (kb : List Bool) : Prop where
  len : kb.length = k.toNat
  kn : ∀ x, 0 ≤ x → x < k → kb.getD x.toNat false = true → Kn ls x
theorem lastL_one {kb : List Bool} {l : List Int} (h : 0 ≤ lastL kb l) : unk kb l = [lastL kb l] := by
  unfold lastL at h ⊢
  split at h
  · assumption
  · omega
theorem lastL_not {kb : List Bool} {l : List Int} (hl : ∀ x ∈ l, 0 ≤ x) (h : ¬ 0 ≤ lastL kb l) : (unk kb l).length ≠ 1 := by
  intro h1
  obtain ⟨x, hx⟩ := List.length_eq_one_iff.1 h1
  have hm : x ∈ l := (List.mem_filter.1 (show x ∈ unk kb l by rw [hx]; simp)).1
  unfold lastL at h; rw [hx] at h
  exact h (hl x hm)
theorem ClI.set {k : Int} {ls : List (List Int)} {kb : List Bool} (h : ClI k ls kb) {l : List Int} (hl : l ∈ ls) (hs : ∀ x ∈ l, 0 ≤ x ∧ x < k) (h0 : 0 ≤ lastL kb l) :
    (lastL kb l).toNat < kb.length ∧ ClI k ls (kb.set (lastL kb l).toNat true) ∧ falses (kb.set (lastL kb l).toNat true) < falses kb := by
  have h1 := lastL_one h0
  generalize lastL kb l = x at *
  have hm : x ∈ l ∧ (!kb.getD x.toNat false) = true := List.mem_filter.1 (show x ∈ unk kb l by rw [h1]; simp)
  have hx := hs x hm.1
  have hlt : x.toNat < kb.length := by rw [h.len]; omega
  have hb : kb.getD x.toNat false = false := by simpa using hm.2
  refine ⟨hlt, ⟨by simp [h.len], fun y hy0 hyk hy => ?_⟩, by have := falses_set hlt hb; omega⟩
  by_cases e : y = x
  · subst e
    refine .mk l y hl hm.1 fun z hz hne => ?_
    have hz' := hs z hz
    refine h.kn z hz'.1 hz'.2 ?_
    cases hc : kb.getD z.toNat false with
    | true => rfl
    | false =>
      have : z ∈ unk kb l := List.mem_filter.2 ⟨hz, by rw [hc]; rfl⟩
      rw [h1] at this
      exact absurd (List.mem_singleton.1 this) hne
  · refine h.kn y hy0 hyk ?_
    rw [List.getD_eq_getElem?_getD, List.getElem?_set_ne (by omega)] at hy
    rw [List.getD_eq_getElem?_getD]; exact hy
theorem ClI.end {k : Int} {ls : List (List Int)} {kb : List Bool} (h : ClI k ls kb) (hs : ∀ l ∈ ls, isSet k l = true) (hc : ∀ l ∈ ls, ¬ 0 ≤ lastL kb l) (x : Int) (h0 : 0 ≤ x) (hk : x < k) : (!kb.getD x.toNat false) = true ↔ ¬ Kn ls x := by
  constructor
  · intro hx hkn
    have := hkn.not (p := fun x => !kb.getD x.toNat false) (fun l hl => isSet_nodup (hs l hl)) fun l hl => lastL_not (fun x hx => ((isSet_iff.1 (hs l hl)).2.2 x hx).1) (hc l hl)
    rw [this] at hx; cases hx
  · intro hkn
    cases hb : kb.getD x.toNat false with
    | false => rfl
    | true => exact absurd (h.kn x h0 hk hb) hkn
structure ClG where
  i : Nat
  kb : List Bool
  more : Bool
theorem closure_tr (k : Int) (s : Value) (hs : List Value) (ls : List (List Int)) (hE : stopE k ls = 0) : Tr Try.prog 80 [I k, s] [vw s hs, vels hs ls] [] fun v D => ∃ kb : List Bool, kb.length = k.toNat ∧ (∀ x, 0 ≤ x → x < k → ((!kb.getD x.toNat false) = true ↔ ¬ Kn ls x)) ∧ D = [own 4 v (Bs kb)] := by
  obtain ⟨hk1, hk2, hsets⟩ := stopE_zero hE
  refine Tr.enter env _ Try.func80 (by kernel_rfl) rfl Try.ntmps80 rfl (by repeat (first | exact has00 | refine has01 ?_)) fun w0 => ?_
  refine TC.els (hs := hs) (ls := ls) (fun hl => ?_)
  refine TC.fact (fun w hw => vw_len (v := s) (xs := hs) (by first | (apply has_vw; (repeat (first | apply List.Mem.head | apply List.Mem.tail)); first | done | fail) | (apply has_own; (repeat (first | apply List.Mem.head | apply List.Mem.tail)); first | done | fail) | (apply has_ro; (repeat (first | apply List.Mem.head | apply List.Mem.tail)); first | done | fail) | apply has_nil | ((with_reducible apply has_el); (focus (first | (apply has_vels; (repeat (first | apply List.Mem.head | apply List.Mem.tail)); first | done | fail) | (apply has_rels; (repeat (first | apply List.Mem.head | apply List.Mem.tail)); first | done | fail))); omega) | (apply has_pt; (repeat (first | apply List.Mem.head | apply List.Mem.tail)); first | done | fail) | (apply has_lpt; (repeat (first | apply List.Mem.head | apply List.Mem.tail)); first | done | fail) | (apply has_vels; (repeat (first | apply List.Mem.head | apply List.Mem.tail)); first | done | fail) | (apply has_rels; (repeat (first | apply List.Mem.head | apply List.Mem.tail)); first | done | fail) | with_reducible assumption) w hw) fun hsl => ?_
  repeat' first|(refine wo ?_; first|(refine ao ?_; first|refine aw ?_|refine aw6 ?_|refine oa ?_|refine adiv ?_|refine amod ?_|refine shr1 ?_|refine shr ?_|refine umod ?_|refine isl ?_|refine ipe ?_|refine ipn ?_|refine ibe ?_)|refine acw ?_|refine ucv ?_|refine anw ?_|refine oa ?_|refine ld ?_|refine ldl ?_|refine lnm ?_|refine ixmn ?_|refine ixm ?_|refine li ?_|refine lv ?_|refine ln ?_|refine ixn ?_|refine ix ?_|refine le ?_|refine sr ?_|refine soi ?_|refine scm ?_|refine sclm ?_|refine schm ?_|refine gy ?_|refine gn ?_|refine gnn ?_|refine gu ?_|(refine gsi (fun hB => ?_) (fun hB => ?_) <;> try (exfalso; omega))|(refine gsn (fun hB => ?_) (fun hB => ?_) <;> try (exfalso; omega))|(refine gs (fun hB => ?_) (fun hB => ?_) <;> try (exfalso; omega)))|(refine gc ?_; first|refine ct ?_|refine cf ?_|(refine ci (fun hB => ?_) (fun hB => ?_) <;> try (exfalso; omega))|(refine cn (fun hB => ?_) (fun hB => ?_) <;> try (exfalso; omega))|(refine cb (fun hB => ?_) (fun hB => ?_) <;> try (exfalso; omega)))|refine sq ?_|refine rg ?_|refine xc ?_|refine nl ?_|refine sk ?_|refine bk ?_|refine xe ?_|refine rt ?_|refine xb ?_
  refine mk (e := 4) (m := k) (fun v => ?_)
  have hrep : List.replicate k.toNat (Value.bool false) = Bs (List.replicate k.toNat false) := by simp
  rw [hrep]
  have hI0 : ClI k ls (List.replicate k.toNat false) := ⟨by simp, fun x _ _ h => by simp [List.getD_eq_getElem?_getD, List.getElem?_replicate] at h; split at h <;> simp at h⟩
  repeat' first|(refine wo ?_; first|(refine ao ?_; first|refine aw ?_|refine aw6 ?_|refine oa ?_|refine adiv ?_|refine amod ?_|refine shr1 ?_|refine shr ?_|refine umod ?_|refine isl ?_|refine ipe ?_|refine ipn ?_|refine ibe ?_)|refine acw ?_|refine ucv ?_|refine anw ?_|refine oa ?_|refine ld ?_|refine ldl ?_|refine lnm ?_|refine ixmn ?_|refine ixm ?_|refine li ?_|refine lv ?_|refine ln ?_|refine ixn ?_|refine ix ?_|refine le ?_|refine sr ?_|refine soi ?_|refine scm ?_|refine sclm ?_|refine schm ?_|refine gy ?_|refine gn ?_|refine gnn ?_|refine gu ?_|(refine gsi (fun hB => ?_) (fun hB => ?_) <;> try (exfalso; omega))|(refine gsn (fun hB => ?_) (fun hB => ?_) <;> try (exfalso; omega))|(refine gs (fun hB => ?_) (fun hB => ?_) <;> try (exfalso; omega)))|(refine gc ?_; first|refine ct ?_|refine cf ?_|(refine ci (fun hB => ?_) (fun hB => ?_) <;> try (exfalso; omega))|(refine cn (fun hB => ?_) (fun hB => ?_) <;> try (exfalso; omega))|(refine cb (fun hB => ?_) (fun hB => ?_) <;> try (exfalso; omega)))|refine sq ?_|refine rg ?_|refine xc ?_|refine nl ?_|refine sk ?_|refine bk ?_|refine xe ?_|refine rt ?_|refine xb ?_
  refine TC.loop (ι := List Bool × Bool) (fun u => [(6, .bool u.2)]) (fun u => [own 4 v (Bs u.1)]) (fun u => ClI k ls u.1 ∧ (u.2 = false → ∀ l ∈ ls, ¬ 0 ≤ lastL u.1 l)) (fun u => 2 * falses u.1 + if u.2 then 1 else 0) (List.replicate k.toNat false, true) [0, 1, 5] ⟨hI0, fun h => (by cases h)⟩ ?_
  clear hI0 hrep
  rintro ⟨kb, more⟩ ⟨hI, hM⟩
  dsimp only at hI hM ⊢
  cases more with
  | false =>
    repeat' first|(refine wo ?_; first|(refine ao ?_; first|refine aw ?_|refine aw6 ?_|refine oa ?_|refine adiv ?_|refine amod ?_|refine shr1 ?_|refine shr ?_|refine umod ?_|refine isl ?_|refine ipe ?_|refine ipn ?_|refine ibe ?_)|refine acw ?_|refine ucv ?_|refine anw ?_|refine oa ?_|refine ld ?_|refine ldl ?_|refine lnm ?_|refine ixmn ?_|refine ixm ?_|refine li ?_|refine lv ?_|refine ln ?_|refine ixn ?_|refine ix ?_|refine le ?_|refine sr ?_|refine soi ?_|refine scm ?_|refine sclm ?_|refine schm ?_|refine gy ?_|refine gn ?_|refine gnn ?_|refine gu ?_|(refine gsi (fun hB => ?_) (fun hB => ?_) <;> try (exfalso; omega))|(refine gsn (fun hB => ?_) (fun hB => ?_) <;> try (exfalso; omega))|(refine gs (fun hB => ?_) (fun hB => ?_) <;> try (exfalso; omega)))|(refine gc ?_; first|refine ct ?_|refine cf ?_|(refine ci (fun hB => ?_) (fun hB => ?_) <;> try (exfalso; omega))|(refine cn (fun hB => ?_) (fun hB => ?_) <;> try (exfalso; omega))|(refine cb (fun hB => ?_) (fun hB => ?_) <;> try (exfalso; omega)))|refine sq ?_|refine rg ?_|refine xc ?_|refine nl ?_|refine sk ?_|refine bk ?_|refine xe ?_|refine rt ?_|refine xb ?_
    exact r1 ⟨kb, hI.len, hI.end hsets (hM rfl), rfl⟩
  | true =>
    clear hM
    repeat' first|(refine wo ?_; first|(refine ao ?_; first|refine aw ?_|refine aw6 ?_|refine oa ?_|refine adiv ?_|refine amod ?_|refine shr1 ?_|refine shr ?_|refine umod ?_|refine isl ?_|refine ipe ?_|refine ipn ?_|refine ibe ?_)|refine acw ?_|refine ucv ?_|refine anw ?_|refine oa ?_|refine ld ?_|refine ldl ?_|refine lnm ?_|refine ixmn ?_|refine ixm ?_|refine li ?_|refine lv ?_|refine ln ?_|refine ixn ?_|refine ix ?_|refine le ?_|refine sr ?_|refine soi ?_|refine scm ?_|refine sclm ?_|refine schm ?_|refine gy ?_|refine gn ?_|refine gnn ?_|refine gu ?_|(refine gsi (fun hB => ?_) (fun hB => ?_) <;> try (exfalso; omega))|(refine gsn (fun hB => ?_) (fun hB => ?_) <;> try (exfalso; omega))|(refine gs (fun hB => ?_) (fun hB => ?_) <;> try (exfalso; omega)))|(refine gc ?_; first|refine ct ?_|refine cf ?_|(refine ci (fun hB => ?_) (fun hB => ?_) <;> try (exfalso; omega))|(refine cn (fun hB => ?_) (fun hB => ?_) <;> try (exfalso; omega))|(refine cb (fun hB => ?_) (fun hB => ?_) <;> try (exfalso; omega)))|refine sq ?_|refine rg ?_|refine xc ?_|refine nl ?_|refine sk ?_|refine bk ?_|refine xe ?_|refine rt ?_|refine xb ?_
    refine TC.loop (ι := ClG) (fun u => [(7, I u.i), (6, .bool u.more)]) (fun u => [own 4 v (Bs u.kb)]) (fun u => u.i ≤ ls.length ∧ ClI k ls u.kb ∧ (u.more = true → falses u.kb < falses kb) ∧ (u.more = false → u.kb = kb ∧ ∀ j, j < u.i → ¬ 0 ≤ lastL kb (ls.getD j []))) (fun u => ls.length - u.i) ⟨0, kb, false⟩ [0, 1, 5] ⟨by simp, hI, fun h => (by cases h), fun _ => ⟨rfl, fun j h => by simp at h⟩⟩ ?_
    rintro ⟨i, kb', more⟩ ⟨h1, hI', hm1, hm2⟩
    dsimp only at h1 hI' hm1 hm2 ⊢
    by_cases hi : i < ls.length
    · have hset := (isSet_iff.1 (hsets _ (getD_mem hi))).2.2
      have hset' : ∀ x ∈ ls.getD i [], 0 ≤ x ∧ x < kb'.length := fun x hx => by have := hset x hx; have := hI'.len; omega
      repeat' first|(refine gca ?_; first|(refine ca (last_tr v (hs.getD i nS) kb' (ls.getD i []) hset') ?_; rintro _ _ ⟨rfl, rfl⟩))|(refine wo ?_; first|(refine ao ?_; first|refine aw ?_|refine aw6 ?_|refine oa ?_|refine adiv ?_|refine amod ?_|refine shr1 ?_|refine shr ?_|refine umod ?_|refine isl ?_|refine ipe ?_|refine ipn ?_|refine ibe ?_)|refine acw ?_|refine ucv ?_|refine anw ?_|refine oa ?_|refine ld ?_|refine ldl ?_|refine lnm ?_|refine ixmn ?_|refine ixm ?_|refine li ?_|refine lv ?_|refine ln ?_|refine ixn ?_|refine ix ?_|refine le ?_|refine sr ?_|refine soi ?_|refine scm ?_|refine sclm ?_|refine schm ?_|refine gy ?_|refine gn ?_|refine gnn ?_|refine gu ?_|(refine gsi (fun hB => ?_) (fun hB => ?_) <;> try (exfalso; omega))|(refine gsn (fun hB => ?_) (fun hB => ?_) <;> try (exfalso; omega))|(refine gs (fun hB => ?_) (fun hB => ?_) <;> try (exfalso; omega)))|(refine gc ?_; first|refine ct ?_|refine cf ?_|(refine ci (fun hB => ?_) (fun hB => ?_) <;> try (exfalso; omega))|(refine cn (fun hB => ?_) (fun hB => ?_) <;> try (exfalso; omega))|(refine cb (fun hB => ?_) (fun hB => ?_) <;> try (exfalso; omega)))|refine sq ?_|refine rg ?_|refine xc ?_|refine nl ?_|refine sk ?_|refine bk ?_|refine xe ?_|refine rt ?_|refine xb ?_
      · obtain ⟨g1, g2, g3⟩ := hI'.set (getD_mem hi) hset (by assumption)
        generalize hx : lastL kb' (ls.getD i []) = x at *
        repeat' first|refine sob (l := kb') ?_|(refine wo ?_; first|(refine ao ?_; first|refine aw ?_|refine aw6 ?_|refine oa ?_|refine adiv ?_|refine amod ?_|refine shr1 ?_|refine shr ?_|refine umod ?_|refine isl ?_|refine ipe ?_|refine ipn ?_|refine ibe ?_)|refine acw ?_|refine ucv ?_|refine anw ?_|refine oa ?_|refine ld ?_|refine ldl ?_|refine lnm ?_|refine ixmn ?_|refine ixm ?_|refine li ?_|refine lv ?_|refine ln ?_|refine ixn ?_|refine ix ?_|refine le ?_|refine sr ?_|refine soi ?_|refine scm ?_|refine sclm ?_|refine schm ?_|refine gy ?_|refine gn ?_|refine gnn ?_|refine gu ?_|(refine gsi (fun hB => ?_) (fun hB => ?_) <;> try (exfalso; omega))|(refine gsn (fun hB => ?_) (fun hB => ?_) <;> try (exfalso; omega))|(refine gs (fun hB => ?_) (fun hB => ?_) <;> try (exfalso; omega)))|(refine gc ?_; first|refine ct ?_|refine cf ?_|(refine ci (fun hB => ?_) (fun hB => ?_) <;> try (exfalso; omega))|(refine cn (fun hB => ?_) (fun hB => ?_) <;> try (exfalso; omega))|(refine cb (fun hB => ?_) (fun hB => ?_) <;> try (exfalso; omega)))|refine sq ?_|refine rg ?_|refine xc ?_|refine nl ?_|refine sk ?_|refine bk ?_|refine xe ?_|refine rt ?_|refine xb ?_
        refine lp ⟨i + 1, kb'.set x.toNat true, true⟩ ⟨by dsimp only; omega, g2, fun _ => ?_, fun h => (by cases h)⟩
        cases more with
        | true => have := hm1 rfl; dsimp only; omega
        | false => have := (hm2 rfl).1; subst this; exact g3
      · refine lp ⟨i + 1, kb', more⟩ ⟨by dsimp only; omega, hI', hm1, fun hm => ⟨(hm2 hm).1, fun j hj => ?_⟩⟩
        dsimp only at hj
        by_cases e : j = i
        · subst e; rw [← (hm2 hm).1]; assumption
        · exact (hm2 hm).2 j (by omega)
    · obtain rfl : i = ls.length := by omega
      repeat' first|(refine wo ?_; first|(refine ao ?_; first|refine aw ?_|refine aw6 ?_|refine oa ?_|refine adiv ?_|refine amod ?_|refine shr1 ?_|refine shr ?_|refine umod ?_|refine isl ?_|refine ipe ?_|refine ipn ?_|refine ibe ?_)|refine acw ?_|refine ucv ?_|refine anw ?_|refine oa ?_|refine ld ?_|refine ldl ?_|refine lnm ?_|refine ixmn ?_|refine ixm ?_|refine li ?_|refine lv ?_|refine ln ?_|refine ixn ?_|refine ix ?_|refine le ?_|refine sr ?_|refine soi ?_|refine scm ?_|refine sclm ?_|refine schm ?_|refine gy ?_|refine gn ?_|refine gnn ?_|refine gu ?_|(refine gsi (fun hB => ?_) (fun hB => ?_) <;> try (exfalso; omega))|(refine gsn (fun hB => ?_) (fun hB => ?_) <;> try (exfalso; omega))|(refine gs (fun hB => ?_) (fun hB => ?_) <;> try (exfalso; omega)))|(refine gc ?_; first|refine ct ?_|refine cf ?_|(refine ci (fun hB => ?_) (fun hB => ?_) <;> try (exfalso; omega))|(refine cn (fun hB => ?_) (fun hB => ?_) <;> try (exfalso; omega))|(refine cb (fun hB => ?_) (fun hB => ?_) <;> try (exfalso; omega)))|refine sq ?_|refine rg ?_|refine xc ?_|refine nl ?_|refine sk ?_|refine bk ?_|refine xe ?_|refine rt ?_|refine xb ?_
      refine lp (kb', more) ⟨hI', fun hm l hl => ?_⟩ (hlt := ?_)
      · dsimp only at hm ⊢
        obtain ⟨j, hj, rfl⟩ := List.mem_iff_getElem.1 hl
        have := (hm2 hm).2 j hj
        rw [(hm2 hm).1]
        simpa [List.getD_eq_getElem?_getD, hj] using this
      · dsimp only
        cases more with
        | true => have := hm1 rfl; simp only [if_true]; omega
        | false => rw [(hm2 rfl).1]; simp
theorem refLists {k : Int} {ls : List (List Int)} {kb : List Bool} (h : ∀ x, 0 ≤ x → x < k → ((!kb.getD x.toNat false) = true ↔ ¬ Kn ls x)) : ((belowI k).filter fun x => kb.getD x.toNat false == true) = knownL k ls ∧ ((belowI k).filter fun x => kb.getD x.toNat false == false) = largeL k ls := by
  obtain ⟨h1, h2⟩ := known_of (k := k) (ls := ls) (fun x => !kb.getD x.toNat false) h
  rw [h1, h2]
  constructor
  · exact List.filter_congr fun x _ => by cases kb.getD x.toNat false <;> rfl
  · exact List.filter_congr fun x _ => by cases kb.getD x.toNat false <;> rfl
theorem rKnown_tr (k : Int) (s : Value) (hs : List Value) (ls : List (List Int)) : Tr Try.prog 56 [I k, s] [vw s hs, vels hs ls] [] fun v D => ∃ o, v = tup2 o (I (stopE k ls)) ∧ D = [own 3 o (Is (knownR k ls))] := by
  refine Tr.enter env _ Try.func56 (by kernel_rfl) rfl Try.ntmps56 rfl (by repeat (first | exact has00 | refine has01 ?_)) fun w0 => ?_
  repeat' first|(refine gca ?_; first|(refine ca (rrefuses_tr _ _ _ ls) ?_; rintro _ _ ⟨rfl, rfl⟩))|(refine wo ?_; first|(refine ao ?_; first|refine aw ?_|refine aw6 ?_|refine oa ?_|refine adiv ?_|refine amod ?_|refine shr1 ?_|refine shr ?_|refine umod ?_|refine isl ?_|refine ipe ?_|refine ipn ?_|refine ibe ?_)|refine acw ?_|refine ucv ?_|refine anw ?_|refine oa ?_|refine ld ?_|refine ldl ?_|refine lnm ?_|refine ixmn ?_|refine ixm ?_|refine li ?_|refine lv ?_|refine ln ?_|refine ixn ?_|refine ix ?_|refine le ?_|refine sr ?_|refine soi ?_|refine scm ?_|refine sclm ?_|refine schm ?_|refine gy ?_|refine gn ?_|refine gnn ?_|refine gu ?_|(refine gsi (fun hB => ?_) (fun hB => ?_) <;> try (exfalso; omega))|(refine gsn (fun hB => ?_) (fun hB => ?_) <;> try (exfalso; omega))|(refine gs (fun hB => ?_) (fun hB => ?_) <;> try (exfalso; omega)))|(refine gc ?_; first|refine ct ?_|refine cf ?_|(refine ci (fun hB => ?_) (fun hB => ?_) <;> try (exfalso; omega))|(refine cn (fun hB => ?_) (fun hB => ?_) <;> try (exfalso; omega))|(refine cb (fun hB => ?_) (fun hB => ?_) <;> try (exfalso; omega)))|refine sq ?_|refine rg ?_|refine xc ?_|refine nl ?_|refine sk ?_|refine bk ?_|refine xe ?_|refine rt ?_|refine xb ?_
  · refine TX.im (own_nil 3 _) ?_
    exact r2 ⟨nS, rfl, by rw [knownR, if_neg (by assumption)]⟩
  have hE : stopE k ls = 0 := hB
  obtain ⟨hk1, hk2, -⟩ := stopE_zero hE
  refine ca (closure_tr k s hs ls hE) ?_
  rintro v _ ⟨kb, hkl, hkn, rfl⟩
  rw [show knownR k ls = (belowI k).filter fun x => kb.getD x.toNat false == true by rw [(refLists hkn).1, knownR, if_pos hE], hE]
  repeat' first|(refine gca ?_; first|(refine ca (those_tr v kb k true hkl.symm (by omega)) ?_; rintro o _ rfl))|(refine wo ?_; first|(refine ao ?_; first|refine aw ?_|refine aw6 ?_|refine oa ?_|refine adiv ?_|refine amod ?_|refine shr1 ?_|refine shr ?_|refine umod ?_|refine isl ?_|refine ipe ?_|refine ipn ?_|refine ibe ?_)|refine acw ?_|refine ucv ?_|refine anw ?_|refine oa ?_|refine ld ?_|refine ldl ?_|refine lnm ?_|refine ixmn ?_|refine ixm ?_|refine li ?_|refine lv ?_|refine ln ?_|refine ixn ?_|refine ix ?_|refine le ?_|refine sr ?_|refine soi ?_|refine scm ?_|refine sclm ?_|refine schm ?_|refine gy ?_|refine gn ?_|refine gnn ?_|refine gu ?_|(refine gsi (fun hB => ?_) (fun hB => ?_) <;> try (exfalso; omega))|(refine gsn (fun hB => ?_) (fun hB => ?_) <;> try (exfalso; omega))|(refine gs (fun hB => ?_) (fun hB => ?_) <;> try (exfalso; omega)))|(refine gc ?_; first|refine ct ?_|refine cf ?_|(refine ci (fun hB => ?_) (fun hB => ?_) <;> try (exfalso; omega))|(refine cn (fun hB => ?_) (fun hB => ?_) <;> try (exfalso; omega))|(refine cb (fun hB => ?_) (fun hB => ?_) <;> try (exfalso; omega)))|refine sq ?_|refine rg ?_|refine xc ?_|refine nl ?_|refine sk ?_|refine bk ?_|refine xe ?_|refine rt ?_|refine xb ?_
  exact r2 ⟨o, rfl, rfl⟩
theorem rLargest_tr (k : Int) (s : Value) (hs : List Value) (ls : List (List Int)) : Tr Try.prog 58 [I k, s] [vw s hs, vels hs ls] [] fun v D => ∃ o, v = tup2 o (I (stopE k ls)) ∧ D = [own 3 o (Is (largeR k ls))] := by
  refine Tr.enter env _ Try.func58 (by kernel_rfl) rfl Try.ntmps58 rfl (by repeat (first | exact has00 | refine has01 ?_)) fun w0 => ?_
  repeat' first|(refine gca ?_; first|(refine ca (rrefuses_tr _ _ _ ls) ?_; rintro _ _ ⟨rfl, rfl⟩))|(refine wo ?_; first|(refine ao ?_; first|refine aw ?_|refine aw6 ?_|refine oa ?_|refine adiv ?_|refine amod ?_|refine shr1 ?_|refine shr ?_|refine umod ?_|refine isl ?_|refine ipe ?_|refine ipn ?_|refine ibe ?_)|refine acw ?_|refine ucv ?_|refine anw ?_|refine oa ?_|refine ld ?_|refine ldl ?_|refine lnm ?_|refine ixmn ?_|refine ixm ?_|refine li ?_|refine lv ?_|refine ln ?_|refine ixn ?_|refine ix ?_|refine le ?_|refine sr ?_|refine soi ?_|refine scm ?_|refine sclm ?_|refine schm ?_|refine gy ?_|refine gn ?_|refine gnn ?_|refine gu ?_|(refine gsi (fun hB => ?_) (fun hB => ?_) <;> try (exfalso; omega))|(refine gsn (fun hB => ?_) (fun hB => ?_) <;> try (exfalso; omega))|(refine gs (fun hB => ?_) (fun hB => ?_) <;> try (exfalso; omega)))|(refine gc ?_; first|refine ct ?_|refine cf ?_|(refine ci (fun hB => ?_) (fun hB => ?_) <;> try (exfalso; omega))|(refine cn (fun hB => ?_) (fun hB => ?_) <;> try (exfalso; omega))|(refine cb (fun hB => ?_) (fun hB => ?_) <;> try (exfalso; omega)))|refine sq ?_|refine rg ?_|refine xc ?_|refine nl ?_|refine sk ?_|refine bk ?_|refine xe ?_|refine rt ?_|refine xb ?_
  · refine TX.im (own_nil 3 _) ?_
    exact r2 ⟨nS, rfl, by rw [largeR, if_neg (by assumption)]⟩
  have hE : stopE k ls = 0 := hB
  obtain ⟨hk1, hk2, -⟩ := stopE_zero hE
  refine ca (closure_tr k s hs ls hE) ?_
  rintro v _ ⟨kb, hkl, hkn, rfl⟩
  rw [show largeR k ls = (belowI k).filter fun x => kb.getD x.toNat false == false by rw [(refLists hkn).2, largeR, if_pos hE], hE]
  repeat' first|(refine gca ?_; first|(refine ca (those_tr v kb k false hkl.symm (by omega)) ?_; rintro o _ rfl))|(refine wo ?_; first|(refine ao ?_; first|refine aw ?_|refine aw6 ?_|refine oa ?_|refine adiv ?_|refine amod ?_|refine shr1 ?_|refine shr ?_|refine umod ?_|refine isl ?_|refine ipe ?_|refine ipn ?_|refine ibe ?_)|refine acw ?_|refine ucv ?_|refine anw ?_|refine oa ?_|refine ld ?_|refine ldl ?_|refine lnm ?_|refine ixmn ?_|refine ixm ?_|refine li ?_|refine lv ?_|refine ln ?_|refine ixn ?_|refine ix ?_|refine le ?_|refine sr ?_|refine soi ?_|refine scm ?_|refine sclm ?_|refine schm ?_|refine gy ?_|refine gn ?_|refine gnn ?_|refine gu ?_|(refine gsi (fun hB => ?_) (fun hB => ?_) <;> try (exfalso; omega))|(refine gsn (fun hB => ?_) (fun hB => ?_) <;> try (exfalso; omega))|(refine gs (fun hB => ?_) (fun hB => ?_) <;> try (exfalso; omega)))|(refine gc ?_; first|refine ct ?_|refine cf ?_|(refine ci (fun hB => ?_) (fun hB => ?_) <;> try (exfalso; omega))|(refine cn (fun hB => ?_) (fun hB => ?_) <;> try (exfalso; omega))|(refine cb (fun hB => ?_) (fun hB => ?_) <;> try (exfalso; omega)))|refine sq ?_|refine rg ?_|refine xc ?_|refine nl ?_|refine sk ?_|refine bk ?_|refine xe ?_|refine rt ?_|refine xb ?_
  exact r2 ⟨o, rfl, rfl⟩
theorem rFails_tr (k : Int) (s : Value) (hs : List Value) (ls : List (List Int)) : Tr Try.prog 60 [I k, s] [vw s hs, vels hs ls] [] fun v D => v = tup2 (.bool (decide (0 < (largeR k ls).length))) (I (stopE k ls)) ∧ D = [] := by
  refine Tr.enter env _ Try.func60 (by kernel_rfl) rfl Try.ntmps60 rfl (by repeat (first | exact has00 | refine has01 ?_)) fun w0 => ?_
  repeat' first|(refine gca ?_; first|(refine ca (rLargest_tr _ _ _ ls) ?_; rintro _ _ ⟨o, rfl, rfl⟩))|(refine wo ?_; first|(refine ao ?_; first|refine aw ?_|refine aw6 ?_|refine oa ?_|refine adiv ?_|refine amod ?_|refine shr1 ?_|refine shr ?_|refine umod ?_|refine isl ?_|refine ipe ?_|refine ipn ?_|refine ibe ?_)|refine acw ?_|refine ucv ?_|refine anw ?_|refine oa ?_|refine ld ?_|refine ldl ?_|refine lnm ?_|refine ixmn ?_|refine ixm ?_|refine li ?_|refine lv ?_|refine ln ?_|refine ixn ?_|refine ix ?_|refine le ?_|refine sr ?_|refine soi ?_|refine scm ?_|refine sclm ?_|refine schm ?_|refine gy ?_|refine gn ?_|refine gnn ?_|refine gu ?_|(refine gsi (fun hB => ?_) (fun hB => ?_) <;> try (exfalso; omega))|(refine gsn (fun hB => ?_) (fun hB => ?_) <;> try (exfalso; omega))|(refine gs (fun hB => ?_) (fun hB => ?_) <;> try (exfalso; omega)))|(refine gc ?_; first|refine ct ?_|refine cf ?_|(refine ci (fun hB => ?_) (fun hB => ?_) <;> try (exfalso; omega))|(refine cn (fun hB => ?_) (fun hB => ?_) <;> try (exfalso; omega))|(refine cb (fun hB => ?_) (fun hB => ?_) <;> try (exfalso; omega)))|refine sq ?_|refine rg ?_|refine xc ?_|refine nl ?_|refine sk ?_|refine bk ?_|refine xe ?_|refine rt ?_|refine xb ?_
  refine r2 ⟨?_, rfl⟩
  congr 3
  simp
end Go.Art
