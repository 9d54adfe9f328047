/- Texts put together: Ak Mk Gs Qv Qw Rq Qp. Conditions: none. -/
import Derived.Test.YtbdmhamjhkibgaaGreatZDe
set_option linter.unusedSimpArgs false
set_option linter.unusedVariables false
namespace Go.Art
open Go

def Rep (h S : List Int) : Prop := Heap h ∧ h.Perm S ∧ S.Pairwise (· ≤ ·)
structure AlS where
  rest : List Int
  cut : List Int
  oth : List Int
  B : List Int
  A : List Int
def alStep (all : Int) (u : AlS) (i j : Int) (B A : List Int) : AlS :=
  let ri := u.rest.getD i.toNat 0
  let r := u.rest.getD j.toNat 0 - (all - ri)
  ⟨u.rest.set j.toNat r, u.cut.set i.toNat ri, u.oth.set i.toNat j, if r > all then B else if r < all then srt (j :: B) else B, if r > all then j :: A else A⟩
def alRun (all : Int) : Nat → AlS → AlS
  | 0, u => u
  | f + 1, u => match u.B, u.A with
    | i :: B, j :: A => alRun all f (alStep all u i j B A)
    | _, _ => u
def alIn (t : List Int) (all : Int) : Nat → AlS
  | 0 => ⟨List.replicate t.length 0, List.replicate t.length 0, List.replicate t.length 0, [], []⟩
  | i + 1 => let u := alIn t all i
    let r := t.getD i 0 * t.length
    ⟨u.rest.set i r, u.cut.set i all, u.oth.set i i, if r < all then srt ((i : Int) :: u.B) else u.B, if r < all then u.A else if r > all then srt ((i : Int) :: u.A) else u.A⟩
structure AlI (t : List Int) (all : Int) (u : AlS) : Prop where
  lr : u.rest.length = t.length
  lc : u.cut.length = t.length
  lo : u.oth.length = t.length
  nd : (u.B ++ u.A).Nodup
  B : ∀ i ∈ u.B, (0 ≤ i ∧ i < t.length) ∧ 0 ≤ u.rest.getD i.toNat 0 ∧ u.rest.getD i.toNat 0 < all
  A : ∀ j ∈ u.A, (0 ≤ j ∧ j < t.length) ∧ all < u.rest.getD j.toNat 0 ∧ u.rest.getD j.toNat 0 ≤ 1099511627776 ∧ 0 < t.getD j.toNat 0
  sum : (u.B.map fun i => all - u.rest.getD i.toNat 0).sum = (u.A.map fun j => u.rest.getD j.toNat 0 - all).sum
  cut : ∀ c : Nat, c < t.length → 0 ≤ u.cut.getD c 0 ∧ u.cut.getD c 0 ≤ all
  oth : ∀ c : Nat, c < t.length → (0 ≤ u.oth.getD c 0 ∧ u.oth.getD c 0 < t.length) ∧ (u.cut.getD c 0 = all ∨ 0 < t.getD (u.oth.getD c 0).toNat 0)
  zero : ∀ c : Nat, c < t.length → ¬ 0 < t.getD c 0 → u.rest.getD c 0 = 0 ∧ ((c : Int) ∈ u.B ∨ u.cut.getD c 0 = 0)
structure AlJ (t : List Int) (all : Int) (n : Nat) (u : AlS) : Prop where
  lr : u.rest.length = t.length
  lc : u.cut.length = t.length
  lo : u.oth.length = t.length
  nd : (u.B ++ u.A).Nodup
  B : ∀ i ∈ u.B, (0 ≤ i ∧ i < n) ∧ 0 ≤ u.rest.getD i.toNat 0 ∧ u.rest.getD i.toNat 0 < all
  A : ∀ j ∈ u.A, (0 ≤ j ∧ j < n) ∧ all < u.rest.getD j.toNat 0 ∧ u.rest.getD j.toNat 0 ≤ 1099511627776 ∧ 0 < t.getD j.toNat 0
  sum : (u.B.map fun i => all - u.rest.getD i.toNat 0).sum - (u.A.map fun j => u.rest.getD j.toNat 0 - all).sum = n * all - t.length * (t.take n).sum
  cut : ∀ c : Nat, c < n → u.cut.getD c 0 = all
  oth : ∀ c : Nat, c < n → u.oth.getD c 0 = c
  zero : ∀ c : Nat, c < n → ¬ 0 < t.getD c 0 → u.rest.getD c 0 = 0 ∧ (c : Int) ∈ u.B
def alMu (u : AlS) : Nat := u.B.length + 2 * u.A.length
def alEnd (all : Int) (u : AlS) : AlS := alRun all (alMu u) u
def alF (t : List Int) : AlS := alEnd t.sum (alIn t t.sum t.length)
end Go.Art
set_option linter.unusedSimpArgs false
set_option linter.unusedVariables false
namespace Go.Art
open Go Go.Proofs Go.RowKit
attribute [local irreducible] Fit pt own ro vw mpc lpt vels rels mow lrc dfr
attribute [local irreducible] lmp lme mit velg relg

structure MkG where
  i : Nat
  hb : List Int
  ha : List Int
  bv : Value
  av : Value
structure MkH where
  u : AlS
  hb : List Int
  ha : List Int
  bv : Value
  av : Value
end Go.Art
set_option linter.unusedSimpArgs false
set_option linter.unusedVariables false
namespace Go.Art
open Go Go.Proofs Go.RowKit
def ins (x : Int) (l : List Int) (k : Nat) : List Int := l.take k ++ x :: l.drop k
attribute [local irreducible] Fit pt own ro vw mpc lpt vels rels mow lrc dfr
attribute [local irreducible] lmp lme mit velg relg
structure RoG where
  i : Nat
  l : List Int
  st : BitVec 64
structure RiG where
  i : Nat
  o : Value
  ds : List Int
end Go.Art
set_option linter.unusedSimpArgs false
set_option linter.unusedVariables false
namespace Go.Art
open Go Go.Proofs Go.RowKit
abbrev w0u : Value := .int .u64 0
def rloC (b : Nat) (sv : Value) (x : Lw) (used : Int) : List Ch :=
  match x with
  | .inl st => rloP b st used
  | .inr (l, br) => [pt b [sv, .bool false, w0u, I used, .bool br] TRl, own TLI sv (Is l)]
abbrev rlot (b : Nat) (sv : Value) (x : Lw) (used : Int) : Ch := bnd (rloC b sv x used)
theorem rloC_nb (b : Nat) (sv : Value) (x : Lw) (used : Int) : ∀ c ∈ rloC b sv x used, ∀ b, ¬ c.bd b := by
  cases x with
  | inl st => unfold rloC; (repeat (first | exact nb0 | refine nb1 ?_))
  | inr p => unfold rloC; (repeat (first | exact nb0 | refine nb1 ?_))
instance (b : Nat) (sv : Value) (x : Lw) (used : Int) : NoB (rlot b sv x used) := ⟨fun b h => by obtain ⟨c, hc, h1⟩ := h; exact rloC_nb _ _ _ _ c hc b h1⟩
structure RwG where
  i : Nat
  l : List Int
  outs : List Int
  sv : Value
  x : Lw
attribute [local irreducible] Fit pt own ro vw mpc lpt vels rels mow lrc dfr
attribute [local irreducible] lmp lme mit velg relg
end Go.Art
set_option linter.unusedSimpArgs false
set_option linter.unusedVariables false
namespace Go.Art
open Go Go.Proofs Go.RowKit
def colBad (tot : Int) (cut oth : List Int) (i : Nat) : Prop := cut.getD i 0 < 0 ∨ tot < cut.getD i 0 ∨ oth.getD i 0 < 0 ∨ (cut.length : Int) ≤ oth.getD i 0
def alFst (tot : Int) (cut oth : List Int) : Prop := (1 ≤ tot ∧ tot ≤ 1099511627776) ∧ (1 ≤ cut.length ∧ cut.length ≤ 65536) ∧ oth.length = cut.length
theorem alE_bad {tot : Int} {cut oth : List Int} (h : alFst tot cut oth) {i : Nat} (hi : i < cut.length) (hb : colBad tot cut oth i) : alE tot cut oth = 6 := by
  unfold alE
  unfold alFst at h
  rw [if_neg (by omega), if_pos]
  have a1 : cut.getD i 0 ∈ cut := mem_getD.2 ⟨i, hi, rfl⟩
  have a2 : oth.getD i 0 ∈ oth := mem_getD.2 ⟨i, by omega, rfl⟩
  unfold colBad at hb
  rw [Bool.or_eq_true]
  by_cases h1 : cut.getD i 0 < 0 ∨ tot < cut.getD i 0
  · exact .inl (List.any_eq_true.2 ⟨_, a1, decide_eq_true (by omega)⟩)
  · exact .inr (List.any_eq_true.2 ⟨_, a2, decide_eq_true (by omega)⟩)
theorem alE_fine {tot : Int} {cut oth : List Int} (h : alFst tot cut oth) (hb : ∀ i, i < cut.length → ¬ colBad tot cut oth i) : alE tot cut oth = 0 := by
  unfold alE
  unfold alFst at h
  rw [if_neg (by omega), if_neg]
  rw [Bool.or_eq_true]
  rintro (h1 | h1)
  · obtain ⟨y, hy, h2⟩ := List.any_eq_true.1 h1
    obtain ⟨i, hi, rfl⟩ := mem_getD.1 hy
    have h3 := of_decide_eq_true h2
    exact hb i hi (by unfold colBad; omega)
  · obtain ⟨y, hy, h2⟩ := List.any_eq_true.1 h1
    obtain ⟨i, hi, rfl⟩ := mem_getD.1 hy
    have h3 := of_decide_eq_true h2
    exact hb i (by omega) (by unfold colBad; omega)
theorem alE_not {tot : Int} {cut oth : List Int} (h : ¬ alFst tot cut oth) : alE tot cut oth = 6 := by
  unfold alE
  unfold alFst at h
  rw [if_pos (by omega)]
attribute [local irreducible] Fit pt own ro vw mpc lpt vels rels mow lrc dfr
attribute [local irreducible] lmp lme mit velg relg
theorem RAlE_tr (tot : Int) (cv ov : Value) (cut oth : List Int) (hc : cv.oneCell' = true) (ho : ov.oneCell' = true) : Tr Tryz.prog 73 [.agg #[I tot, cv, ov]] [vw cv (Is cut), vw ov (Is oth)] [] fun v D => v = I (alE tot cut oth) ∧ D = [] := by
  by_cases hf : alFst tot cut oth
  rotate_left
  · rw [alE_not hf]
    unfold alFst at hf
    refine Tr.enter env _ Tryz.func73 (by kernel_rfl) rfl Tryz.ntmps73 rfl (by repeat (first | exact has00 | refine has01 ?_)) fun w0 => ?_
    refine TC.leni (v := cv) (l := cut) fun hcl => ?_
    refine TC.leni (v := ov) (l := oth) fun hol => ?_
    repeat' first|refine bx fun b => ?_|(refine wo ?_; first|(refine ao ?_; first|refine oa ?_)|refine oa ?_|refine ld ?_|refine lnm ?_|refine gy ?_|refine gn ?_|(refine gsi (fun hB => ?_) (fun hB => ?_) <;> try (exfalso; omega)))|(refine gc ?_; first|refine ct ?_|(refine cn (fun hB => ?_) (fun hB => ?_) <;> try (exfalso; omega)))|refine sq ?_|refine rg ?_|refine xc ?_|refine nl ?_|refine rt ?_
    all_goals exact r1 ⟨rfl, rfl⟩
  have hbad := fun i hi hb => alE_bad (i := i) hf hi hb
  have hfine := alE_fine hf
  generalize alE tot cut oth = e at *
  unfold alFst at hf
  refine Tr.enter env _ Tryz.func73 (by kernel_rfl) rfl Tryz.ntmps73 rfl (by repeat (first | exact has00 | refine has01 ?_)) fun w0 => ?_
  repeat' first|refine bx fun b => ?_|(refine wo ?_; first|(refine ao ?_; first|refine oa ?_)|refine oa ?_|refine ld ?_|refine lnm ?_|refine gy ?_|(refine gsi (fun hB => ?_) (fun hB => ?_) <;> try (exfalso; omega)))|(refine gc ?_; first|(refine cn (fun hB => ?_) (fun hB => ?_) <;> try (exfalso; omega)))|refine sq ?_|refine rg ?_|refine xc ?_|refine nl ?_|refine sk ?_|refine bk ?_
  refine TC.loop (ι := Nat) (fun i => [(4, I i)]) (fun _ => []) (fun i => i ≤ cut.length ∧ ∀ j, j < i → ¬ colBad tot cut oth j) (fun i => cut.length - i) 0 [1, 3] ⟨Nat.zero_le _, fun j h => absurd h (Nat.not_lt_zero j)⟩ ?_
  rintro i ⟨hi, hok⟩
  by_cases hlt : i < cut.length
  · have hb1 := hbad i hlt
    have hnx : ¬ colBad tot cut oth i → ∀ j, j < i + 1 → ¬ colBad tot cut oth j := fun h j hj => by
      by_cases e : j = i
      · rw [e]; exact h
      · exact hok j (by omega)
    unfold colBad at hb1 hnx
    clear hbad hfine hok
    generalize hx : cut.getD i 0 = x at *
    generalize hy : oth.getD i 0 = y at *
    by_cases hb : x < 0 ∨ tot < x ∨ y < 0 ∨ (cut.length : Int) ≤ y
    · have e6 := hb1 hb
      subst e6
      clear hb1 hnx
      repeat' first|refine qlie hx ?_|refine qlie hy ?_|(refine wo ?_; first|(refine ao ?_; first|refine oa ?_)|refine oa ?_)|(refine gc ?_; first|refine ct ?_|(refine ci (fun hB => ?_) (fun hB => ?_) <;> try (exfalso; omega)))|refine sq ?_|refine rg ?_|refine xc ?_|refine nl ?_|refine sk ?_|refine bk ?_|refine rt ?_|refine rq ?_|refine nq ?_|(refine wq ?_; first|(refine qao ?_; first|refine qa ?_)|refine qa ?_|refine qld ?_|refine qixmn ?_|refine qgy ?_|refine qgn ?_|(refine qgsi (fun hB => ?_) (fun hB => ?_) <;> try (exfalso; omega)))
      all_goals exact r1 ⟨rfl, rfl⟩
    · have hn := hnx hb
      clear hb1 hnx
      repeat' first|refine qlie hx ?_|refine qlie hy ?_|(refine wo ?_; first|(refine ao ?_; first|refine aw ?_|refine oa ?_)|refine oa ?_)|(refine gc ?_; first|(refine ci (fun hB => ?_) (fun hB => ?_) <;> try (exfalso; omega)))|refine sq ?_|refine rg ?_|refine xc ?_|refine nl ?_|refine sk ?_|refine bk ?_|refine xb ?_|refine rq ?_|refine nq ?_|(refine wq ?_; first|(refine qao ?_; first|refine qa ?_)|refine qa ?_|refine qld ?_|refine qixmn ?_|refine qgy ?_|(refine qgsi (fun hB => ?_) (fun hB => ?_) <;> try (exfalso; omega)))
      exact lp (i + 1) ⟨hlt, by unfold colBad; exact hn⟩
  · obtain rfl : i = cut.length := by omega
    have e0 := hfine hok
    subst e0
    repeat' first|(refine wo ?_; first|(refine ao ?_; first|refine oa ?_)|refine oa ?_)|(refine gc ?_; first|(refine ci (fun hB => ?_) (fun hB => ?_) <;> try (exfalso; omega)))|refine sq ?_|refine rg ?_|refine xc ?_|refine nl ?_|refine xe ?_|refine rt ?_
    exact r1 ⟨rfl, rfl⟩
theorem RAlPk_tr (tot c l : Int) (cv ov : Value) (cut oth : List Int) (hc : cv.oneCell' = true) (ho : ov.oneCell' = true) (hE : alE tot cut oth = 0) (h1 : 0 ≤ c ∧ c < cut.length) (h2 : 0 ≤ l ∧ l < tot) :
    Tr Tryz.prog 104 [.agg #[I tot, cv, ov], I c, I l] [vw cv (Is cut), vw ov (Is oth)] [] fun v D => v = tup2 (I (alPick tot cut oth c l)) (I 0) ∧ D = [] := by
  have hol : oth.length = cut.length := by
    refine Classical.byContradiction fun hn => ?_
    have := alE_not (tot := tot) (cut := cut) (oth := oth) (fun h => hn h.2.2)
    omega
  have hA := RAlE_tr tot cv ov cut oth hc ho
  rw [hE] at hA
  refine Tr.enter env _ Tryz.func104 (by kernel_rfl) rfl Tryz.ntmps104 rfl (by repeat (first | exact has00 | refine has01 ?_)) fun w0 => ?_
  repeat' first|(refine gca ?_; first|(refine ca hA ?_; rintro _ _ ⟨rfl, rfl⟩))|refine bx fun b => ?_|refine lda ?_|(refine wo ?_; first|(refine ao ?_; first|refine oa ?_)|refine oa ?_|refine ld ?_|refine lnm ?_|refine ixm ?_|refine li ?_|refine gy ?_|(refine gsi (fun hB => ?_) (fun hB => ?_) <;> try (exfalso; omega)))|(refine gc ?_; first|refine cf ?_|(refine ci (fun hB => ?_) (fun hB => ?_) <;> try (exfalso; omega)))|refine sq ?_|refine rg ?_|refine xc ?_|refine nl ?_|refine sk ?_|refine bk ?_|refine rt ?_|refine xb ?_
  · refine r2 ⟨?_, rfl⟩
    unfold alPick; rw [if_pos hB]
  · refine r2 ⟨?_, rfl⟩
    unfold alPick; rw [if_neg hB]
theorem RRwE_tr (tot k : Int) (cv ov : Value) (cut oth : List Int) (hc : cv.oneCell' = true) (ho : ov.oneCell' = true) : Tr Tryz.prog 30 [.agg #[I tot, cv, ov], I k] [vw cv (Is cut), vw ov (Is oth)] [] fun v D => v = I (rwE tot cut oth k) ∧ D = [] := by
  have hA := RAlE_tr tot cv ov cut oth hc ho
  unfold rwE
  rcases alE_or tot cut oth with hE | hE
  · rw [hE] at hA
    rw [if_pos hE]
    refine Tr.enter env _ Tryz.func30 (by kernel_rfl) rfl Tryz.ntmps30 rfl (by repeat (first | exact has00 | refine has01 ?_)) fun w0 => ?_
    repeat' first|(refine gca ?_; first|(refine ca hA ?_; rintro _ _ ⟨rfl, rfl⟩))|refine bx fun b => ?_|refine lda ?_|(refine wo ?_; first|(refine ao ?_; first|refine oa ?_)|refine oa ?_|refine ld ?_|refine lnm ?_|refine gy ?_|refine gn ?_|(refine gsi (fun hB => ?_) (fun hB => ?_) <;> try (exfalso; omega)))|(refine gc ?_; first|refine ct ?_|refine cf ?_|(refine ci (fun hB => ?_) (fun hB => ?_) <;> try (exfalso; omega)))|refine sq ?_|refine rg ?_|refine xc ?_|refine nl ?_|refine sk ?_|refine rt ?_
    · exact r1 ⟨by rw [if_pos (by omega)], rfl⟩
    · exact r1 ⟨by rw [if_pos (by omega)], rfl⟩
    · exact r1 ⟨by rw [if_pos (by omega)], rfl⟩
    · exact r1 ⟨by rw [if_neg (by omega)], rfl⟩
  · rw [hE] at hA
    rw [if_neg (by omega)]
    refine Tr.enter env _ Tryz.func30 (by kernel_rfl) rfl Tryz.ntmps30 rfl (by repeat (first | exact has00 | refine has01 ?_)) fun w0 => ?_
    repeat' first|(refine gca ?_; first|(refine ca hA ?_; rintro _ _ ⟨rfl, rfl⟩))|refine bx fun b => ?_|refine lda ?_|(refine wo ?_; first|(refine ao ?_; first|refine oa ?_)|refine oa ?_)|(refine gc ?_; first|refine ct ?_)|refine sq ?_|refine rg ?_|refine xc ?_|refine nl ?_|refine rt ?_
    exact r1 ⟨rfl, rfl⟩
theorem degreeW_tr (tot c l : Int) (cv ov : Value) (cut oth : List Int) (hc : cv.oneCell' = true) (ho : ov.oneCell' = true) (hE : alE tot cut oth = 0) (h1 : 0 ≤ c ∧ c < cut.length) (h2 : 0 ≤ l ∧ l < tot) :
    Tr Tryz.prog 68 [.agg #[I tot, cv, ov], I c, I l] [vw cv (Is cut), vw ov (Is oth)] [] fun v D => v = I (alPick tot cut oth c l + 1) ∧ D = [] := by
  have hP := RAlPk_tr tot c l cv ov cut oth hc ho hE h1 h2
  have hb := alE_bnd hE
  have h3 := alPick_in hE (l := l) h1
  generalize alPick tot cut oth c l = a at *
  refine Tr.enter env _ Tryz.func68 (by kernel_rfl) rfl Tryz.ntmps68 rfl (by repeat (first | exact has00 | refine has01 ?_)) fun w0 => ?_
  repeat' first|(refine gca ?_; first|(refine ca hP ?_; rintro _ _ ⟨rfl, rfl⟩))|refine bx fun b => ?_|refine lda ?_|(refine wo ?_; first|(refine ao ?_; first|refine aw ?_)|refine oa ?_)|refine sq ?_|refine rg ?_|refine xc ?_|refine nl ?_|refine rt ?_
  exact r1 ⟨rfl, rfl⟩
end Go.Art
set_option linter.unusedSimpArgs false
set_option linter.unusedVariables false
namespace Go.Art
open Go Go.Proofs Go.RowKit
theorem bnd_app (C D F : List Ch) : Im (bnd C :: bnd D :: F) (bnd (C ++ D) :: F) := by
  refine (un_bnd C (bnd D :: F)).trans ((Im.app (un_bnd D F) C).trans ?_)
  have := im_bnd (C ++ D) F
  rwa [List.append_assoc] at this
theorem owl_join {e : TypeId} {g : Int → Value} {hs hs2 : List Value} {ls ls2 : List (List Int)} {A F : List Ch} (hl : hs.length = ls.length) (hf : Fit A [owl e g hs ls, owl e g hs2 ls2] F) : Im A (owl e g (hs ++ hs2) (ls ++ ls2) :: F) := by
  refine Im.trans hf ?_
  have := bnd_app (owls e g hs ls) (owls e g hs2 ls2) F
  have e1 : owls e g (hs ++ hs2) (ls ++ ls2) = owls e g hs ls ++ owls e g hs2 ls2 := by unfold owls; rw [List.zipWith_append hl]
  unfold owl
  rw [e1]
  exact this
theorem owl_ones {e : TypeId} {g : Int → Value} {hs : List Value} {ls : List (List Int)} {A : List Ch} (hl : hs.length = ls.length) (h : owl e g hs ls ∈ A) (w : World) (hw : Sat A w) : ∀ c ∈ hs, c.oneCell' = true := fun c hc => by
  obtain ⟨i, hi, rfl⟩ := List.mem_iff_getElem.1 hc
  have h1 : Sat (owls e g hs ls) w := hw.h _ h
  have h2 : OwnO w e (hs.getD i nS) ((ls.getD i []).map g) := h1.h _ (List.mem_of_getElem? (owls_get hl (by omega)))
  rw [List.getD_eq_getElem?_getD, List.getElem?_eq_getElem hi] at h2
  rcases h2 with ⟨h3, _⟩ | ⟨b, o, cap, cur, h3, _⟩
  · show Value.oneCell' hs[i] = true; rw [show hs[i] = _ from h3]; rfl
  · show Value.oneCell' hs[i] = true; rw [show hs[i] = _ from h3]; rfl
theorem fm_le {α : Type} (f : Nat → List α) {i k : Nat} (h : i ≤ k) : ((List.range i).flatMap f).length ≤ ((List.range k).flatMap f).length := by
  obtain ⟨r, hr⟩ := fm_pre f h
  rw [hr, List.length_append]; omega
theorem fm_one {α : Type} (f : Nat → List α) {i k : Nat} (h : i < k) : (f i).length ≤ ((List.range k).flatMap f).length := by
  have h1 := fm_le f (i := i + 1) h
  rw [fm_len] at h1; omega
theorem capmul {a m : Nat} (h : 1 ≤ m) : min (min a 4097 * m) 4097 = min (a * m) 4097 := by
  rcases Nat.le_total a 4097 with h1 | h1
  · rw [Nat.min_eq_left h1]
  · rw [Nat.min_eq_right h1]
    have := Nat.mul_le_mul_right m h1
    have := Nat.le_mul_of_pos_right 4097 h
    omega
structure RlG where
  i : Nat
  o : Value
  hs : List Value
attribute [local irreducible] Fit pt own ro vw mpc lpt vels rels mow lrc dfr
attribute [local irreducible] lmp lme mit velg relg bnd owl dfrl
theorem REnds_tr : ∀ (d k : Nat) (b : List Int) (v : Value), k ≤ 65536 → b.length + d ≤ 100000 → (endsL d k b).length ≤ 4096 → Tr Tryz.prog 76 [v, I k, I d] [vw v (Is b)] []
    fun u D => ∃ hs, u.oneCell' = true ∧ hs.length = (endsL d k b).length ∧ D = [own TLs u hs, owl TLI I hs (endsL d k b)]
  | 0, k, b, v, hk, hb, hl => by
    refine Tr.enter env _ Tryz.func76 (by kernel_rfl) rfl Tryz.ntmps76 rfl (by repeat (first | exact has00 | refine has01 ?_)) fun w0 => ?_
    repeat' first|refine sl0 fun o => ?_|(refine api (l := []) (news := b) (fun o => ?_); refine TO.one (v := o) (xs := Is ([] ++ b)) fun ho => ?_)|(refine sli (vs := [o]) (fun q1 => ?_) (h1 := one_cons ho one_nil); refine TO.one (v := q1) (xs := [o]) fun hq1 => ?_)|(refine wo ?_; first|(refine ao ?_; first|refine oa ?_)|refine oa ?_)|(refine gc ?_; first|refine ct ?_)|refine sq ?_|refine rg ?_|refine xc ?_|refine nl ?_|refine rt ?_
    refine TX.im (owl_nil (e := TLI) (g := I) _) ?_
    refine TX.im (owl_push (hs := []) (ls := []) (v := o) (l := [] ++ b) rfl (by first | apply Fit.all | ((repeat (first | (apply Fit.nilN; (repeat (first | apply nrm_nil | apply nrm_cons)); try apply nrm_rfl) | (apply Fit.cons; focus ((repeat (first | apply Tk.here | apply Tk.there)); first | done | fail)))); first | done | fail))) ?_
    exact r1 ⟨[o], hq1, rfl, rfl⟩
  | d + 1, k, b, v, hk, hb, hl => by
    refine Tr.enter env _ Tryz.func76 (by kernel_rfl) rfl Tryz.ntmps76 rfl (by repeat (first | exact has00 | refine has01 ?_)) fun w0 => ?_
    repeat' first|(refine wo ?_; first|(refine ao ?_; first|refine oa ?_)|refine oa ?_)|(refine gc ?_; first|refine cf ?_)|refine sq ?_|refine rg ?_|refine xc ?_|refine nl ?_|refine sk ?_|refine bk ?_
    refine TC.im (owl_nil (e := TLI) (g := I) _) ?_
    refine TC.im (own_nil TLs _) ?_
    refine TC.loop (ι := RlG) (fun g => [(8, I g.i), (7, g.o)]) (fun g => [own TLs g.o g.hs, owl TLI I g.hs ((List.range g.i).flatMap fun i : Nat => endsL d (k - 1) (b ++ [(i : Int)]))]) (fun g => g.i ≤ k ∧ g.o.oneCell' = true ∧ g.hs.length = ((List.range g.i).flatMap fun i : Nat => endsL d (k - 1) (b ++ [(i : Int)])).length) (fun g => k - g.i) ⟨0, nS, []⟩ [0, 1, 2] ⟨Nat.zero_le _, rfl, rfl⟩ ?_
    rintro ⟨i, o, hs⟩ ⟨hi, ho, hh⟩
    dsimp only at hi ho hh ⊢
    by_cases hlt : i < k
    · have hl1 := fm_one (fun i : Nat => endsL d (k - 1) (b ++ [(i : Int)])) hlt
      have hl2 := fm_le (fun i : Nat => endsL d (k - 1) (b ++ [(i : Int)])) (show i + 1 ≤ k from hlt)
      have hl3 : ((List.range k).flatMap fun i : Nat => endsL d (k - 1) (b ++ [(i : Int)])).length ≤ 4096 := hl
      have hsu := fm_succ (fun i : Nat => endsL d (k - 1) (b ++ [(i : Int)])) i
      have hln := fm_len (fun i : Nat => endsL d (k - 1) (b ++ [(i : Int)])) i
      have ih := fun v => REnds_tr d (k - 1) (b ++ [(i : Int)]) v (by omega) (by simp; omega) (by omega)
      rw [show ((k - 1 : Nat) : Int) = (k : Int) - 1 by omega, show (d : Int) = ((d + 1 : Nat) : Int) - 1 by omega] at ih
      have hbl : b.length + 1 ≤ 100000 := by omega
      have hdb : d ≤ 100000 := by omega
      clear hb
      repeat' first|(refine gca ?_; first|(refine ca (ih o4) ?_; rintro u _ ⟨hs2, hu, hh2, rfl⟩; refine TO.fact (owl_ones (e := TLI) (g := I) (hs := hs2) hh2 (by (repeat (first | apply List.Mem.head | apply List.Mem.tail)); first | done | fail)) fun ho2 => ?_))|refine sl0 fun o2 => ?_|refine api (l := []) (news := b) (fun o3 => ?_)|refine slii [(i : Int)] fun v1 => ?_|refine api (l := [] ++ b) (news := [(i : Int)]) (fun o4 => ?_)|(refine ap (xs := hs) (news := hs2) (fun o5 => ?_) (h1 := ho2) (hby := by omega) (h63 := by omega); refine TO.one (v := o5) (xs := hs ++ hs2) fun ho5 => ?_)|(refine wo ?_; first|(refine ao ?_; first|refine aw ?_|refine oa ?_)|refine oa ?_)|(refine gc ?_; first|(refine ci (fun hB => ?_) (fun hB => ?_) <;> try (exfalso; omega)))|refine sq ?_|refine rg ?_|refine xc ?_|refine nl ?_|refine sk ?_|refine bk ?_|refine xb ?_
      refine TX.im (owl_join (hs := hs) (hs2 := hs2) hh (by first | apply Fit.all | ((repeat (first | (apply Fit.nilN; (repeat (first | apply nrm_nil | apply nrm_cons)); try apply nrm_rfl) | (apply Fit.cons; focus ((repeat (first | apply Tk.here | apply Tk.there)); first | done | fail)))); first | done | fail))) ?_
      rw [← hsu]
      exact lp ⟨i + 1, o5, hs ++ hs2⟩ ⟨hlt, ho5, by dsimp only; rw [List.length_append, hln, hh, hh2]⟩
    · obtain rfl : i = k := by omega
      repeat' first|(refine wo ?_; first|(refine ao ?_; first|refine oa ?_)|refine oa ?_)|(refine gc ?_; first|(refine ci (fun hB => ?_) (fun hB => ?_) <;> try (exfalso; omega)))|refine sq ?_|refine rg ?_|refine xc ?_|refine nl ?_|refine xe ?_|refine rt ?_
      exact r1 ⟨hs, ho, hh, rfl⟩
theorem RFalls_tr (k d : Nat) (hk : k ≤ 65536) (hd : d ≤ k) : Tr Tryz.prog 110 [I k, I d] [] [] fun v D => v = I ((min (fall k d) 4097 : Nat) : Int) ∧ D = [] := by
  refine Tr.enter env _ Tryz.func110 (by kernel_rfl) rfl Tryz.ntmps110 rfl (by repeat (first | exact has00 | refine has01 ?_)) fun w0 => ?_
  repeat' first|(refine wo ?_; first|refine oa ?_)|refine sq ?_|refine rg ?_|refine xc ?_|refine nl ?_|refine bk ?_
  refine TC.loop (ι := Nat) (fun i => [(6, I i), (5, I ((min (fall k i) 4097 : Nat) : Int))]) (fun _ => []) (fun i => i ≤ d) (fun i => d - i) 0 [0, 1] (Nat.zero_le _) ?_
  rintro i hi
  by_cases hlt : i < d
  · have h1 : min (min (fall k i) 4097 * (k - i)) 4097 = min (fall k (i + 1)) 4097 := capmul (by omega)
    have h2 : min (fall k i) 4097 ≤ 4097 := Nat.min_le_right _ _
    obtain ⟨y, hy⟩ : ∃ y, y = min (fall k (i + 1)) 4097 := ⟨_, rfl⟩
    rw [← hy] at h1
    generalize min (fall k i) 4097 = x at *
    have h3 : x * (k - i) ≤ 4097 * 65536 := Nat.mul_le_mul h2 (by omega)
    have h4 : (x : Int) * ((k : Int) - (i : Int)) = ((x * (k - i) : Nat) : Int) := by rw [Int.natCast_mul, Int.ofNat_sub (by omega)]
    obtain ⟨z, hz⟩ : ∃ z, z = x * (k - i) := ⟨_, rfl⟩
    rw [← hz] at h1 h3 h4
    clear hz
    repeat' first|(refine aw (m := (x : Int) * ((k : Int) - (i : Int))) ?_ (hb := by rw [h4]; omega); rw [h4])|(refine mnn ?_; rw [show min (z : Int) 4097 = (y : Int) by omega])|(refine wo ?_; first|(refine ao ?_; first|refine aw ?_|refine oa ?_)|refine oa ?_)|(refine gc ?_; first|(refine ci (fun hB => ?_) (fun hB => ?_) <;> try (exfalso; omega)))|refine sq ?_|refine rg ?_|refine xc ?_|refine nl ?_|refine sk ?_|refine bk ?_|refine xb ?_
    exact lp (i + 1) hlt (hs := by rw [← hy]; (repeat (refine Sub.cons rfl (by first | rfl | go_num) ?_)); exact Sub.nil)
  · obtain rfl : i = d := by omega
    repeat' first|(refine wo ?_; first|(refine ao ?_; first|refine oa ?_)|refine oa ?_)|(refine gc ?_; first|(refine ci (fun hB => ?_) (fun hB => ?_) <;> try (exfalso; omega)))|refine sq ?_|refine rg ?_|refine xc ?_|refine nl ?_|refine xe ?_|refine rt ?_
    exact r1 ⟨rfl, rfl⟩
def cnt (n S : Nat) : Prop := (n ≤ 4096 → n = S) ∧ (4096 < n → 4096 < S) ∧ n ≤ 8193
theorem RMany_tr (tot : Int) (k : Nat) (cv ov : Value) (cut oth : List Int) (hc : cv.oneCell' = true) (ho : ov.oneCell' = true) (hE : alE tot cut oth = 0) (hk : cut.length ≤ k ∧ k ≤ 65536) :
    Tr Tryz.prog 75 [.agg #[I tot, cv, ov], I k] [vw cv (Is cut), vw ov (Is oth)] [] fun v D => ∃ n : Nat, v = I n ∧ cnt n (allL tot cut oth k).length ∧ D = [] := by
  have htb := (alE_bnd hE).1
  refine Tr.enter env _ Tryz.func75 (by kernel_rfl) rfl Tryz.ntmps75 rfl (by repeat (first | exact has00 | refine has01 ?_)) fun w0 => ?_
  repeat' first|refine bx fun b => ?_|(refine wo ?_; first|refine oa ?_)|refine sq ?_|refine rg ?_|refine xc ?_|refine nl ?_|refine bk ?_
  refine TC.loop (ι := Nat × Nat) (fun g => [(6, I g.1), (5, I g.2)]) (fun _ => []) (fun g => g.1 ≤ cut.length ∧ cnt g.2 ((List.range g.1).flatMap fun c : Nat => colL tot cut oth k c).length) (fun g => cut.length - g.1) (0, 0) [1, 2] ⟨Nat.zero_le _, by refine ⟨fun _ => rfl, fun h => ?_, Nat.zero_le _⟩; exact absurd h (by decide)⟩ ?_
  rintro ⟨c, n⟩ ⟨hi, hn⟩
  dsimp only at hi hn ⊢
  by_cases hlt : c < cut.length
  rotate_left
  · obtain rfl : c = cut.length := by omega
    repeat' first|(refine wo ?_; first|(refine ao ?_; first|refine oa ?_)|refine oa ?_|refine ld ?_|refine lnm ?_)|(refine gc ?_; first|(refine ci (fun hB => ?_) (fun hB => ?_) <;> try (exfalso; omega)))|refine sq ?_|refine rg ?_|refine xc ?_|refine nl ?_|refine xe ?_|refine rt ?_
    exact r1 ⟨n, rfl, hn, rfl⟩
  have hcl : ((List.range (c + 1)).flatMap fun c : Nat => colL tot cut oth k c).length = ((List.range c).flatMap fun c : Nat => colL tot cut oth k c).length + ((List.range tot.toNat).flatMap fun x : Nat => lvlL tot cut oth k c x).length := by rw [fm_len]; unfold colL; rfl
  repeat' first|(refine wo ?_; first|(refine ao ?_; first|refine oa ?_)|refine oa ?_|refine ld ?_|refine lnm ?_)|(refine gc ?_; first|(refine ci (fun hB => ?_) (fun hB => ?_) <;> try (exfalso; omega)))|refine sq ?_|refine rg ?_|refine xc ?_|refine nl ?_|refine sk ?_|refine bk ?_
  refine TC.loop (ι := Nat × Nat) (fun g => [(7, I g.1), (5, I g.2)]) (fun _ => []) (fun g => g.1 ≤ tot.toNat ∧ cnt g.2 (((List.range c).flatMap fun c : Nat => colL tot cut oth k c).length + ((List.range g.1).flatMap fun x : Nat => lvlL tot cut oth k c x).length)) (fun g => tot.toNat - g.1) (0, n) [1, 2, 6] ⟨Nat.zero_le _, hn⟩ ?_
  rintro ⟨x, n⟩ ⟨hx, hn⟩
  dsimp only at hx hn ⊢
  by_cases hgo : x < tot.toNat ∧ n ≤ 4096
  · have hD := degreeW_tr tot c x cv ov cut oth hc ho hE (by omega) (by omega)
    have hin := alPick_in hE (c := c) (l := x) (by omega)
    have hlen := fm_len (fun x : Nat => lvlL tot cut oth k c x) x
    obtain ⟨d, hd⟩ : ∃ d : Nat, alPick tot cut oth c x + 1 = d := ⟨(alPick tot cut oth c x + 1).toNat, by omega⟩
    have hlv : (lvlL tot cut oth k c x).length = fall k d := by unfold lvlL; rw [hd, endsL_len]; rfl
    rw [hd] at hD
    rw [hlv] at hlen
    have hF := RFalls_tr k d hk.2 (by omega)
    have hcnt : cnt (n + min (fall k d) 4097) (((List.range c).flatMap fun c : Nat => colL tot cut oth k c).length + ((List.range (x + 1)).flatMap fun x : Nat => lvlL tot cut oth k c x).length) := by
      rw [hlen]
      unfold cnt at hn ⊢
      omega
    have hm : min (fall k d) 4097 ≤ 4097 := Nat.min_le_right _ _
    generalize min (fall k d) 4097 = m at *
    clear hE hlv hlen hd hcl
    repeat' first|(refine gca ?_; first|(refine ca hD ?_; rintro _ _ ⟨rfl, rfl⟩)|(refine ca hF ?_; rintro _ _ ⟨rfl, rfl⟩))|refine lda ?_|(refine wo ?_; first|(refine ao ?_; first|refine aw ?_|refine oa ?_)|refine oa ?_|refine ld ?_|refine gy ?_|(refine gsi (fun hB => ?_) (fun hB => ?_) <;> try (exfalso; omega)))|(refine gc ?_; first|(refine ci (fun hB => ?_) (fun hB => ?_) <;> try (exfalso; omega)))|refine sq ?_|refine rg ?_|refine xc ?_|refine nl ?_|refine sk ?_|refine bk ?_|refine xb ?_
    exact lp (x + 1, n + m) ⟨hgo.1, hcnt⟩
  · have hnx : cnt n ((List.range (c + 1)).flatMap fun c : Nat => colL tot cut oth k c).length := by
      by_cases hxt : x = tot.toNat
      · subst hxt; rw [hcl]; exact hn
      · have h1 := fm_le (fun x : Nat => lvlL tot cut oth k c x) hx
        rw [hcl]
        unfold cnt at hn ⊢
        omega
    clear hcl
    repeat' first|(refine wo ?_; first|(refine ao ?_; first|refine aw ?_|refine oa ?_)|refine oa ?_|refine ld ?_|refine gy ?_|refine gn ?_|(refine gsi (fun hB => ?_) (fun hB => ?_) <;> try (exfalso; omega)))|(refine gc ?_; first|refine cf ?_|(refine ci (fun hB => ?_) (fun hB => ?_) <;> try (exfalso; omega)))|refine sq ?_|refine rg ?_|refine xc ?_|refine nl ?_|refine xe ?_|refine xb ?_
    all_goals exact lp (c + 1, n) ⟨hlt, hnx⟩
theorem RRows_tr (tot k : Int) (cv ov : Value) (cut oth : List Int) (hc : cv.oneCell' = true) (ho : ov.oneCell' = true) : Tr Tryz.prog 33 [.agg #[I tot, cv, ov], I k] [vw cv (Is cut), vw ov (Is oth)] []
    fun u D => ∃ v hs, u = tup2 v (I (rowsW tot cut oth k).2) ∧ v.oneCell' = true ∧ hs.length = (rowsW tot cut oth k).1.length ∧ D = [own TLs v hs, owl TLI I hs (rowsW tot cut oth k).1] := by
  have hC := RRwE_tr tot k cv ov cut oth hc ho
  unfold rowsW
  by_cases hz : rwE tot cut oth k = 0
  rotate_left
  · rw [if_neg hz]
    generalize rwE tot cut oth k = e at *
    refine Tr.enter env _ Tryz.func33 (by kernel_rfl) rfl Tryz.ntmps33 rfl (by repeat (first | exact has00 | refine has01 ?_)) fun w0 => ?_
    repeat' first|(refine gca ?_; first|(refine ca hC ?_; rintro _ _ ⟨rfl, rfl⟩))|refine bx fun b => ?_|refine lda ?_|(refine wo ?_; first|(refine ao ?_; first|refine oa ?_)|refine oa ?_)|(refine gc ?_; first|(refine cn (fun hB => ?_) (fun hB => ?_) <;> try (exfalso; omega)))|refine sq ?_|refine rg ?_|refine xc ?_|refine nl ?_|refine rt ?_
    refine TX.im (owl_nil (e := TLI) (g := I) _) ?_
    refine TX.im (own_nil TLs _) ?_
    exact r2 ⟨nS, [], rfl, rfl, rfl, rfl⟩
  rw [if_pos hz]
  rw [hz] at hC
  obtain ⟨hE, k1, k2, k3⟩ := rwE_ok hz
  obtain ⟨kn, rfl⟩ : ∃ kn : Nat, k = kn := ⟨k.toNat, by omega⟩
  rw [Int.toNat_natCast]
  have hM := RMany_tr tot kn cv ov cut oth hc ho hE ⟨by omega, by omega⟩
  by_cases hbig : 4096 < (allL tot cut oth kn).length
  · rw [if_pos hbig]
    clear hE hz
    generalize (allL tot cut oth kn).length = S at *
    refine Tr.enter env _ Tryz.func33 (by kernel_rfl) rfl Tryz.ntmps33 rfl (by repeat (first | exact has00 | refine has01 ?_)) fun w0 => ?_
    repeat' first|(refine gca ?_; first|(refine ca hC ?_; rintro _ _ ⟨rfl, rfl⟩)|(refine ca hM ?_; rintro _ _ ⟨n, rfl, hn, rfl⟩; unfold cnt at hn))|refine bx fun b => ?_|refine lda ?_|(refine wo ?_; first|(refine ao ?_; first|refine oa ?_)|refine oa ?_)|(refine gc ?_; first|refine cf ?_|(refine ci (fun hB => ?_) (fun hB => ?_) <;> try (exfalso; omega)))|refine sq ?_|refine rg ?_|refine xc ?_|refine nl ?_|refine sk ?_|refine rt ?_
    refine TX.im (owl_nil (e := TLI) (g := I) _) ?_
    refine TX.im (own_nil TLs _) ?_
    exact r2 ⟨nS, [], rfl, rfl, rfl, rfl⟩
  rw [if_neg hbig]
  have htb := (alE_bnd hE).1
  have hM2 : Tr Tryz.prog 75 [.agg #[I tot, cv, ov], I kn] [vw cv (Is cut), vw ov (Is oth)] [] fun v D => ∃ n : Nat, v = I n ∧ n ≤ 4096 ∧ D = [] := hM.mono fun v D ⟨n, h1, h2, h3⟩ => ⟨n, h1, by unfold cnt at h2; omega, h3⟩
  clear hM
  refine Tr.enter env _ Tryz.func33 (by kernel_rfl) rfl Tryz.ntmps33 rfl (by repeat (first | exact has00 | refine has01 ?_)) fun w0 => ?_
  repeat' first|(refine gca ?_; first|(refine ca hC ?_; rintro _ _ ⟨rfl, rfl⟩)|(refine ca hM2 ?_; rintro _ _ ⟨n, rfl, hn, rfl⟩))|refine bx fun b => ?_|refine lda ?_|(refine wo ?_; first|(refine ao ?_; first|refine oa ?_)|refine oa ?_)|(refine gc ?_; first|refine cf ?_|(refine ci (fun hB => ?_) (fun hB => ?_) <;> try (exfalso; omega)))|refine sq ?_|refine rg ?_|refine xc ?_|refine nl ?_|refine sk ?_|refine bk ?_
  refine TC.im (owl_nil (e := TLI) (g := I) _) ?_
  refine TC.im (own_nil TLs _) ?_
  refine TC.loop (ι := RlG) (fun g => [(8, I g.i), (7, g.o)]) (fun g => [own TLs g.o g.hs, owl TLI I g.hs ((List.range g.i).flatMap fun c : Nat => colL tot cut oth kn c)]) (fun g => g.i ≤ cut.length ∧ g.o.oneCell' = true ∧ g.hs.length = ((List.range g.i).flatMap fun c : Nat => colL tot cut oth kn c).length) (fun g => cut.length - g.i) ⟨0, nS, []⟩ [1, 2] ⟨Nat.zero_le _, rfl, rfl⟩ ?_
  clear hM2 hC
  rintro ⟨c, o, hs⟩ ⟨hi, ho1, hh⟩
  dsimp only at hi ho1 hh ⊢
  by_cases hlt : c < cut.length
  rotate_left
  · obtain rfl : c = cut.length := by omega
    repeat' first|(refine wo ?_; first|(refine ao ?_; first|refine oa ?_)|refine oa ?_|refine ld ?_|refine lnm ?_)|(refine gc ?_; first|(refine ci (fun hB => ?_) (fun hB => ?_) <;> try (exfalso; omega)))|refine sq ?_|refine rg ?_|refine xc ?_|refine nl ?_|refine xe ?_|refine rt ?_
    exact r2 ⟨o, hs, rfl, ho1, hh, rfl⟩
  have hcs : (List.range (c + 1)).flatMap (fun c : Nat => colL tot cut oth kn c) = (List.range c).flatMap (fun c : Nat => colL tot cut oth kn c) ++ (List.range tot.toNat).flatMap fun x : Nat => lvlL tot cut oth kn c x := by rw [fm_succ]; unfold colL; rfl
  have hle1 := fm_le (fun c : Nat => colL tot cut oth kn c) (show c + 1 ≤ cut.length from hlt)
  rw [hcs, List.length_append] at hle1
  rw [show (List.range cut.length).flatMap (fun c : Nat => colL tot cut oth kn c) = allL tot cut oth kn from rfl] at hle1
  repeat' first|(refine wo ?_; first|(refine ao ?_; first|refine oa ?_)|refine oa ?_|refine ld ?_|refine lnm ?_)|(refine gc ?_; first|(refine ci (fun hB => ?_) (fun hB => ?_) <;> try (exfalso; omega)))|refine sq ?_|refine rg ?_|refine xc ?_|refine nl ?_|refine sk ?_|refine bk ?_
  refine TC.loop (ι := RlG) (fun g => [(9, I g.i), (7, g.o)]) (fun g => [own TLs g.o g.hs, owl TLI I g.hs ((List.range c).flatMap (fun c : Nat => colL tot cut oth kn c) ++ (List.range g.i).flatMap fun x : Nat => lvlL tot cut oth kn c x)]) (fun g => g.i ≤ tot.toNat ∧ g.o.oneCell' = true ∧ g.hs.length = ((List.range c).flatMap (fun c : Nat => colL tot cut oth kn c) ++ (List.range g.i).flatMap fun x : Nat => lvlL tot cut oth kn c x).length) (fun g => tot.toNat - g.i) ⟨0, o, hs⟩ [1, 2, 8] ⟨Nat.zero_le _, ho1, by simpa using hh⟩ ?_ (hf := by dsimp only; rw [show (List.range 0).flatMap (fun x : Nat => lvlL tot cut oth kn c x) = [] from rfl, List.append_nil]; first | apply Fit.all | ((repeat (first | (apply Fit.nilN; (repeat (first | apply nrm_nil | apply nrm_cons)); try apply nrm_rfl) | (apply Fit.cons; focus ((repeat (first | apply Tk.here | apply Tk.there)); first | done | fail)))); first | done | fail))
  rintro ⟨x, o, hs⟩ ⟨hx, ho1, hh⟩
  dsimp only at hx ho1 hh ⊢
  by_cases hxt : x < tot.toNat
  rotate_left
  · obtain rfl : x = tot.toNat := by omega
    rw [← hcs] at hh ⊢
    repeat' first|(refine wo ?_; first|(refine ao ?_; first|refine aw ?_|refine oa ?_)|refine oa ?_|refine ld ?_)|(refine gc ?_; first|(refine ci (fun hB => ?_) (fun hB => ?_) <;> try (exfalso; omega)))|refine sq ?_|refine rg ?_|refine xc ?_|refine nl ?_|refine xe ?_|refine xb ?_
    exact lp ⟨c + 1, o, hs⟩ ⟨hlt, ho1, hh⟩
  have hD := degreeW_tr tot c x cv ov cut oth hc ho hE (by omega) (by omega)
  have hin := alPick_in hE (c := c) (l := x) (by omega)
  have hlen := fm_len (fun x : Nat => lvlL tot cut oth kn c x) x
  have hsu := fm_succ (fun x : Nat => lvlL tot cut oth kn c x) x
  have hle2 := fm_le (fun x : Nat => lvlL tot cut oth kn c x) (show x + 1 ≤ tot.toNat from hxt)
  obtain ⟨d, hd⟩ : ∃ d : Nat, alPick tot cut oth c x + 1 = d := ⟨(alPick tot cut oth c x + 1).toNat, by omega⟩
  have hlv : lvlL tot cut oth kn c x = endsL d kn [(c : Int), (x : Int)] := by unfold lvlL; rw [hd]; rfl
  rw [hd] at hD
  rw [List.length_append] at hh
  have ih := fun v => REnds_tr d kn [(c : Int), (x : Int)] v (by omega) (by simp; omega) (by rw [← hlv]; omega)
  rw [← hlv] at ih
  clear hE hlv hd hz
  repeat' first|(refine gca ?_; first|(refine ca hD ?_; rintro _ _ ⟨rfl, rfl⟩)|(refine ca (ih v1) ?_; rintro u _ ⟨hs2, hu, hh2, rfl⟩; refine TO.fact (owl_ones (e := TLI) (g := I) (hs := hs2) hh2 (by (repeat (first | apply List.Mem.head | apply List.Mem.tail)); first | done | fail)) fun ho2 => ?_))|refine lda ?_|refine slii [(c : Int), (x : Int)] fun v1 => ?_|(refine ap (xs := hs) (news := hs2) (fun o5 => ?_) (h1 := ho2) (hby := by omega) (h63 := by omega); refine TO.one (v := o5) (xs := hs ++ hs2) fun ho5 => ?_)|(refine wo ?_; first|(refine ao ?_; first|refine aw ?_|refine oa ?_)|refine oa ?_|refine ld ?_)|(refine gc ?_; first|(refine ci (fun hB => ?_) (fun hB => ?_) <;> try (exfalso; omega)))|refine sq ?_|refine rg ?_|refine xc ?_|refine nl ?_|refine sk ?_|refine bk ?_|refine xb ?_
  refine TX.im (owl_join (hs := hs) (hs2 := hs2) (by rw [List.length_append]; exact hh) (by first | apply Fit.all | ((repeat (first | (apply Fit.nilN; (repeat (first | apply nrm_nil | apply nrm_cons)); try apply nrm_rfl) | (apply Fit.cons; focus ((repeat (first | apply Tk.here | apply Tk.there)); first | done | fail)))); first | done | fail))) ?_
  rw [List.append_assoc, ← hsu]
  exact lp ⟨x + 1, o5, hs ++ hs2⟩ ⟨hxt, ho5, by dsimp only; rw [List.length_append, List.length_append, hlen, hh, hh2]; omega⟩
end Go.Art
set_option linter.unusedSimpArgs false
set_option linter.unusedVariables false
namespace Go.Art
open Go Go.Proofs Go.RowKit
abbrev Fr3 := Bool × List Nat × List Nat
abbrev rqf (q : Rat) : Fr3 := (decide (q.num < 0), dg q.num.natAbs, dg q.den)
abbrev rqn : Fr3 := (false, [], [])
abbrev FW (t : Fr3 × Int) (u : Value) (D : List Ch) : Prop := ∃ vn vd, u = tup2 (.agg #[.bool t.1.1, vn, vd]) (I t.2) ∧ vn.oneCell' = true ∧ vd.oneCell' = true ∧ D = [own T64 vn (Us t.1.2.1), own T64 vd (Us t.1.2.2)]
theorem FW.of0 {e : Int} {u : Value} {D : List Ch} (h : u = tup2 rv0 (I e) ∧ D = [own T64 nS (Us []), own T64 nS (Us [])]) : FW (rqn, e) u D := ⟨nS, nS, h.1, rfl, rfl, h.2⟩
def meaW (tot : Int) (cut oth : List Int) (k d : Int) : Fr3 × Int :=
  if rwE tot cut oth k = 0 then (if d < 1 ∨ cut.length < d then (rqn, 3) else (rqf (mkRat 1 (fall k.toNat d.toNat * cut.length * tot.toNat)), 0)) else (rqn, rwE tot cut oth k)
def chaW (t : List Int) (k d : Int) : Fr3 × Int :=
  if solE t k = 0 then (if d < 1 ∨ t.length < d then (rqn, 3) else (rqf (mkRat (t.getD (d - 1).toNat 0) (chs k.toNat d.toNat * t.sum.toNat)), 0)) else (rqn, 13)
section
variable {P : Program} {E : Env P} {X : Cx} {fr : Fr} {A D G : List Ch}
theorem rcc {w0 : World} {A0 : List Ch} {R' : Value → List Ch → Prop} {fn : Func} {t nn : Nat} {ty T : TypeId} {dt : TypeDesc} {b : Nat} {cs : List Value} {v : Value} (h : R' v D) (hr : fn.results = #[.cell t ty] := by rfl) (ht : lk E.und ty = some dt := by rfl) (hg : aggB dt = false := by rfl)
    (hv : get fr t = some (ptr b) := by rfl) (hm : pt b cs T ∈ A := by (repeat (first | apply List.Mem.head | apply List.Mem.tail)); first | done | fail) (hc : cs[0]? = some v := by rfl) (hf : Fit A D G := by first | apply Fit.all | ((repeat (first | (apply Fit.nilN; (repeat (first | apply nrm_nil | apply nrm_cons)); try apply nrm_rfl) | (apply Fit.cons; focus ((repeat (first | apply Tk.here | apply Tk.there)); first | done | fail)))); first | done | fail)) (nb : ∀ c ∈ D, ∀ b, ¬ c.bd b := by (repeat (first | exact nb0 | refine nb1 ?_)); first | done | fail) :
    TX E ⟨nn, [], none⟩ ⟨bodyPost P fn (RetP (PR w0 A0 R')), w0, A0⟩ [] .ret fr A := ⟨fun w hw => ⟨fun a ha =>
  bodyPost_ret (res_c (E := E) ha hr ht hg hv (ptcell hw.sat hm hc)) (ha.defers.trans rfl) ⟨_, rfl, PR.mk h hw hf nb⟩⟩⟩
end
attribute [local irreducible] Fit pt own ro vw mpc lpt vels rels mow lrc dfr
attribute [local irreducible] lmp lme mit velg relg
theorem soAdd_tr (c : Nat) (m w : Int) (h : -9223372036854775808 ≤ m + w ∧ m + w ≤ 9223372036854775807) : Tr Tryz.prog 91 [I w, ptr c] [] [pt c [I m] TLI] fun _ D => D = [pt c [I (m + w)] TLI] := by
  refine Tr.enter env _ Tryz.func91 (by kernel_rfl) rfl Tryz.ntmps91 rfl (by repeat (first | exact has00 | refine has01 ?_)) fun w0 => ?_
  repeat' first|(refine wo ?_; first|(refine ao ?_; first|refine aw ?_)|refine oa ?_|refine ld ?_|refine sr ?_)|refine rg ?_|refine nl ?_
  exact e0 rfl
theorem SoTotal_tr (s : Value) (t : List Int) (h1 : 1 ≤ t.length ∧ t.length ≤ 65536) (hw : ∀ w ∈ t, 0 ≤ w ∧ w ≤ 16777215) : Tr Tryz.prog 54 [s] [vw s (Is t)] [] fun v D => v = I t.sum ∧ D = [] := by
  refine Tr.enter env _ Tryz.func54 (by kernel_rfl) rfl Tryz.ntmps54 rfl (by repeat (first | exact has00 | refine has01 ?_)) fun w0 => ?_
  repeat' first|refine al fun c => ?_|(refine wo ?_; first|refine oa ?_|refine lnm ?_)|refine sq ?_|refine rg ?_|refine xc ?_|refine nl ?_|refine bk ?_
  refine TC.loop (ι := Nat) (fun i => [(9, I i)]) (fun i => [pt c [I (t.take i).sum] TLI]) (fun i => i ≤ t.length) (fun i => t.length - i) 0 [2, 3, 7, 8] (by simp) ?_
  rintro i h2
  by_cases hi : i < t.length
  · have hs := take_sum hi
    have hb := hw _ (mem_getD.2 ⟨i, hi, rfl⟩)
    have hc := sum_bound (t := t.take i) fun w h => hw w (List.mem_of_mem_take h)
    rw [List.length_take] at hc
    generalize hy : t.getD i 0 = y at *
    generalize (t.take i).sum = m at *
    repeat' first|refine lie hy ?_|(refine cav (cap := #[ptr c]) (vs := [I y]) (soAdd_tr c m y (by omega)) ?_; rintro _ _ rfl)|(refine wo ?_; first|(refine ao ?_; first|refine aw ?_|refine oa ?_)|refine oa ?_|refine ixmn ?_)|(refine gc ?_; first|(refine ci (fun hB => ?_) (fun hB => ?_) <;> try (exfalso; omega)))|refine sq ?_|refine rg ?_|refine xc ?_|refine nl ?_|refine sk ?_|refine bk ?_|refine xb ?_
    exact lp (i + 1) (by omega) (hf := by rw [hs]; first | apply Fit.all | ((repeat (first | (apply Fit.nilN; (repeat (first | apply nrm_nil | apply nrm_cons)); try apply nrm_rfl) | (apply Fit.cons; focus ((repeat (first | apply Tk.here | apply Tk.there)); first | done | fail)))); first | done | fail))
  · obtain rfl : i = t.length := by omega
    rw [List.take_length]
    repeat' first|(refine wo ?_; first|(refine ao ?_; first|refine oa ?_)|refine ld ?_|refine sr ?_)|(refine gc ?_; first|(refine ci (fun hB => ?_) (fun hB => ?_) <;> try (exfalso; omega)))|refine sq ?_|refine rg ?_|refine xc ?_|refine nl ?_|refine xe ?_|refine rt ?_
    exact rcc (cs := [I t.sum]) (T := TLI) ⟨rfl, rfl⟩
theorem over1_tr (v : Value) (l : List Nat) (hd : Dg l) (hl : l.length ≤ 68719476736) (h0 : nv l ≠ 0) : Tr Tryz.prog 44 [v] [vw v (Us l)] [] (FQ (mkRat 1 (nv l))) := by
  have hO := IOf_tr 1 (by decide)
  have hd1 : (dz ((1 : Nat) : Int)).length ≤ 1 := dg_len1 (by decide)
  have hM := fun o => FMake_tr ((1 : Nat) : Int) o v l hd (by omega) hl h0
  unfold IR at hO
  rw [show (((1 : Nat) : Int)).natAbs = 1 from rfl] at hO
  unfold dz at hM
  simp only [show (((1 : Nat) : Int)).natAbs = 1 from rfl] at hM
  unfold FQ2 at hM
  simp only [show ((1 : Nat) : Int) = 1 from rfl] at hM hO
  obtain ⟨q, hq⟩ : ∃ q, q = mkRat 1 (nv l) := ⟨_, rfl⟩
  simp only [← hq] at hM ⊢
  refine Tr.enter env _ Tryz.func44 (by kernel_rfl) rfl Tryz.ntmps44 rfl (by repeat (first | exact has00 | refine has01 ?_)) fun w0 => ?_
  repeat' first|(refine gca ?_; first|(refine ca hO ?_; rintro _ _ ⟨o, rfl, ho, rfl⟩)|(refine ca (hM o) ?_; rintro _ _ ⟨vn, vd, rfl, hvn, hvd, rfl⟩))|refine al fun c => ?_|refine lda ?_|refine srz ?_|(refine wo ?_; first|refine oa ?_)|refine sq ?_|refine rg ?_|refine xc ?_|refine nl ?_|refine rt ?_
  exact rca1 (cs := [.bool (decide (q.num < 0)), vn, vd]) (vs := [.bool (decide (q.num < 0)), vn, vd]) (T := TRt) ⟨vn, vd, rfl, hvn, hvd, rfl⟩
end Go.Art
