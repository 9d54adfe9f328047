/- Texts put together: Ak Mk Gs Qv Qw Zg Zh. Conditions: none. -/
import Derived.Test.YtbdmhamjhkibgaaGreatZCe
set_option linter.unusedSimpArgs false
set_option linter.unusedVariables false
namespace Go.Art
open Go

def Rep (h S : List Int) : Prop := Heap h ∧ h.Perm S ∧ S.Pairwise (· ≤ ·)
structure AlS where
  rest : List Int
  cut : List Int
  oth : List Int
  B : List Int
  A : List Int
def alStep (all : Int) (u : AlS) (i j : Int) (B A : List Int) : AlS :=
  let ri := u.rest.getD i.toNat 0
  let r := u.rest.getD j.toNat 0 - (all - ri)
  ⟨u.rest.set j.toNat r, u.cut.set i.toNat ri, u.oth.set i.toNat j, if r > all then B else if r < all then srt (j :: B) else B, if r > all then j :: A else A⟩
def alRun (all : Int) : Nat → AlS → AlS
  | 0, u => u
  | f + 1, u => match u.B, u.A with
    | i :: B, j :: A => alRun all f (alStep all u i j B A)
    | _, _ => u
def alIn (t : List Int) (all : Int) : Nat → AlS
  | 0 => ⟨List.replicate t.length 0, List.replicate t.length 0, List.replicate t.length 0, [], []⟩
  | i + 1 => let u := alIn t all i
    let r := t.getD i 0 * t.length
    ⟨u.rest.set i r, u.cut.set i all, u.oth.set i i, if r < all then srt ((i : Int) :: u.B) else u.B, if r < all then u.A else if r > all then srt ((i : Int) :: u.A) else u.A⟩
structure AlI (t : List Int) (all : Int) (u : AlS) : Prop where
  lr : u.rest.length = t.length
  lc : u.cut.length = t.length
  lo : u.oth.length = t.length
  nd : (u.B ++ u.A).Nodup
  B : ∀ i ∈ u.B, (0 ≤ i ∧ i < t.length) ∧ 0 ≤ u.rest.getD i.toNat 0 ∧ u.rest.getD i.toNat 0 < all
  A : ∀ j ∈ u.A, (0 ≤ j ∧ j < t.length) ∧ all < u.rest.getD j.toNat 0 ∧ u.rest.getD j.toNat 0 ≤ 1099511627776 ∧ 0 < t.getD j.toNat 0
  sum : (u.B.map fun i => all - u.rest.getD i.toNat 0).sum = (u.A.map fun j => u.rest.getD j.toNat 0 - all).sum
  cut : ∀ c : Nat, c < t.length → 0 ≤ u.cut.getD c 0 ∧ u.cut.getD c 0 ≤ all
  oth : ∀ c : Nat, c < t.length → (0 ≤ u.oth.getD c 0 ∧ u.oth.getD c 0 < t.length) ∧ (u.cut.getD c 0 = all ∨ 0 < t.getD (u.oth.getD c 0).toNat 0)
  zero : ∀ c : Nat, c < t.length → ¬ 0 < t.getD c 0 → u.rest.getD c 0 = 0 ∧ ((c : Int) ∈ u.B ∨ u.cut.getD c 0 = 0)
structure AlJ (t : List Int) (all : Int) (n : Nat) (u : AlS) : Prop where
  lr : u.rest.length = t.length
  lc : u.cut.length = t.length
  lo : u.oth.length = t.length
  nd : (u.B ++ u.A).Nodup
  B : ∀ i ∈ u.B, (0 ≤ i ∧ i < n) ∧ 0 ≤ u.rest.getD i.toNat 0 ∧ u.rest.getD i.toNat 0 < all
  A : ∀ j ∈ u.A, (0 ≤ j ∧ j < n) ∧ all < u.rest.getD j.toNat 0 ∧ u.rest.getD j.toNat 0 ≤ 1099511627776 ∧ 0 < t.getD j.toNat 0
  sum : (u.B.map fun i => all - u.rest.getD i.toNat 0).sum - (u.A.map fun j => u.rest.getD j.toNat 0 - all).sum = n * all - t.length * (t.take n).sum
  cut : ∀ c : Nat, c < n → u.cut.getD c 0 = all
  oth : ∀ c : Nat, c < n → u.oth.getD c 0 = c
  zero : ∀ c : Nat, c < n → ¬ 0 < t.getD c 0 → u.rest.getD c 0 = 0 ∧ (c : Int) ∈ u.B
def alMu (u : AlS) : Nat := u.B.length + 2 * u.A.length
def alEnd (all : Int) (u : AlS) : AlS := alRun all (alMu u) u
def alF (t : List Int) : AlS := alEnd t.sum (alIn t t.sum t.length)
end Go.Art
set_option linter.unusedSimpArgs false
set_option linter.unusedVariables false
namespace Go.Art
open Go Go.Proofs Go.RowKit
attribute [local irreducible] Fit pt own ro vw mpc lpt vels rels mow lrc dfr
attribute [local irreducible] lmp lme mit velg relg

structure MkG where
  i : Nat
  hb : List Int
  ha : List Int
  bv : Value
  av : Value
structure MkH where
  u : AlS
  hb : List Int
  ha : List Int
  bv : Value
  av : Value
end Go.Art
set_option linter.unusedSimpArgs false
set_option linter.unusedVariables false
namespace Go.Art
open Go Go.Proofs Go.RowKit
def ins (x : Int) (l : List Int) (k : Nat) : List Int := l.take k ++ x :: l.drop k
attribute [local irreducible] Fit pt own ro vw mpc lpt vels rels mow lrc dfr
attribute [local irreducible] lmp lme mit velg relg
structure RoG where
  i : Nat
  l : List Int
  st : BitVec 64
structure RiG where
  i : Nat
  o : Value
  ds : List Int
end Go.Art
set_option linter.unusedSimpArgs false
set_option linter.unusedVariables false
namespace Go.Art
open Go Go.Proofs Go.RowKit
abbrev w0u : Value := .int .u64 0
def rloC (b : Nat) (sv : Value) (x : Lw) (used : Int) : List Ch :=
  match x with
  | .inl st => rloP b st used
  | .inr (l, br) => [pt b [sv, .bool false, w0u, I used, .bool br] TRl, own TLI sv (Is l)]
abbrev rlot (b : Nat) (sv : Value) (x : Lw) (used : Int) : Ch := bnd (rloC b sv x used)
theorem rloC_nb (b : Nat) (sv : Value) (x : Lw) (used : Int) : ∀ c ∈ rloC b sv x used, ∀ b, ¬ c.bd b := by
  cases x with
  | inl st => unfold rloC; (repeat (first | exact nb0 | refine nb1 ?_))
  | inr p => unfold rloC; (repeat (first | exact nb0 | refine nb1 ?_))
instance (b : Nat) (sv : Value) (x : Lw) (used : Int) : NoB (rlot b sv x used) := ⟨fun b h => by obtain ⟨c, hc, h1⟩ := h; exact rloC_nb _ _ _ _ c hc b h1⟩
structure RwG where
  i : Nat
  l : List Int
  outs : List Int
  sv : Value
  x : Lw
attribute [local irreducible] Fit pt own ro vw mpc lpt vels rels mow lrc dfr
attribute [local irreducible] lmp lme mit velg relg
end Go.Art
set_option linter.unusedSimpArgs false
set_option linter.unusedVariables false
namespace Go.Art
open Go Go.Proofs Go.RowKit
def colBad (tot : Int) (cut oth : List Int) (i : Nat) : Prop := cut.getD i 0 < 0 ∨ tot < cut.getD i 0 ∨ oth.getD i 0 < 0 ∨ (cut.length : Int) ≤ oth.getD i 0
def alFst (tot : Int) (cut oth : List Int) : Prop := (1 ≤ tot ∧ tot ≤ 1099511627776) ∧ (1 ≤ cut.length ∧ cut.length ≤ 65536) ∧ oth.length = cut.length
theorem alE_bad {tot : Int} {cut oth : List Int} (h : alFst tot cut oth) {i : Nat} (hi : i < cut.length) (hb : colBad tot cut oth i) : alE tot cut oth = 6 := by
  unfold alE
  unfold alFst at h
  rw [if_neg (by omega), if_pos]
  have a1 : cut.getD i 0 ∈ cut := mem_getD.2 ⟨i, hi, rfl⟩
  have a2 : oth.getD i 0 ∈ oth := mem_getD.2 ⟨i, by omega, rfl⟩
  unfold colBad at hb
  rw [Bool.or_eq_true]
  by_cases h1 : cut.getD i 0 < 0 ∨ tot < cut.getD i 0
  · exact .inl (List.any_eq_true.2 ⟨_, a1, decide_eq_true (by omega)⟩)
  · exact .inr (List.any_eq_true.2 ⟨_, a2, decide_eq_true (by omega)⟩)
theorem alE_fine {tot : Int} {cut oth : List Int} (h : alFst tot cut oth) (hb : ∀ i, i < cut.length → ¬ colBad tot cut oth i) : alE tot cut oth = 0 := by
  unfold alE
  unfold alFst at h
  rw [if_neg (by omega), if_neg]
  rw [Bool.or_eq_true]
  rintro (h1 | h1)
  · obtain ⟨y, hy, h2⟩ := List.any_eq_true.1 h1
    obtain ⟨i, hi, rfl⟩ := mem_getD.1 hy
    have h3 := of_decide_eq_true h2
    exact hb i hi (by unfold colBad; omega)
  · obtain ⟨y, hy, h2⟩ := List.any_eq_true.1 h1
    obtain ⟨i, hi, rfl⟩ := mem_getD.1 hy
    have h3 := of_decide_eq_true h2
    exact hb i (by omega) (by unfold colBad; omega)
theorem alE_not {tot : Int} {cut oth : List Int} (h : ¬ alFst tot cut oth) : alE tot cut oth = 6 := by
  unfold alE
  unfold alFst at h
  rw [if_pos (by omega)]
attribute [local irreducible] Fit pt own ro vw mpc lpt vels rels mow lrc dfr
attribute [local irreducible] lmp lme mit velg relg
theorem RAlE_tr (tot : Int) (cv ov : Value) (cut oth : List Int) (hc : cv.oneCell' = true) (ho : ov.oneCell' = true) : Tr Tryz.prog 73 [.agg #[I tot, cv, ov]] [vw cv (Is cut), vw ov (Is oth)] [] fun v D => v = I (alE tot cut oth) ∧ D = [] := by
  by_cases hf : alFst tot cut oth
  rotate_left
  · rw [alE_not hf]
    unfold alFst at hf
    refine Tr.enter env _ Tryz.func73 (by kernel_rfl) rfl Tryz.ntmps73 rfl (by repeat (first | exact has00 | refine has01 ?_)) fun w0 => ?_
    refine TC.leni (v := cv) (l := cut) fun hcl => ?_
    refine TC.leni (v := ov) (l := oth) fun hol => ?_
    repeat' first|refine bx fun b => ?_|(refine wo ?_; first|(refine ao ?_; first|refine oa ?_)|refine oa ?_|refine ld ?_|refine lnm ?_|refine gy ?_|refine gn ?_|(refine gsi (fun hB => ?_) (fun hB => ?_) <;> try (exfalso; omega)))|(refine gc ?_; first|refine ct ?_|(refine cn (fun hB => ?_) (fun hB => ?_) <;> try (exfalso; omega)))|refine sq ?_|refine rg ?_|refine xc ?_|refine nl ?_|refine rt ?_
    all_goals exact r1 ⟨rfl, rfl⟩
  have hbad := fun i hi hb => alE_bad (i := i) hf hi hb
  have hfine := alE_fine hf
  generalize alE tot cut oth = e at *
  unfold alFst at hf
  refine Tr.enter env _ Tryz.func73 (by kernel_rfl) rfl Tryz.ntmps73 rfl (by repeat (first | exact has00 | refine has01 ?_)) fun w0 => ?_
  repeat' first|refine bx fun b => ?_|(refine wo ?_; first|(refine ao ?_; first|refine oa ?_)|refine oa ?_|refine ld ?_|refine lnm ?_|refine gy ?_|(refine gsi (fun hB => ?_) (fun hB => ?_) <;> try (exfalso; omega)))|(refine gc ?_; first|(refine cn (fun hB => ?_) (fun hB => ?_) <;> try (exfalso; omega)))|refine sq ?_|refine rg ?_|refine xc ?_|refine nl ?_|refine sk ?_|refine bk ?_
  refine TC.loop (ι := Nat) (fun i => [(4, I i)]) (fun _ => []) (fun i => i ≤ cut.length ∧ ∀ j, j < i → ¬ colBad tot cut oth j) (fun i => cut.length - i) 0 [1, 3] ⟨Nat.zero_le _, fun j h => absurd h (Nat.not_lt_zero j)⟩ ?_
  rintro i ⟨hi, hok⟩
  by_cases hlt : i < cut.length
  · have hb1 := hbad i hlt
    have hnx : ¬ colBad tot cut oth i → ∀ j, j < i + 1 → ¬ colBad tot cut oth j := fun h j hj => by
      by_cases e : j = i
      · rw [e]; exact h
      · exact hok j (by omega)
    unfold colBad at hb1 hnx
    clear hbad hfine hok
    generalize hx : cut.getD i 0 = x at *
    generalize hy : oth.getD i 0 = y at *
    by_cases hb : x < 0 ∨ tot < x ∨ y < 0 ∨ (cut.length : Int) ≤ y
    · have e6 := hb1 hb
      subst e6
      clear hb1 hnx
      repeat' first|refine qlie hx ?_|refine qlie hy ?_|(refine wo ?_; first|(refine ao ?_; first|refine oa ?_)|refine oa ?_)|(refine gc ?_; first|refine ct ?_|(refine ci (fun hB => ?_) (fun hB => ?_) <;> try (exfalso; omega)))|refine sq ?_|refine rg ?_|refine xc ?_|refine nl ?_|refine sk ?_|refine bk ?_|refine rt ?_|refine rq ?_|refine nq ?_|(refine wq ?_; first|(refine qao ?_; first|refine qa ?_)|refine qa ?_|refine qld ?_|refine qixmn ?_|refine qgy ?_|refine qgn ?_|(refine qgsi (fun hB => ?_) (fun hB => ?_) <;> try (exfalso; omega)))
      all_goals exact r1 ⟨rfl, rfl⟩
    · have hn := hnx hb
      clear hb1 hnx
      repeat' first|refine qlie hx ?_|refine qlie hy ?_|(refine wo ?_; first|(refine ao ?_; first|refine aw ?_|refine oa ?_)|refine oa ?_)|(refine gc ?_; first|(refine ci (fun hB => ?_) (fun hB => ?_) <;> try (exfalso; omega)))|refine sq ?_|refine rg ?_|refine xc ?_|refine nl ?_|refine sk ?_|refine bk ?_|refine xb ?_|refine rq ?_|refine nq ?_|(refine wq ?_; first|(refine qao ?_; first|refine qa ?_)|refine qa ?_|refine qld ?_|refine qixmn ?_|refine qgy ?_|(refine qgsi (fun hB => ?_) (fun hB => ?_) <;> try (exfalso; omega)))
      exact lp (i + 1) ⟨hlt, by unfold colBad; exact hn⟩
  · obtain rfl : i = cut.length := by omega
    have e0 := hfine hok
    subst e0
    repeat' first|(refine wo ?_; first|(refine ao ?_; first|refine oa ?_)|refine oa ?_)|(refine gc ?_; first|(refine ci (fun hB => ?_) (fun hB => ?_) <;> try (exfalso; omega)))|refine sq ?_|refine rg ?_|refine xc ?_|refine nl ?_|refine xe ?_|refine rt ?_
    exact r1 ⟨rfl, rfl⟩
theorem RRwE_tr (tot k : Int) (cv ov : Value) (cut oth : List Int) (hc : cv.oneCell' = true) (ho : ov.oneCell' = true) : Tr Tryz.prog 30 [.agg #[I tot, cv, ov], I k] [vw cv (Is cut), vw ov (Is oth)] [] fun v D => v = I (rwE tot cut oth k) ∧ D = [] := by
  have hA := RAlE_tr tot cv ov cut oth hc ho
  unfold rwE
  rcases alE_or tot cut oth with hE | hE
  · rw [hE] at hA
    rw [if_pos hE]
    refine Tr.enter env _ Tryz.func30 (by kernel_rfl) rfl Tryz.ntmps30 rfl (by repeat (first | exact has00 | refine has01 ?_)) fun w0 => ?_
    repeat' first|(refine gca ?_; first|(refine ca hA ?_; rintro _ _ ⟨rfl, rfl⟩))|refine bx fun b => ?_|refine lda ?_|(refine wo ?_; first|(refine ao ?_; first|refine oa ?_)|refine oa ?_|refine ld ?_|refine lnm ?_|refine gy ?_|refine gn ?_|(refine gsi (fun hB => ?_) (fun hB => ?_) <;> try (exfalso; omega)))|(refine gc ?_; first|refine ct ?_|refine cf ?_|(refine ci (fun hB => ?_) (fun hB => ?_) <;> try (exfalso; omega)))|refine sq ?_|refine rg ?_|refine xc ?_|refine nl ?_|refine sk ?_|refine rt ?_
    · exact r1 ⟨by rw [if_pos (by omega)], rfl⟩
    · exact r1 ⟨by rw [if_pos (by omega)], rfl⟩
    · exact r1 ⟨by rw [if_pos (by omega)], rfl⟩
    · exact r1 ⟨by rw [if_neg (by omega)], rfl⟩
  · rw [hE] at hA
    rw [if_neg (by omega)]
    refine Tr.enter env _ Tryz.func30 (by kernel_rfl) rfl Tryz.ntmps30 rfl (by repeat (first | exact has00 | refine has01 ?_)) fun w0 => ?_
    repeat' first|(refine gca ?_; first|(refine ca hA ?_; rintro _ _ ⟨rfl, rfl⟩))|refine bx fun b => ?_|refine lda ?_|(refine wo ?_; first|(refine ao ?_; first|refine oa ?_)|refine oa ?_)|(refine gc ?_; first|refine ct ?_)|refine sq ?_|refine rg ?_|refine xc ?_|refine nl ?_|refine rt ?_
    exact r1 ⟨rfl, rfl⟩
end Go.Art
set_option linter.unusedSimpArgs false
set_option linter.unusedVariables false
namespace Go.Art
open Go Go.Proofs Go.RowKit
attribute [local irreducible] Fit pt own ro vw mpc lpt vels rels mow lrc dfr
attribute [local irreducible] lmp lme mit velg relg
theorem RMeaW_tr (tot k d : Int) (cv ov : Value) (cut oth : List Int) (hc : cv.oneCell' = true) (ho : ov.oneCell' = true) : Tr Tryz.prog 15 [.agg #[I tot, cv, ov], I k, I d] [vw cv (Is cut), vw ov (Is oth)] []
    (FW (meaW tot cut oth k d)) := by
  have hck := RRwE_tr tot k cv ov cut oth hc ho
  by_cases hk : rwE tot cut oth k = 0
  rotate_left
  · unfold meaW
    rw [if_neg hk]
    generalize rwE tot cut oth k = e at *
    refine Tr.mono (R := fun u D => u = tup2 rv0 (I e) ∧ D = [own T64 nS (Us []), own T64 nS (Us [])]) ?_ fun u D h => FW.of0 h
    refine Tr.enter env _ Tryz.func15 (by kernel_rfl) rfl Tryz.ntmps15 rfl (by repeat (first | exact has00 | refine has01 ?_)) fun w0 => ?_
    repeat' first|(refine gca ?_; first|(refine ca hck ?_; rintro _ _ ⟨rfl, rfl⟩))|refine bx fun b => ?_|refine al fun b2 => ?_|refine lda ?_|refine bdm ?_|refine srz ?_|(refine wo ?_; first|(refine ao ?_; first|refine oa ?_)|refine oa ?_)|(refine gc ?_; first|(refine cn (fun hB => ?_) (fun hB => ?_) <;> try (exfalso; omega)))|refine sq ?_|refine rg ?_|refine xc ?_|refine nl ?_|refine rt ?_
    refine TX.im (own_nil T64 _) (TX.im (own_nil T64 _) ?_)
    exact rca (cs := [.bool false, nS, nS]) (vs := [.bool false, nS, nS]) (T := TRt) ⟨rfl, rfl⟩
  rw [hk] at hck
  obtain ⟨hE, k1, k2, k3⟩ := rwE_ok hk
  have hb := alE_bnd hE
  by_cases hd : d < 1 ∨ cut.length < d
  · unfold meaW
    rw [if_pos hk, if_pos hd]
    clear hk hE
    refine Tr.mono (R := fun u D => u = tup2 rv0 (I 3) ∧ D = [own T64 nS (Us []), own T64 nS (Us [])]) ?_ fun u D h => FW.of0 h
    refine Tr.enter env _ Tryz.func15 (by kernel_rfl) rfl Tryz.ntmps15 rfl (by repeat (first | exact has00 | refine has01 ?_)) fun w0 => ?_
    repeat' first|(refine gca ?_; first|(refine ca hck ?_; rintro _ _ ⟨rfl, rfl⟩))|refine bx fun b => ?_|refine al fun b2 => ?_|refine lda ?_|refine bdm ?_|refine srz ?_|(refine wo ?_; first|(refine ao ?_; first|refine oa ?_)|refine oa ?_|refine ld ?_|refine lnm ?_|refine gy ?_|refine gn ?_|(refine gsi (fun hB => ?_) (fun hB => ?_) <;> try (exfalso; omega)))|(refine gc ?_; first|refine ct ?_|refine cf ?_|(refine ci (fun hB => ?_) (fun hB => ?_) <;> try (exfalso; omega)))|refine sq ?_|refine rg ?_|refine xc ?_|refine nl ?_|refine sk ?_|refine rt ?_
    all_goals
      refine TX.im (own_nil T64 _) (TX.im (own_nil T64 _) ?_)
      exact rca (cs := [.bool false, nS, nS]) (vs := [.bool false, nS, nS]) (T := TRt) ⟨rfl, rfl⟩
  rw [meaW_ok hk hd]
  obtain ⟨kn, rfl⟩ : ∃ kn : Nat, k = kn := ⟨k.toNat, by omega⟩
  obtain ⟨dn, rfl⟩ : ∃ dn : Nat, d = dn := ⟨d.toNat, by omega⟩
  obtain ⟨tn, rfl⟩ : ∃ tn : Nat, tot = tn := ⟨tot.toNat, by omega⟩
  simp only [Int.toNat_natCast]
  rw [Nat.mul_right_comm]
  have hF := RFalling_tr kn dn (by omega) (by omega)
  have hfl := fall_len (n := kn) (by omega) dn
  have hfp := fall_pos (n := kn) (k := dn) (by omega)
  obtain ⟨f0, hf0⟩ : ∃ f0, f0 = fall kn dn := ⟨_, rfl⟩
  rw [← hf0] at hF hfl hfp ⊢
  have hG1 := fun v => RGrow_tr v (dg f0) tn (Dg_dg _) (by omega) (by omega)
  have hl2 := dg_grow_len (x := tn) hfl (by omega)
  have hG2 := fun v => RGrow_tr v (dg (f0 * tn)) cut.length (Dg_dg _) (by omega) (by omega)
  have hl3 := dg_grow_len (x := cut.length) hl2 (by omega)
  have hp3 : f0 * tn * cut.length ≠ 0 := Nat.mul_ne_zero (Nat.mul_ne_zero hfp (by omega)) (by omega)
  have hO := fun v => Rone_tr v (dg (f0 * tn * cut.length)) (Dg_dg _) (by omega) (by rw [nv_dg]; exact hp3)
  simp only [nv_dg] at hG1 hG2 hO
  clear hk hE hf0 hfp hp3 hl2 hl3
  obtain ⟨f1, hf1⟩ : ∃ f1, f1 = f0 * tn := ⟨_, rfl⟩
  simp only [← hf1] at hG1 hG2 hO ⊢
  obtain ⟨f2, hf2⟩ : ∃ f2, f2 = f1 * cut.length := ⟨_, rfl⟩
  simp only [← hf2] at hG2 hO ⊢
  obtain ⟨q, hq⟩ : ∃ q, q = mkRat 1 f2 := ⟨_, rfl⟩
  simp only [← hq] at hO ⊢
  clear hq hf1 hf2
  unfold FQ at hO
  refine Tr.enter env _ Tryz.func15 (by kernel_rfl) rfl Tryz.ntmps15 rfl (by repeat (first | exact has00 | refine has01 ?_)) fun w0 => ?_
  repeat' first|(refine gca ?_; first|(refine ca hck ?_; rintro _ _ ⟨rfl, rfl⟩)|(refine ca hF ?_; rintro _ _ ⟨o, rfl, ho2, rfl⟩))|refine bx fun b => ?_|refine al fun b2 => ?_|refine lda ?_|(refine wo ?_; first|(refine ao ?_; first|refine oa ?_)|refine oa ?_|refine ld ?_|refine lnm ?_|refine gy ?_|(refine gsi (fun hB => ?_) (fun hB => ?_) <;> try (exfalso; omega)))|(refine gc ?_; first|refine cf ?_|(refine ci (fun hB => ?_) (fun hB => ?_) <;> try (exfalso; omega)))|refine sq ?_|refine rg ?_|refine xc ?_|refine nl ?_|refine sk ?_
  refine rs (fun w => w.heap[b]? = some (.cells [I tn, cv, ov].toArray TAl (0, 0)) ∧ Sl w cv (Is cut)) ?_ (fun w hw => ⟨pt_at (b := b) (cs := [I tn, cv, ov]) (T := TAl) (by (repeat (first | apply List.Mem.head | apply List.Mem.tail)); first | done | fail) hw, vw_sl (hw.h (vw cv (Is cut)) (by (repeat (first | apply List.Mem.head | apply List.Mem.tail)); first | done | fail))⟩)
  refine tka 0 ?_
  refine tka 1 ?_
  refine tkl 2 (cs := [I tn, cv, ov]) (fun w h => h.1) ?_
  refine tk 3 (v := Un tn) (fun w h => R_ntuk (E := env) (m := tn) rfl rfl rfl (by omega)) ?_
  refine tka 5 ?_
  refine tkl 6 (cs := [I tn, cv, ov]) (fun w h => h.1) ?_
  refine tke 7 (v := I cut.length) (by rw [Is_len]) (fun w h => R_len (E := env) (xs := Is cut) rfl rfl h.2) ?_
  refine tk 8 (v := Un cut.length) (fun w h => R_ntuk (E := env) (m := cut.length) rfl rfl rfl (by omega)) ?_
  refine t1 4 ?_
  refine ca (hG1 o) ?_
  rintro u1 _ ⟨hu1, rfl⟩
  refine nl ?_
  refine te (fun w hw => ⟨pt_at (b := b) (cs := [I tn, cv, ov]) (T := TAl) (by (repeat (first | apply List.Mem.head | apply List.Mem.tail)); first | done | fail) hw, vw_sl (hw.h (vw cv (Is cut)) (by (repeat (first | apply List.Mem.head | apply List.Mem.tail)); first | done | fail))⟩) ?_
  refine t1 9 ?_
  refine ca (hG2 u1) ?_
  rintro u2 _ ⟨hu2, rfl⟩
  refine nl ?_
  refine te (fun w hw => ⟨pt_at (b := b) (cs := [I tn, cv, ov]) (T := TAl) (by (repeat (first | apply List.Mem.head | apply List.Mem.tail)); first | done | fail) hw, vw_sl (hw.h (vw cv (Is cut)) (by (repeat (first | apply List.Mem.head | apply List.Mem.tail)); first | done | fail))⟩) ?_
  refine t1 10 ?_
  refine ca (hO u2) ?_
  rintro _ _ ⟨vn, vd, rfl, hvn, hvd, rfl⟩
  refine nl ?_
  refine te (fun w hw => ⟨pt_at (b := b) (cs := [I tn, cv, ov]) (T := TAl) (by (repeat (first | apply List.Mem.head | apply List.Mem.tail)); first | done | fail) hw, vw_sl (hw.h (vw cv (Is cut)) (by (repeat (first | apply List.Mem.head | apply List.Mem.tail)); first | done | fail))⟩) ?_
  refine t1 11 ?_
  refine srz ?_
  refine nl ?_
  refine te (fun w hw => ⟨pt_at (b := b) (cs := [I tn, cv, ov]) (T := TAl) (by (repeat (first | apply List.Mem.head | apply List.Mem.tail)); first | done | fail) hw, vw_sl (hw.h (vw cv (Is cut)) (by (repeat (first | apply List.Mem.head | apply List.Mem.tail)); first | done | fail))⟩) ?_
  refine tka 12 ?_
  refine t0 ?_
  repeat' first|refine xc ?_|refine rt ?_
  exact rca (cs := [.bool (decide (q.num < 0)), vn, vd]) (vs := [.bool (decide (q.num < 0)), vn, vd]) (T := TRt) ⟨vn, vd, rfl, hvn, hvd, rfl⟩
end Go.Art
set_option linter.unusedSimpArgs false
set_option linter.unusedVariables false
namespace Go.Art
open Go Go.Proofs Go.RowKit
abbrev wU (n : Int) : Value := .int .u64 n
def Zs (l : List Nat) : List Int := l.map Int.ofNat
theorem Us_eq (l : List Nat) : Us l = (Zs l).map wU := by unfold Zs; rw [List.map_map]; rfl
def pasc (n : Nat) : List (List Int) := (List.range (n + 1)).map fun j => Zs (dg (chs n j))
theorem pasc_len (n : Nat) : (pasc n).length = n + 1 := by simp [pasc]
theorem pasc_get (n j : Nat) (h : j ≤ n) : (pasc n).getD j [] = Zs (dg (chs n j)) := by
  simp [pasc, List.getD_eq_getElem?_getD, List.getElem?_range (show j < n + 1 by omega)]
theorem pasc_take (n i : Nat) (h : i ≤ n) : (pasc n).take (i + 1) = (pasc n).take i ++ [Zs (dg (chs n i))] := by
  rw [take_succ' (by rw [pasc_len]; omega) [], pasc_get n i h]
abbrev TNN : TypeId := 127
theorem owl_takeF {e : TypeId} {g : Int → Value} {hs : List Value} {ls : List (List Int)} {A F : List Ch} (hl : hs.length = ls.length) {i : Nat} (h : i < ls.length) (hf : Fit A [owl e g hs ls] F) : Im A (own e (hs.getD i nS) ((ls.getD i []).map g) :: bnd ((owls e g hs ls).eraseIdx i) :: F) := Im.trans hf (owl_take hl h F)
structure NxG where
  i : Nat
  o : Value
  hs : List Value
attribute [local irreducible] Fit pt own ro vw mpc lpt vels rels mow lrc dfr
attribute [local irreducible] lmp lme mit velg relg bnd owl
theorem Rnext_tr (v : Value) (hs : List Value) (n : Nat) (hn : n ≤ 65536) : Tr Tryz.prog 128 [v] [vw v hs, velg wU hs (pasc n)] [] fun u D => ∃ hs', u.oneCell' = true ∧ hs'.length = n + 2 ∧ D = [own TN u hs', owl T64 wU hs' (pasc (n + 1))] := by
  have hpl := pasc_len n
  have hO := ROf_tr 1 (by decide)
  have e1 : dg 1 = dg (chs (n + 1) 0) := by rw [chs_zero]
  rw [e1, Us_eq] at hO
  refine Tr.enter env _ Tryz.func128 (by kernel_rfl) rfl Tryz.ntmps128 rfl (by repeat (first | exact has00 | refine has01 ?_)) fun w0 => ?_
  refine TC.elg (g := wU) (hs := hs) (ls := pasc n) (fun hll => ?_)
  repeat' first|(refine gca ?_; first|(refine ca hO ?_; rintro o1 _ ⟨ho1, rfl⟩))|(refine sli (vs := [o1]) (fun q1 => ?_) (h1 := one_cons ho1 one_nil); refine TO.one (v := q1) (xs := [o1]) fun hq1 => ?_)|(refine wo ?_; first|refine oa ?_)|refine sq ?_|refine rg ?_|refine xc ?_|refine nl ?_|refine bk ?_
  refine TC.im (owl_nil (e := T64) (g := wU) _) ?_
  refine TC.im (owl_push (hs := []) (ls := []) (v := o1) (l := Zs (dg (chs (n + 1) 0))) rfl (by first | apply Fit.all | ((repeat (first | (apply Fit.nilN; (repeat (first | apply nrm_nil | apply nrm_cons)); try apply nrm_rfl) | (apply Fit.cons; focus ((repeat (first | apply Tk.here | apply Tk.there)); first | done | fail)))); first | done | fail))) ?_
  refine TC.loop (ι := NxG) (fun g => [(4, I g.i), (3, g.o)]) (fun g => [own TN g.o g.hs, owl T64 wU g.hs ((pasc (n + 1)).take g.i)]) (fun g => (1 ≤ g.i ∧ g.i ≤ n + 1) ∧ g.hs.length = g.i ∧ g.o.oneCell' = true) (fun g => n + 1 - g.i) ⟨1, q1, [o1]⟩ [0] ⟨⟨Nat.le_refl _, by dsimp only; omega⟩, rfl, hq1⟩ ?_ (hf := by dsimp only; rw [show (pasc (n + 1)).take 1 = [] ++ [Zs (dg (chs (n + 1) 0))] from pasc_take (n + 1) 0 (Nat.zero_le _)]; first | apply Fit.all | ((repeat (first | (apply Fit.nilN; (repeat (first | apply nrm_nil | apply nrm_cons)); try apply nrm_rfl) | (apply Fit.cons; focus ((repeat (first | apply Tk.here | apply Tk.there)); first | done | fail)))); first | done | fail))
  rintro ⟨i, o, hs2⟩ ⟨⟨hi1, hi2⟩, h2, ho⟩
  dsimp only at hi1 hi2 h2 ho ⊢
  by_cases hlt : i < n + 1
  · have hH : ∀ (F : List Ch) (j : Nat), j ≤ n → Has F (velg wU hs (pasc n)) → Has F (vw (hs.getD j nS) (Us (dg (chs n j)))) := fun F j hj h => by
      have := has_elg h (i := j) (by omega)
      rwa [pasc_get n j hj, ← Us_eq] at this
    have hk : ((i : Int) - 1).toNat = i - 1 := by omega
    have hA := RAdd_tr (hs.getD ((i : Int) - 1).toNat nS) (hs.getD i nS) (dg (chs n (i - 1))) (dg (chs n i)) (Dg_dg _) (Dg_dg _) (by have := chs_len n (i - 1); omega) (by have := chs_len n i; omega)
    have hsum : chs n (i - 1) + chs n i = chs (n + 1) i := by
      obtain ⟨k, rfl⟩ : ∃ k, i = k + 1 := ⟨i - 1, by omega⟩
      rfl
    rw [nv_dg, nv_dg, hsum, Us_eq (dg (chs (n + 1) i))] at hA
    have hpt := pasc_take (n + 1) i (by omega)
    have hll2 : ((pasc (n + 1)).take i).length = i := by rw [List.length_take, pasc_len]; omega
    have hg1 : hs[((i : Int) - 1).toNat]? = some (hs.getD ((i : Int) - 1).toNat nS) := by rw [List.getD_eq_getElem?_getD, List.getElem?_eq_getElem (by omega)]; rfl
    have hg2 : hs[i]? = some (hs.getD i nS) := by rw [List.getD_eq_getElem?_getD, List.getElem?_eq_getElem (by omega)]; rfl
    repeat' first|(refine wo ?_; first|(refine ao ?_; first|refine oa ?_)|refine oa ?_|refine ln ?_)|(refine gc ?_; first|(refine ci (fun hB => ?_) (fun hB => ?_) <;> try (exfalso; omega)))|refine sq ?_|refine rg ?_|refine xc ?_|refine nl ?_|refine sk ?_|refine bk ?_
    refine rs (fun w => Sl w v hs) ?_ (fun w hw => has_sl (xs := hs) hw (by first | (apply has_vw; (repeat (first | apply List.Mem.head | apply List.Mem.tail)); first | done | fail) | (apply has_own; (repeat (first | apply List.Mem.head | apply List.Mem.tail)); first | done | fail) | (apply has_ro; (repeat (first | apply List.Mem.head | apply List.Mem.tail)); first | done | fail) | apply has_nil | ((with_reducible apply has_el); (focus (first | (apply has_vels; (repeat (first | apply List.Mem.head | apply List.Mem.tail)); first | done | fail) | (apply has_rels; (repeat (first | apply List.Mem.head | apply List.Mem.tail)); first | done | fail))); omega) | (apply has_pt; (repeat (first | apply List.Mem.head | apply List.Mem.tail)); first | done | fail) | (apply has_lpt; (repeat (first | apply List.Mem.head | apply List.Mem.tail)); first | done | fail) | (apply has_vels; (repeat (first | apply List.Mem.head | apply List.Mem.tail)); first | done | fail) | (apply has_rels; (repeat (first | apply List.Mem.head | apply List.Mem.tail)); first | done | fail) | with_reducible assumption | ((with_reducible apply has_elg); (focus (first | (apply has_velg; (repeat (first | apply List.Mem.head | apply List.Mem.tail)); first | done | fail) | (apply has_relg; (repeat (first | apply List.Mem.head | apply List.Mem.tail)); first | done | fail))); omega) | (apply has_velg; (repeat (first | apply List.Mem.head | apply List.Mem.tail)); first | done | fail) | (apply has_relg; (repeat (first | apply List.Mem.head | apply List.Mem.tail)); first | done | fail) | (apply has_vwf; (repeat (first | apply List.Mem.head | apply List.Mem.tail)); first | done | fail)))
    refine tka 0 ?_
    refine tka 1 ?_
    refine tka 2 ?_
    refine tkw 3 ((i : Int) - 1) ?_
    refine tk 4 (v := .pointer (some (addrAt v ((i : Int) - 1).toNat))) (fun w h => R_idx (E := env) (i := (i : Int) - 1) rfl rfl rfl rfl h ⟨by omega, by omega⟩) ?_
    refine tk 5 (v := hs.getD ((i : Int) - 1).toNat nS) (fun w h => R_load (E := env) rfl rfl rfl (h.cell hg1)) ?_
    refine tka 6 ?_
    refine tka 7 ?_
    refine tk 8 (v := .pointer (some (addrAt v i))) (fun w h => R_idx (E := env) (i := (i : Int)) rfl rfl rfl rfl h ⟨by omega, by omega⟩) ?_
    refine tk 9 (v := hs.getD i nS) (fun w h => R_load (E := env) rfl rfl rfl (h.cell hg2)) ?_
    refine t1 10 ?_
    refine ca hA ?_ (hp := has1 (by rw [hk]; exact hH _ _ (by omega) (by first | (apply has_vw; (repeat (first | apply List.Mem.head | apply List.Mem.tail)); first | done | fail) | (apply has_own; (repeat (first | apply List.Mem.head | apply List.Mem.tail)); first | done | fail) | (apply has_ro; (repeat (first | apply List.Mem.head | apply List.Mem.tail)); first | done | fail) | apply has_nil | ((with_reducible apply has_el); (focus (first | (apply has_vels; (repeat (first | apply List.Mem.head | apply List.Mem.tail)); first | done | fail) | (apply has_rels; (repeat (first | apply List.Mem.head | apply List.Mem.tail)); first | done | fail))); omega) | (apply has_pt; (repeat (first | apply List.Mem.head | apply List.Mem.tail)); first | done | fail) | (apply has_lpt; (repeat (first | apply List.Mem.head | apply List.Mem.tail)); first | done | fail) | (apply has_vels; (repeat (first | apply List.Mem.head | apply List.Mem.tail)); first | done | fail) | (apply has_rels; (repeat (first | apply List.Mem.head | apply List.Mem.tail)); first | done | fail) | with_reducible assumption | ((with_reducible apply has_elg); (focus (first | (apply has_velg; (repeat (first | apply List.Mem.head | apply List.Mem.tail)); first | done | fail) | (apply has_relg; (repeat (first | apply List.Mem.head | apply List.Mem.tail)); first | done | fail))); omega) | (apply has_velg; (repeat (first | apply List.Mem.head | apply List.Mem.tail)); first | done | fail) | (apply has_relg; (repeat (first | apply List.Mem.head | apply List.Mem.tail)); first | done | fail) | (apply has_vwf; (repeat (first | apply List.Mem.head | apply List.Mem.tail)); first | done | fail))) (has1 (hH _ _ (by omega) (by first | (apply has_vw; (repeat (first | apply List.Mem.head | apply List.Mem.tail)); first | done | fail) | (apply has_own; (repeat (first | apply List.Mem.head | apply List.Mem.tail)); first | done | fail) | (apply has_ro; (repeat (first | apply List.Mem.head | apply List.Mem.tail)); first | done | fail) | apply has_nil | ((with_reducible apply has_el); (focus (first | (apply has_vels; (repeat (first | apply List.Mem.head | apply List.Mem.tail)); first | done | fail) | (apply has_rels; (repeat (first | apply List.Mem.head | apply List.Mem.tail)); first | done | fail))); omega) | (apply has_pt; (repeat (first | apply List.Mem.head | apply List.Mem.tail)); first | done | fail) | (apply has_lpt; (repeat (first | apply List.Mem.head | apply List.Mem.tail)); first | done | fail) | (apply has_vels; (repeat (first | apply List.Mem.head | apply List.Mem.tail)); first | done | fail) | (apply has_rels; (repeat (first | apply List.Mem.head | apply List.Mem.tail)); first | done | fail) | with_reducible assumption | ((with_reducible apply has_elg); (focus (first | (apply has_velg; (repeat (first | apply List.Mem.head | apply List.Mem.tail)); first | done | fail) | (apply has_relg; (repeat (first | apply List.Mem.head | apply List.Mem.tail)); first | done | fail))); omega) | (apply has_velg; (repeat (first | apply List.Mem.head | apply List.Mem.tail)); first | done | fail) | (apply has_relg; (repeat (first | apply List.Mem.head | apply List.Mem.tail)); first | done | fail) | (apply has_vwf; (repeat (first | apply List.Mem.head | apply List.Mem.tail)); first | done | fail))) has0))
    rintro av _ ⟨hav, rfl⟩
    refine nl ?_
    refine te (fun w hw => has_sl (xs := hs) hw (by first | (apply has_vw; (repeat (first | apply List.Mem.head | apply List.Mem.tail)); first | done | fail) | (apply has_own; (repeat (first | apply List.Mem.head | apply List.Mem.tail)); first | done | fail) | (apply has_ro; (repeat (first | apply List.Mem.head | apply List.Mem.tail)); first | done | fail) | apply has_nil | ((with_reducible apply has_el); (focus (first | (apply has_vels; (repeat (first | apply List.Mem.head | apply List.Mem.tail)); first | done | fail) | (apply has_rels; (repeat (first | apply List.Mem.head | apply List.Mem.tail)); first | done | fail))); omega) | (apply has_pt; (repeat (first | apply List.Mem.head | apply List.Mem.tail)); first | done | fail) | (apply has_lpt; (repeat (first | apply List.Mem.head | apply List.Mem.tail)); first | done | fail) | (apply has_vels; (repeat (first | apply List.Mem.head | apply List.Mem.tail)); first | done | fail) | (apply has_rels; (repeat (first | apply List.Mem.head | apply List.Mem.tail)); first | done | fail) | with_reducible assumption | ((with_reducible apply has_elg); (focus (first | (apply has_velg; (repeat (first | apply List.Mem.head | apply List.Mem.tail)); first | done | fail) | (apply has_relg; (repeat (first | apply List.Mem.head | apply List.Mem.tail)); first | done | fail))); omega) | (apply has_velg; (repeat (first | apply List.Mem.head | apply List.Mem.tail)); first | done | fail) | (apply has_relg; (repeat (first | apply List.Mem.head | apply List.Mem.tail)); first | done | fail) | (apply has_vwf; (repeat (first | apply List.Mem.head | apply List.Mem.tail)); first | done | fail))) ?_
    refine t1 11 ?_
    refine sli (vs := [av]) (fun q2 => ?_) (h1 := one_cons hav one_nil)
    refine nl ?_
    refine te (fun w hw => has_sl (xs := hs) hw (by first | (apply has_vw; (repeat (first | apply List.Mem.head | apply List.Mem.tail)); first | done | fail) | (apply has_own; (repeat (first | apply List.Mem.head | apply List.Mem.tail)); first | done | fail) | (apply has_ro; (repeat (first | apply List.Mem.head | apply List.Mem.tail)); first | done | fail) | apply has_nil | ((with_reducible apply has_el); (focus (first | (apply has_vels; (repeat (first | apply List.Mem.head | apply List.Mem.tail)); first | done | fail) | (apply has_rels; (repeat (first | apply List.Mem.head | apply List.Mem.tail)); first | done | fail))); omega) | (apply has_pt; (repeat (first | apply List.Mem.head | apply List.Mem.tail)); first | done | fail) | (apply has_lpt; (repeat (first | apply List.Mem.head | apply List.Mem.tail)); first | done | fail) | (apply has_vels; (repeat (first | apply List.Mem.head | apply List.Mem.tail)); first | done | fail) | (apply has_rels; (repeat (first | apply List.Mem.head | apply List.Mem.tail)); first | done | fail) | with_reducible assumption | ((with_reducible apply has_elg); (focus (first | (apply has_velg; (repeat (first | apply List.Mem.head | apply List.Mem.tail)); first | done | fail) | (apply has_relg; (repeat (first | apply List.Mem.head | apply List.Mem.tail)); first | done | fail))); omega) | (apply has_velg; (repeat (first | apply List.Mem.head | apply List.Mem.tail)); first | done | fail) | (apply has_relg; (repeat (first | apply List.Mem.head | apply List.Mem.tail)); first | done | fail) | (apply has_vwf; (repeat (first | apply List.Mem.head | apply List.Mem.tail)); first | done | fail))) ?_
    refine t1 12 ?_
    refine ap (xs := hs2) (news := [av]) (fun o2 => ?_) (h1 := one_cons hav one_nil)
    refine TO.one (v := o2) (xs := hs2 ++ [av]) fun ho2 => ?_
    refine nl ?_
    refine te (fun w hw => has_sl (xs := hs) hw (by first | (apply has_vw; (repeat (first | apply List.Mem.head | apply List.Mem.tail)); first | done | fail) | (apply has_own; (repeat (first | apply List.Mem.head | apply List.Mem.tail)); first | done | fail) | (apply has_ro; (repeat (first | apply List.Mem.head | apply List.Mem.tail)); first | done | fail) | apply has_nil | ((with_reducible apply has_el); (focus (first | (apply has_vels; (repeat (first | apply List.Mem.head | apply List.Mem.tail)); first | done | fail) | (apply has_rels; (repeat (first | apply List.Mem.head | apply List.Mem.tail)); first | done | fail))); omega) | (apply has_pt; (repeat (first | apply List.Mem.head | apply List.Mem.tail)); first | done | fail) | (apply has_lpt; (repeat (first | apply List.Mem.head | apply List.Mem.tail)); first | done | fail) | (apply has_vels; (repeat (first | apply List.Mem.head | apply List.Mem.tail)); first | done | fail) | (apply has_rels; (repeat (first | apply List.Mem.head | apply List.Mem.tail)); first | done | fail) | with_reducible assumption | ((with_reducible apply has_elg); (focus (first | (apply has_velg; (repeat (first | apply List.Mem.head | apply List.Mem.tail)); first | done | fail) | (apply has_relg; (repeat (first | apply List.Mem.head | apply List.Mem.tail)); first | done | fail))); omega) | (apply has_velg; (repeat (first | apply List.Mem.head | apply List.Mem.tail)); first | done | fail) | (apply has_relg; (repeat (first | apply List.Mem.head | apply List.Mem.tail)); first | done | fail) | (apply has_vwf; (repeat (first | apply List.Mem.head | apply List.Mem.tail)); first | done | fail))) ?_
    refine tka 13 ?_
    refine t0 ?_
    refine TX.im (owl_push (l := Zs (dg (chs (n + 1) i))) (by rw [h2, hll2]) (by first | apply Fit.all | ((repeat (first | (apply Fit.nilN; (repeat (first | apply nrm_nil | apply nrm_cons)); try apply nrm_rfl) | (apply Fit.cons; focus ((repeat (first | apply Tk.here | apply Tk.there)); first | done | fail)))); first | done | fail))) ?_
    repeat' first|(refine wo ?_; first|(refine ao ?_; first|refine aw ?_)|refine oa ?_)|refine rg ?_|refine xc ?_|refine nl ?_|refine xb ?_
    exact lp ⟨i + 1, o2, hs2 ++ [av]⟩ ⟨⟨by dsimp only; omega, hlt⟩, by simp [h2], ho2⟩ (hf := by dsimp only; rw [hpt]; first | apply Fit.all | ((repeat (first | (apply Fit.nilN; (repeat (first | apply nrm_nil | apply nrm_cons)); try apply nrm_rfl) | (apply Fit.cons; focus ((repeat (first | apply Tk.here | apply Tk.there)); first | done | fail)))); first | done | fail))
  · obtain rfl : i = n + 1 := by omega
    have hpt := pasc_take (n + 1) (n + 1) (Nat.le_refl _)
    have hpa : (pasc (n + 1)).take (n + 1 + 1) = pasc (n + 1) := List.take_of_length_le (by rw [pasc_len]; omega)
    have hO2 := ROf_tr 1 (by decide)
    have e2 : dg 1 = dg (chs (n + 1) (n + 1)) := by rw [chs_self]
    rw [e2, Us_eq] at hO2
    have hll2 : ((pasc (n + 1)).take (n + 1)).length = n + 1 := by rw [List.length_take, pasc_len]; omega
    repeat' first|(refine gca ?_; first|(refine ca hO2 ?_; rintro o3 _ ⟨ho3, rfl⟩))|(refine sli (vs := [o3]) (fun q3 => ?_) (h1 := one_cons ho3 one_nil))|(refine ap (xs := hs2) (news := [o3]) (fun o4 => ?_) (h1 := one_cons ho3 one_nil); refine TO.one (v := o4) (xs := hs2 ++ [o3]) fun ho4 => ?_)|(refine wo ?_; first|(refine ao ?_; first|refine oa ?_)|refine oa ?_|refine ln ?_)|(refine gc ?_; first|(refine ci (fun hB => ?_) (fun hB => ?_) <;> try (exfalso; omega)))|refine sq ?_|refine rg ?_|refine xc ?_|refine nl ?_|refine xe ?_|refine rt ?_
    refine TX.im (owl_push (l := Zs (dg (chs (n + 1) (n + 1)))) (by rw [h2, hll2]) (by first | apply Fit.all | ((repeat (first | (apply Fit.nilN; (repeat (first | apply nrm_nil | apply nrm_cons)); try apply nrm_rfl) | (apply Fit.cons; focus ((repeat (first | apply Tk.here | apply Tk.there)); first | done | fail)))); first | done | fail))) ?_
    rw [← hpt, hpa]
    exact r1 ⟨hs2 ++ [o3], ho4, by simp [h2], rfl⟩
theorem Rrow_tr (n : Nat) (hn : n ≤ 65536) : Tr Tryz.prog 92 [I n] [] [] fun u D => ∃ hs, u.oneCell' = true ∧ hs.length = n + 1 ∧ D = [own TN u hs, owl T64 wU hs (pasc n)] := by
  have hO := ROf_tr 1 (by decide)
  have e1 : dg 1 = dg (chs 0 0) := rfl
  rw [e1, Us_eq] at hO
  refine Tr.enter env _ Tryz.func92 (by kernel_rfl) rfl Tryz.ntmps92 rfl (by repeat (first | exact has00 | refine has01 ?_)) fun w0 => ?_
  repeat' first|(refine gca ?_; first|(refine ca hO ?_; rintro o1 _ ⟨ho1, rfl⟩))|(refine sli (vs := [o1]) (fun q1 => ?_) (h1 := one_cons ho1 one_nil); refine TO.one (v := q1) (xs := [o1]) fun hq1 => ?_)|(refine wo ?_; first|refine oa ?_)|refine sq ?_|refine rg ?_|refine xc ?_|refine nl ?_|refine bk ?_
  refine TC.im (owl_nil (e := T64) (g := wU) _) ?_
  refine TC.im (owl_push (hs := []) (ls := []) (v := o1) (l := Zs (dg (chs 0 0))) rfl (by first | apply Fit.all | ((repeat (first | (apply Fit.nilN; (repeat (first | apply nrm_nil | apply nrm_cons)); try apply nrm_rfl) | (apply Fit.cons; focus ((repeat (first | apply Tk.here | apply Tk.there)); first | done | fail)))); first | done | fail))) ?_
  refine TC.loop (ι := NxG) (fun g => [(4, I g.i), (3, g.o)]) (fun g => [own TN g.o g.hs, owl T64 wU g.hs (pasc g.i)]) (fun g => g.i ≤ n ∧ g.hs.length = g.i + 1 ∧ g.o.oneCell' = true) (fun g => n - g.i) ⟨0, q1, [o1]⟩ [0] ⟨Nat.zero_le _, rfl, hq1⟩ ?_ (hf := by dsimp only; rw [show pasc 0 = [] ++ [Zs (dg (chs 0 0))] from rfl]; first | apply Fit.all | ((repeat (first | (apply Fit.nilN; (repeat (first | apply nrm_nil | apply nrm_cons)); try apply nrm_rfl) | (apply Fit.cons; focus ((repeat (first | apply Tk.here | apply Tk.there)); first | done | fail)))); first | done | fail))
  rintro ⟨i, o, hs2⟩ ⟨hi, h2, ho⟩
  dsimp only at hi h2 ho ⊢
  by_cases hlt : i < n
  · repeat' first|(refine gca ?_; first|(refine ca (Rnext_tr o hs2 i (by omega)) ?_ (hp := has1 (by first | (apply has_vw; (repeat (first | apply List.Mem.head | apply List.Mem.tail)); first | done | fail) | (apply has_own; (repeat (first | apply List.Mem.head | apply List.Mem.tail)); first | done | fail) | (apply has_ro; (repeat (first | apply List.Mem.head | apply List.Mem.tail)); first | done | fail) | apply has_nil | ((with_reducible apply has_el); (focus (first | (apply has_vels; (repeat (first | apply List.Mem.head | apply List.Mem.tail)); first | done | fail) | (apply has_rels; (repeat (first | apply List.Mem.head | apply List.Mem.tail)); first | done | fail))); omega) | (apply has_pt; (repeat (first | apply List.Mem.head | apply List.Mem.tail)); first | done | fail) | (apply has_lpt; (repeat (first | apply List.Mem.head | apply List.Mem.tail)); first | done | fail) | (apply has_vels; (repeat (first | apply List.Mem.head | apply List.Mem.tail)); first | done | fail) | (apply has_rels; (repeat (first | apply List.Mem.head | apply List.Mem.tail)); first | done | fail) | with_reducible assumption | ((with_reducible apply has_elg); (focus (first | (apply has_velg; (repeat (first | apply List.Mem.head | apply List.Mem.tail)); first | done | fail) | (apply has_relg; (repeat (first | apply List.Mem.head | apply List.Mem.tail)); first | done | fail))); omega) | (apply has_velg; (repeat (first | apply List.Mem.head | apply List.Mem.tail)); first | done | fail) | (apply has_relg; (repeat (first | apply List.Mem.head | apply List.Mem.tail)); first | done | fail) | (apply has_vwf; (repeat (first | apply List.Mem.head | apply List.Mem.tail)); first | done | fail)) (has1 (has_owl (by rw [h2, pasc_len]) (by (repeat (first | apply List.Mem.head | apply List.Mem.tail)); first | done | fail)) has0)); rintro o2 _ ⟨hs3, ho2, hl3, rfl⟩))|(refine wo ?_; first|(refine ao ?_; first|refine aw ?_|refine oa ?_)|refine oa ?_)|(refine gc ?_; first|(refine ci (fun hB => ?_) (fun hB => ?_) <;> try (exfalso; omega)))|refine sq ?_|refine rg ?_|refine xc ?_|refine nl ?_|refine sk ?_|refine bk ?_|refine xb ?_
    exact lp ⟨i + 1, o2, hs3⟩ ⟨hlt, hl3, ho2⟩
  · obtain rfl : i = n := by omega
    repeat' first|(refine wo ?_; first|(refine ao ?_; first|refine oa ?_)|refine oa ?_)|(refine gc ?_; first|(refine ci (fun hB => ?_) (fun hB => ?_) <;> try (exfalso; omega)))|refine sq ?_|refine rg ?_|refine xc ?_|refine nl ?_|refine xe ?_|refine rt ?_
    exact r1 ⟨hs2, ho, h2, rfl⟩
theorem RChoose_tr (n k : Nat) (hn : n ≤ 65536) (hk : k ≤ n) : Tr Tryz.prog 56 [I n, I k] [] [] fun u D => eNat u D (chs n k) 0 := by
  have hpl := pasc_len n
  refine Tr.enter env _ Tryz.func56 (by kernel_rfl) rfl Tryz.ntmps56 rfl (by repeat (first | exact has00 | refine has01 ?_)) fun w0 => ?_
  repeat' first|(refine gca ?_; first|(refine ca (Rrow_tr n hn) ?_; rintro o _ ⟨hs, ho, hl, rfl⟩; have hg : hs[k]? = some (hs.getD k nS) := (by rw [List.getD_eq_getElem?_getD, List.getElem?_eq_getElem (by omega)]; rfl)))|refine le (xs := hs) ?_ (hj := hg)|(refine wo ?_; first|(refine ao ?_; first|refine oa ?_)|refine oa ?_|refine ixn ?_|refine gy ?_)|(refine gc ?_; first|(refine ci (fun hB => ?_) (fun hB => ?_) <;> try (exfalso; omega)))|refine sq ?_|refine rg ?_|refine xc ?_|refine nl ?_|refine sk ?_|refine bk ?_|refine rt ?_|refine xb ?_
  refine TX.im (owl_takeF (e := T64) (g := wU) (hs := hs) (ls := pasc n) (by rw [hl, hpl]) (i := k) (by omega) (by first | apply Fit.all | ((repeat (first | (apply Fit.nilN; (repeat (first | apply nrm_nil | apply nrm_cons)); try apply nrm_rfl) | (apply Fit.cons; focus ((repeat (first | apply Tk.here | apply Tk.there)); first | done | fail)))); first | done | fail))) ?_
  rw [pasc_get n k hk, ← Us_eq]
  refine TX.one (v := hs.getD k nS) (xs := Us (dg (chs n k))) fun ho2 => ?_
  exact r2 ⟨hs.getD k nS, rfl, ho2, rfl⟩
end Go.Art
