/- Texts put together: Nv Qa Qb Qc Qp Qq KSame Qr Qs Ac Oi Oj Rd Qt Qu. Conditions: none. -/
import Derived.Test.YtbdmhamjhkibgaaZAd
set_option linter.unusedSimpArgs false
set_option linter.unusedVariables false
namespace Go.Art
open Go Go.Proofs Go.RowKit
abbrev iv (z : Int) (o : Value) : Value := .agg #[.bool (decide (z < 0)), o]
abbrev dz (z : Int) : List Nat := dg z.natAbs
theorem ifc {α : Type} {p q : Prop} [Decidable p] [Decidable q] (h : p ↔ q) (a b : α) : (if p then a else b) = if q then a else b := by
  by_cases hp : p
  · rw [if_pos hp, if_pos (h.1 hp)]
  · rw [if_neg hp, if_neg fun hq => hp (h.2 hq)]
theorem dg_len1 {n : Nat} (h : n < 18446744073709551616) : (dg n).length ≤ 1 := (dg_len n 1).2 (by simpa using h)
attribute [local irreducible] Fit pt own ro vw mpc lpt vels rels mow lrc dfr
theorem IOf_tr (x : Nat) (hx : x < 9223372036854775808) : Tr Try.prog 37 [I x] [] [] (IR (x : Int)) := by
  have h1 := dg_len1 (n := x) (by omega)
  have hM := fun o => IMake_tr false o (dg x) (Dg_dg x) (by omega)
  have hs : sg false x = (x : Int) := rfl
  simp only [nv_dg, hs] at hM
  unfold IR at hM ⊢
  refine Tr.enter env _ Try.func37 (by kernel_rfl) rfl Try.ntmps37 rfl (by repeat (first | exact has00 | refine has01 ?_)) fun w0 => ?_
  repeat' first|(refine gca ?_; first|(refine ca (Of_tr x (by omega)) ?_; rintro o _ ⟨ho, rfl⟩)|(refine ca (hM o) ?_; rintro _ _ ⟨o2, rfl, ho2, rfl⟩))|refine al fun c => ?_|refine srz ?_|(refine wo ?_; first|(refine ao ?_; first|refine oa ?_)|refine ntu ?_|refine oa ?_)|(refine gc ?_; first|refine cf ?_)|refine sq ?_|refine rg ?_|refine xc ?_|refine nl ?_|refine sk ?_|refine rt ?_
  exact rca1 (cs := [.bool (decide ((x : Int) < 0)), o2]) (vs := [.bool (decide ((x : Int) < 0)), o2]) (T := TIt) ⟨o2, rfl, ho2, rfl⟩
theorem ICheck_tr (b : Bool) (o : Value) (l : List Nat) : Tr Try.prog 40 [.agg #[.bool b, o]] [vw o (Us l)] [] fun u D => u = I (if (b = true ∧ l.length = 0) ∨ (0 < l.length ∧ l.getD (l.length - 1) 0 = 0) then 6 else 0) ∧ D = [] := by
  have hC := Check_tr o l
  obtain ⟨c, hc⟩ : ∃ c : Int, c = (if 0 < l.length ∧ l.getD (l.length - 1) 0 = 0 then 6 else 0) := ⟨_, rfl⟩
  rw [← hc] at hC
  refine Tr.enter env _ Try.func40 (by kernel_rfl) rfl Try.ntmps40 rfl (by repeat (first | exact has00 | refine has01 ?_)) fun w0 => ?_
  repeat' first|(refine gca ?_; first|(refine ca hC ?_; rintro _ _ ⟨rfl, rfl⟩))|refine bx fun q => ?_|refine lda ?_|(refine wo ?_; first|(refine ao ?_; first|refine oa ?_)|refine oa ?_|refine ld ?_|refine lnm ?_|refine gy ?_|refine gn ?_|(refine gs (fun hB => ?_) (fun hB => ?_) <;> try (exfalso; omega)))|(refine gc ?_; first|refine cf ?_|(refine ci (fun hB => ?_) (fun hB => ?_) <;> try (exfalso; omega)))|refine sq ?_|refine rg ?_|refine xc ?_|refine nl ?_|refine sk ?_|refine rt ?_
  · exact r1 ⟨by rw [if_pos (.inl ⟨by assumption, by omega⟩)], rfl⟩
  · exact r1 ⟨(congrArg I hc).trans (congrArg I (ifc ⟨.inr, fun h => h.resolve_left fun k => by omega⟩ _ _)), rfl⟩
  · exact r1 ⟨(congrArg I hc).trans (congrArg I (ifc ⟨.inr, fun h => h.resolve_left fun k => by rw [hB] at k; cases k.1⟩ _ _)), rfl⟩
theorem by_tr (va vb : Value) (a b : List Nat) (ha : Dg a) (hb : Dg b) (hla : a.length ≤ 549755813888) (hlb : b.length ≤ 549755813888) (hb0 : nv b ≠ 0) : Tr Try.prog 62 [va, vb] [vw va (Us a), vw vb (Us b)] [] fun u D => u.oneCell' = true ∧ D = [own T64 u (Us (dg (nv a / nv b)))] := by
  have hD := NDiv_tr va vb a b ha hb hla hlb hb0
  obtain ⟨m, hm⟩ : ∃ m, m = nv a / nv b := ⟨_, rfl⟩
  unfold DivR at hD
  simp only [← hm] at hD
  rw [← hm]
  refine Tr.enter env _ Try.func62 (by kernel_rfl) rfl Try.ntmps62 rfl (by repeat (first | exact has00 | refine has01 ?_)) fun w0 => ?_
  repeat' first|(refine gca ?_; first|(refine ca hD ?_; rintro _ _ ⟨qv, rv, rfl, hqv, hrv, rfl⟩))|(refine wo ?_; first|refine oa ?_)|refine sq ?_|refine rg ?_|refine xc ?_|refine nl ?_|refine rt ?_
  exact r1 ⟨hqv, rfl⟩
end Go.Art
set_option linter.unusedSimpArgs false
set_option linter.unusedVariables false
namespace Go.Art
open Go Go.Proofs Go.RowKit
abbrev TRt : TypeId := 41
abbrev rv (q : Rat) (vn vd : Value) : Value := .agg #[.bool (decide (q.num < 0)), vn, vd]
abbrev FQ (q : Rat) (u : Value) (D : List Ch) : Prop := ∃ vn vd, u = rv q vn vd ∧ vn.oneCell' = true ∧ vd.oneCell' = true ∧ D = [own T64 vn (Us (dg q.num.natAbs)), own T64 vd (Us (dg q.den))]
abbrev rv0 : Value := .agg #[.bool false, nS, nS]
theorem mk_num (z : Int) {m : Nat} (hm : m ≠ 0) : (mkRat z m).num = z / (Nat.gcd z.natAbs m : Nat) := by
  rw [Rat.mkRat_def, dif_neg hm, Rat.normalize_eq]
theorem mk_den (z : Int) {m : Nat} (hm : m ≠ 0) : (mkRat z m).den = m / Nat.gcd z.natAbs m := by
  rw [Rat.mkRat_def, dif_neg hm, Rat.normalize_eq]
theorem natAbs_div (z : Int) (g : Nat) (h : (g : Int) ∣ z) : (z / (g : Int)).natAbs = z.natAbs / g := by
  obtain ⟨c, rfl⟩ := h
  by_cases hg : g = 0
  · subst hg; simp
  · rw [Int.mul_ediv_cancel_left _ (by omega), Int.natAbs_mul, Int.natAbs_natCast, Nat.mul_div_cancel_left _ (by omega)]
theorem mk_abs (z : Int) {m : Nat} (hm : m ≠ 0) : (mkRat z m).num.natAbs = z.natAbs / Nat.gcd z.natAbs m := by
  rw [mk_num z hm, natAbs_div]
  exact Int.ofNat_dvd_left.2 (Nat.gcd_dvd_left _ _)
theorem mk_neg (z : Int) {m : Nat} (hm : m ≠ 0) : (mkRat z m).num < 0 ↔ z < 0 := by
  have hg : 0 < Nat.gcd z.natAbs m := Nat.gcd_pos_of_pos_right _ (by omega)
  rw [mk_num z hm]
  constructor
  · intro h
    rcases Int.lt_or_le z 0 with h1 | h1
    · exact h1
    · have := Int.ediv_nonneg h1 (Int.natCast_nonneg (Nat.gcd z.natAbs m)); omega
  · intro h; exact Int.ediv_neg_of_neg_of_pos h (by omega)
theorem sg_mk (b : Bool) (n : Nat) {m : Nat} (hm : m ≠ 0) : decide ((mkRat (sg b n) m).num < 0) = (b && decide (0 < n / Nat.gcd n m)) := by
  have hg : 0 < Nat.gcd n m := Nat.gcd_pos_of_pos_right _ (by omega)
  rw [decide_eq_decide.2 (mk_neg _ hm), sg_neg]
  congr 1
  refine decide_eq_decide.2 ⟨fun h => Nat.div_pos (Nat.le_of_dvd h (Nat.gcd_dvd_left _ _)) hg, fun h => ?_⟩
  rcases Nat.eq_zero_or_pos n with h0 | h0
  · subst h0; simp at h
  · exact h0
theorem dg_le {l : List Nat} (hd : Dg l) {n : Nat} (h : n ≤ nv l) : (dg n).length ≤ l.length := Nat.le_trans (dg_mono h) (dg_len_le hd)
attribute [local irreducible] Fit pt own ro vw mpc lpt vels rels mow lrc dfr
theorem lowest_tr (b : Bool) (o dv : Value) (l m : List Nat) (hl : Dg l) (hm : Dg m) (hll : l.length ≤ 68719476736) (hlm : m.length ≤ 68719476736) (hm0 : nv m ≠ 0) :
    Tr Try.prog 42 [.agg #[.bool b, o], dv] [vw o (Us l), vw dv (Us m)] [] (FQ (mkRat (sg b (nv l)) (nv m))) := by
  have e1 := mk_abs (sg b (nv l)) hm0
  have e2 := mk_den (sg b (nv l)) hm0
  have e3 := sg_mk b (nv l) hm0
  rw [sg_abs] at e1 e2
  have hg0 : Nat.gcd (nv l) (nv m) ≠ 0 := Nat.ne_of_gt (Nat.gcd_pos_of_pos_right _ (by omega))
  have hgl : (dg (Nat.gcd (nv l) (nv m))).length ≤ m.length := dg_le hm (Nat.gcd_le_right _ (by omega))
  have hB1 := fun g => by_tr o g l (dg (Nat.gcd (nv l) (nv m))) hl (Dg_dg _) (by omega) (by omega) (by rw [nv_dg]; exact hg0)
  have hB2 := fun g => by_tr dv g m (dg (Nat.gcd (nv l) (nv m))) hm (Dg_dg _) (by omega) (by omega) (by rw [nv_dg]; exact hg0)
  have hG := NGcd_tr o dv l m hl hm (by omega) (by omega)
  have hql : (dg (nv l / Nat.gcd (nv l) (nv m))).length ≤ l.length := dg_le hl (Nat.div_le_self _ _)
  have hM := fun u => IMake_tr b u (dg (nv l / Nat.gcd (nv l) (nv m))) (Dg_dg _) (by omega)
  simp only [nv_dg] at hB1 hB2 hM
  unfold IR at hM
  simp only [sg_abs, sg_neg] at hM
  simp only [← e3] at hM
  rw [← e2] at hB2
  rw [← e1] at hB1 hM
  obtain ⟨q, hq⟩ : ∃ q, q = mkRat (sg b (nv l)) (nv m) := ⟨_, rfl⟩
  obtain ⟨g, hgg⟩ : ∃ g, g = Nat.gcd (nv l) (nv m) := ⟨_, rfl⟩
  rw [← hq] at hB1 hB2 hM ⊢
  rw [← hgg] at hB1 hB2 hG
  clear e1 e2 e3 hg0 hgl hql hq hgg
  refine Tr.enter env _ Try.func42 (by kernel_rfl) rfl Try.ntmps42 rfl (by repeat (first | exact has00 | refine has01 ?_)) fun w0 => ?_
  repeat' first|(refine gca ?_; first|(refine ca hG ?_; rintro gv _ ⟨hgv, rfl⟩))|refine bx fun q1 => ?_|refine al fun c => ?_|(refine wo ?_; first|refine oa ?_|refine ld ?_)|refine sq ?_|refine rg ?_|refine xc ?_|refine nl ?_
  refine rs (fun w => w.heap[q1]? = some (.cells [.bool b, o].toArray TIt (0, 0))) ?_ (fun w hw => pt_at (b := q1) (cs := [.bool b, o]) (T := TIt) (by (repeat (first | apply List.Mem.head | apply List.Mem.tail)); first | done | fail) hw)
  refine tka 0 ?_
  refine tkl 1 (cs := [.bool b, o]) (fun w h => h) ?_
  refine tka 2 ?_
  refine tkl 3 (cs := [.bool b, o]) (fun w h => h) ?_
  refine tka 4 ?_
  refine tka 7 ?_
  refine tka 8 ?_
  refine t1 5 ?_
  refine ca (hB1 gv) ?_
  rintro u1 _ ⟨hu1, rfl⟩
  refine nl ?_
  refine te (fun w hw => pt_at (b := q1) (cs := [.bool b, o]) (T := TIt) (by (repeat (first | apply List.Mem.head | apply List.Mem.tail)); first | done | fail) hw) ?_
  refine t1 6 ?_
  refine ca (hM u1) ?_
  rintro _ _ ⟨u2, rfl, hu2, rfl⟩
  refine nl ?_
  refine te (fun w hw => pt_at (b := q1) (cs := [.bool b, o]) (T := TIt) (by (repeat (first | apply List.Mem.head | apply List.Mem.tail)); first | done | fail) hw) ?_
  refine t1 9 ?_
  refine ca (hB2 gv) ?_
  rintro u3 _ ⟨hu3, rfl⟩
  refine nl ?_
  refine te (fun w hw => pt_at (b := q1) (cs := [.bool b, o]) (T := TIt) (by (repeat (first | apply List.Mem.head | apply List.Mem.tail)); first | done | fail) hw) ?_
  refine t1 10 ?_
  refine bdm ?_
  refine nl ?_
  refine te (fun w hw => pt_at (b := q1) (cs := [.bool b, o]) (T := TIt) (by (repeat (first | apply List.Mem.head | apply List.Mem.tail)); first | done | fail) hw) ?_
  refine t1 11 ?_
  refine srz ?_
  refine nl ?_
  refine te (fun w hw => pt_at (b := q1) (cs := [.bool b, o]) (T := TIt) (by (repeat (first | apply List.Mem.head | apply List.Mem.tail)); first | done | fail) hw) ?_
  refine t0 ?_
  repeat' first|refine xc ?_|refine rt ?_
  exact rca1 (cs := [.bool (decide (q.num < 0)), u2, u3]) (vs := [.bool (decide (q.num < 0)), u2, u3]) (T := TRt) ⟨u2, u3, rfl, hu2, hu3, rfl⟩
end Go.Art
set_option linter.unusedSimpArgs false
set_option linter.unusedVariables false
namespace Go.Art
open Go Go.Proofs Go.RowKit
abbrev FQ2 (q : Rat) (e : Int) (u : Value) (D : List Ch) : Prop := ∃ vn vd, u = tup2 (rv q vn vd) (I e) ∧ vn.oneCell' = true ∧ vd.oneCell' = true ∧ D = [own T64 vn (Us (dg q.num.natAbs)), own T64 vd (Us (dg q.den))]
theorem Tm_top {l : List Nat} (h : Tm l) : ¬ (0 < l.length ∧ l.getD (l.length - 1) 0 = 0) := fun ⟨h1, h2⟩ => h.top h1 h2
theorem icheck_ok (z : Int) : ¬ ((decide (z < 0) = true ∧ (dz z).length = 0) ∨ (0 < (dz z).length ∧ (dz z).getD ((dz z).length - 1) 0 = 0)) := by
  rintro (⟨h1, h2⟩ | h)
  · have h3 := dg_nil.1 (List.eq_nil_of_length_eq_zero h2)
    simp at h1; omega
  · exact Tm_top (Tm_dg _) h
attribute [local irreducible] Fit pt own ro vw mpc lpt vels rels mow lrc dfr
theorem FMake_tr (z : Int) (o dv : Value) (m : List Nat) (hm : Dg m) (hll : (dz z).length ≤ 68719476736) (hlm : m.length ≤ 68719476736) (hm0 : nv m ≠ 0) :
    Tr Try.prog 21 [iv z o, dv] [vw o (Us (dz z)), vw dv (Us m)] [] (FQ2 (mkRat z (nv m)) 0) := by
  have hC := ICheck_tr (decide (z < 0)) o (dz z)
  rw [if_neg (icheck_ok z)] at hC
  have hN := NLen_tr dv m hm (by omega)
  have hL := lowest_tr (decide (z < 0)) o dv (dz z) m (Dg_dg _) hm hll hlm hm0
  have hs : sg (decide (z < 0)) (nv (dz z)) = z := by
    unfold sg; rw [nv_dg]
    by_cases h : z < 0
    · rw [if_pos (by simpa using h)]; omega
    · rw [if_neg (by simpa using h)]; omega
  rw [hs] at hL
  unfold FQ at hL
  obtain ⟨q, hq⟩ : ∃ q, q = mkRat z (nv m) := ⟨_, rfl⟩
  rw [← hq] at hL ⊢
  refine Tr.enter env _ Try.func21 (by kernel_rfl) rfl Try.ntmps21 rfl (by repeat (first | exact has00 | refine has01 ?_)) fun w0 => ?_
  repeat' first|(refine gca ?_; first|(refine ca hC ?_; rintro _ _ ⟨rfl, rfl⟩)|(refine ca hN ?_; rintro _ _ ⟨⟨nb, rfl, hnb⟩, rfl⟩)|(refine ca hL ?_; rintro _ _ ⟨vn, vd, rfl, hvn, hvd, rfl⟩))|refine bx fun q1 => ?_|refine al fun c => ?_|refine lda ?_|refine srz ?_|(refine wo ?_; first|(refine ao ?_; first|refine aw ?_|refine aw6 ?_|refine oa ?_|refine adiv ?_|refine amod ?_|refine shr1 ?_|refine shr ?_|refine umod ?_|refine isl ?_|refine ipe ?_|refine ipn ?_|refine ibe ?_)|refine acw ?_|refine ucv ?_|refine anw ?_|refine oa ?_|refine ld ?_|refine ldl ?_|refine lnm ?_|refine ixmn ?_|refine ixm ?_|refine li ?_|refine lb ?_|refine lv ?_|refine ln ?_|refine ixn ?_|refine ix ?_|refine le ?_|refine sr ?_|refine soi ?_|refine sob ?_|refine scm ?_|refine sclm ?_|refine schm ?_|refine gy ?_|refine gn ?_|refine gnn ?_|refine gu ?_|(refine gsi (fun hB => ?_) (fun hB => ?_) <;> try (exfalso; omega))|(refine gsn (fun hB => ?_) (fun hB => ?_) <;> try (exfalso; omega))|(refine gs (fun hB => ?_) (fun hB => ?_) <;> try (exfalso; omega)))|(refine gc ?_; first|refine ct ?_|refine cf ?_|(refine ci (fun hB => ?_) (fun hB => ?_) <;> try (exfalso; omega))|(refine cn (fun hB => ?_) (fun hB => ?_) <;> try (exfalso; omega))|(refine cb (fun hB => ?_) (fun hB => ?_) <;> try (exfalso; omega)))|refine sq ?_|refine rg ?_|refine xc ?_|refine nl ?_|refine sk ?_|refine bk ?_|refine xe ?_|refine rt ?_|refine xb ?_
  exact rca (cs := [.bool (decide (q.num < 0)), vn, vd]) (vs := [.bool (decide (q.num < 0)), vn, vd]) (T := TRt) ⟨vn, vd, rfl, hvn, hvd, rfl⟩
theorem FPair_tr (x y : Nat) (hx : x < 9223372036854775808) (hy : y < 9223372036854775808) (hy0 : y ≠ 0) : Tr Try.prog 27 [I x, I y] [] [] (FQ2 (mkRat x y) 0) := by
  have hx1 := dg_len1 (n := x) (by omega)
  have hy1 := dg_len1 (n := y) (by omega)
  have hO := IOf_tr x hx
  have hP := IOf_tr y hy
  have hM := fun o => IMake_tr false o (dg x) (Dg_dg x) (by omega)
  have hs : sg false x = (x : Int) := rfl
  have hR := fun o dv => FMake_tr (x : Int) o dv (dg y) (Dg_dg y) (by unfold dz; rw [Int.natAbs_natCast]; omega) (by omega) (by rw [nv_dg]; exact hy0)
  simp only [nv_dg, hs] at hM hR
  unfold IR at hO hP hM
  unfold dz at hR
  simp only [Int.natAbs_natCast] at hO hP hM hR
  have hxn : decide ((x : Int) < 0) = false := by simp
  have hyn : decide ((y : Int) < 0) = false := by simp
  rw [hxn] at hO
  rw [hyn] at hP
  unfold FQ2 at hR
  obtain ⟨q, hq⟩ : ∃ q, q = mkRat (x : Int) y := ⟨_, rfl⟩
  simp only [← hq] at hR ⊢
  clear hq
  refine Tr.enter env _ Try.func27 (by kernel_rfl) rfl Try.ntmps27 rfl (by repeat (first | exact has00 | refine has01 ?_)) fun w0 => ?_
  repeat' first|(refine gca ?_; first|(refine ca hO ?_; rintro _ _ ⟨o, rfl, ho, rfl⟩)|(refine ca hP ?_; rintro _ _ ⟨o2, rfl, ho2, rfl⟩))|refine al fun c => ?_|refine srz ?_|(refine wo ?_; first|(refine ao ?_; first|refine aw ?_|refine aw6 ?_|refine oa ?_|refine adiv ?_|refine amod ?_|refine shr1 ?_|refine shr ?_|refine umod ?_|refine isl ?_|refine ipe ?_|refine ipn ?_|refine ibe ?_)|refine acw ?_|refine ucv ?_|refine anw ?_|refine oa ?_|refine ld ?_|refine ldl ?_|refine lnm ?_|refine ixmn ?_|refine ixm ?_|refine li ?_|refine lb ?_|refine lv ?_|refine ln ?_|refine ixn ?_|refine ix ?_|refine le ?_|refine sr ?_|refine soi ?_|refine sob ?_|refine scm ?_|refine sclm ?_|refine schm ?_|refine gy ?_|refine gn ?_|refine gnn ?_|refine gu ?_|(refine gsi (fun hB => ?_) (fun hB => ?_) <;> try (exfalso; omega))|(refine gsn (fun hB => ?_) (fun hB => ?_) <;> try (exfalso; omega))|(refine gs (fun hB => ?_) (fun hB => ?_) <;> try (exfalso; omega)))|(refine gc ?_; first|refine ct ?_|refine cf ?_|(refine ci (fun hB => ?_) (fun hB => ?_) <;> try (exfalso; omega))|(refine cn (fun hB => ?_) (fun hB => ?_) <;> try (exfalso; omega))|(refine cb (fun hB => ?_) (fun hB => ?_) <;> try (exfalso; omega)))|refine sq ?_|refine rg ?_|refine xc ?_|refine nl ?_|refine sk ?_|refine bk ?_|refine xe ?_|refine rt ?_|refine xb ?_
  rename_i d0 d1
  rename Nat => d2
  refine rs (fun w => w.heap[d1]? = some (.cells [.bool false, o2].toArray TIt (0, 0)) ∧ w.heap[d2]? = some (.cells [.bool false, o].toArray TIt (0, 0))) ?_ (fun w hw => ⟨pt_at (b := d1) (cs := [.bool false, o2]) (T := TIt) (by (repeat (first | apply List.Mem.head | apply List.Mem.tail)); first | done | fail) hw, pt_at (b := d2) (cs := [.bool false, o]) (T := TIt) (by (repeat (first | apply List.Mem.head | apply List.Mem.tail)); first | done | fail) hw⟩)
  refine tka 0 ?_
  refine tkl 1 (cs := [.bool false, o]) (fun w h => h.2) ?_
  refine tka 2 ?_
  refine tkl 3 (cs := [.bool false, o2]) (fun w h => h.1) ?_
  refine tk 4 (v := .bool false) (fun _ _ => R_bne (E := env) (b1 := false) (b2 := false) rfl rfl rfl) ?_
  refine tka 5 ?_
  refine tkl 6 (cs := [.bool false, o]) (fun w h => h.2) ?_
  refine tka 8 ?_
  refine tkl 9 (cs := [.bool false, o2]) (fun w h => h.1) ?_
  refine t1 7 ?_
  refine ca (hM o) ?_
  rintro _ _ ⟨o3, rfl, ho3, rfl⟩
  refine nl ?_
  refine te (fun w hw => ⟨pt_at (b := d1) (cs := [.bool false, o2]) (T := TIt) (by (repeat (first | apply List.Mem.head | apply List.Mem.tail)); first | done | fail) hw, pt_at (b := d2) (cs := [.bool false, o]) (T := TIt) (by (repeat (first | apply List.Mem.head | apply List.Mem.tail)); first | done | fail) hw⟩) ?_
  refine t1 10 ?_
  refine ca (hR o3 o2) ?_
  rintro _ _ ⟨vn, vd, rfl, hvn, hvd, rfl⟩
  refine nl ?_
  refine te (fun w hw => ⟨pt_at (b := d1) (cs := [.bool false, o2]) (T := TIt) (by (repeat (first | apply List.Mem.head | apply List.Mem.tail)); first | done | fail) hw, pt_at (b := d2) (cs := [.bool false, o]) (T := TIt) (by (repeat (first | apply List.Mem.head | apply List.Mem.tail)); first | done | fail) hw⟩) ?_
  refine tka 11 ?_
  refine tka 12 ?_
  refine t1 13 ?_
  refine srz ?_
  refine nl ?_
  refine te (fun w hw => ⟨pt_at (b := d1) (cs := [.bool false, o2]) (T := TIt) (by (repeat (first | apply List.Mem.head | apply List.Mem.tail)); first | done | fail) hw, pt_at (b := d2) (cs := [.bool false, o]) (T := TIt) (by (repeat (first | apply List.Mem.head | apply List.Mem.tail)); first | done | fail) hw⟩) ?_
  refine tka 14 ?_
  refine t0 ?_
  repeat' first|(refine wo ?_; first|(refine ao ?_; first|refine aw ?_|refine aw6 ?_|refine oa ?_|refine adiv ?_|refine amod ?_|refine shr1 ?_|refine shr ?_|refine umod ?_|refine isl ?_|refine ipe ?_|refine ipn ?_|refine ibe ?_)|refine acw ?_|refine ucv ?_|refine anw ?_|refine oa ?_|refine ld ?_|refine ldl ?_|refine lnm ?_|refine ixmn ?_|refine ixm ?_|refine li ?_|refine lb ?_|refine lv ?_|refine ln ?_|refine ixn ?_|refine ix ?_|refine le ?_|refine sr ?_|refine soi ?_|refine sob ?_|refine scm ?_|refine sclm ?_|refine schm ?_|refine gy ?_|refine gn ?_|refine gnn ?_|refine gu ?_|(refine gsi (fun hB => ?_) (fun hB => ?_) <;> try (exfalso; omega))|(refine gsn (fun hB => ?_) (fun hB => ?_) <;> try (exfalso; omega))|(refine gs (fun hB => ?_) (fun hB => ?_) <;> try (exfalso; omega)))|(refine gc ?_; first|refine ct ?_|refine cf ?_|(refine ci (fun hB => ?_) (fun hB => ?_) <;> try (exfalso; omega))|(refine cn (fun hB => ?_) (fun hB => ?_) <;> try (exfalso; omega))|(refine cb (fun hB => ?_) (fun hB => ?_) <;> try (exfalso; omega)))|refine sq ?_|refine rg ?_|refine xc ?_|refine nl ?_|refine sk ?_|refine bk ?_|refine xe ?_|refine rt ?_|refine xb ?_
  exact rca (cs := [.bool (decide (q.num < 0)), vn, vd]) (vs := [.bool (decide (q.num < 0)), vn, vd]) (T := TRt) ⟨vn, vd, rfl, hvn, hvd, rfl⟩
end Go.Art
set_option linter.unusedSimpArgs false
set_option linter.unusedVariables false
namespace Go.Art
open Go Go.Proofs Go.RowKit
def fall (n : Nat) : Nat → Nat
  | 0 => 1
  | k + 1 => fall n k * (n - k)
def chs : Nat → Nat → Nat
  | _, 0 => 1
  | 0, _ + 1 => 0
  | n + 1, k + 1 => chs n k + chs n (k + 1)
theorem chs_zero (n : Nat) : chs n 0 = 1 := by cases n <;> rfl
theorem chs_succ (n k : Nat) : chs (n + 1) (k + 1) = chs n k + chs n (k + 1) := rfl
theorem chs_over : ∀ {n k : Nat}, n < k → chs n k = 0
  | 0, k + 1, _ => rfl
  | n + 1, k + 1, h => by rw [chs_succ, chs_over (by omega), chs_over (by omega)]
theorem chs_self : ∀ n : Nat, chs n n = 1
  | 0 => rfl
  | n + 1 => by rw [chs_succ, chs_self n, chs_over (by omega)]
theorem chs_next : ∀ (n k : Nat), chs n (k + 1) * (k + 1) = chs n k * (n - k)
  | 0, 0 => rfl
  | 0, k + 1 => by simp [chs]
  | n + 1, 0 => by
    rw [chs_succ, chs_zero, chs_zero]
    have := chs_next n 0
    rw [chs_zero] at this
    omega
  | n + 1, k + 1 => by
    have h1 := chs_next n k
    have h2 := chs_next n (k + 1)
    rw [chs_succ n (k + 1), chs_succ n k]
    rcases Nat.lt_or_ge k n with h | h
    · obtain ⟨m, rfl⟩ : ∃ m, n = k + 1 + m := ⟨n - (k + 1), by omega⟩
      have e1 : k + 1 + m - k = m + 1 := by omega
      have e2 : k + 1 + m - (k + 1) = m := by omega
      have e3 : k + 1 + m + 1 - (k + 1) = m + 1 := by omega
      rw [e1] at h1
      rw [e2] at h2
      rw [e3]
      generalize chs (k + 1 + m) k = a at *
      generalize chs (k + 1 + m) (k + 1) = b at *
      generalize chs (k + 1 + m) (k + 1 + 1) = c at *
      rw [Nat.add_mul, h2, Nat.add_mul, ← h1]
      simp only [Nat.mul_add, Nat.mul_one]
      omega
    · rw [chs_over (k := k + 1) (by omega), chs_over (k := k + 1 + 1) (by omega), show n + 1 - (k + 1) = 0 by omega]
      simp
theorem chs_symm : ∀ {n k : Nat}, k ≤ n → chs n (n - k) = chs n k
  | 0, k, h => by
    obtain rfl : k = 0 := (by omega)
    rfl
  | n + 1, 0, _ => by rw [Nat.sub_zero, chs_self, chs_zero]
  | n + 1, k + 1, h => by
    rcases Nat.lt_or_ge k n with h1 | h1
    · rw [show n + 1 - (k + 1) = (n - (k + 1)) + 1 by omega, chs_succ, chs_succ, chs_symm (n := n) (k := k + 1) (by omega), show n - (k + 1) + 1 = n - k by omega, chs_symm (n := n) (k := k) (by omega)]
      omega
    · obtain rfl : k = n := by omega
      rw [show k + 1 - (k + 1) = 0 by omega, chs_zero, chs_self]
theorem chs_pos {n k : Nat} (h : k ≤ n) : chs n k ≠ 0 := by
  induction n generalizing k with
  | zero =>
    obtain rfl : k = 0 := (by omega)
    exact Nat.one_ne_zero
  | succ n ih =>
    cases k with
    | zero => rw [chs_zero]; exact Nat.one_ne_zero
    | succ k => rw [chs_succ]; have := ih (k := k) (by omega); omega
theorem chs_le (n k : Nat) : chs n k ≤ 2 ^ n := by
  induction n generalizing k with
  | zero => cases k <;> simp [chs]
  | succ n ih =>
    cases k with
    | zero => rw [chs_zero]; exact Nat.one_le_two_pow
    | succ k => rw [chs_succ, Nat.pow_succ]; have := ih k; have := ih (k + 1); omega
theorem chs_len (n k : Nat) : (dg (chs n k)).length ≤ n + 1 := (dg_len _ _).2 (by
  refine Nat.lt_of_le_of_lt (chs_le n k) (Nat.lt_of_lt_of_le (Nat.pow_lt_pow_right (a := 2) (by decide) (Nat.lt_succ_self n)) (Nat.pow_le_pow_left (by decide) _))
)
theorem fall_pos {n k : Nat} (h : k ≤ n) : fall n k ≠ 0 := by
  induction k with
  | zero => exact Nat.one_ne_zero
  | succ k ih =>
    have := ih (by omega)
    exact Nat.mul_ne_zero this (by omega)
theorem fall_lt {n : Nat} (hn : n ≤ 65536) (k : Nat) : fall n k < 18446744073709551616 ^ (k + 1) := by
  induction k with
  | zero => show 1 < _; simp
  | succ k ih =>
    rw [Nat.pow_succ]
    exact Nat.mul_lt_mul_of_lt_of_le ih (by omega) (by decide)
theorem fall_len {n : Nat} (hn : n ≤ 65536) (k : Nat) : (dg (fall n k)).length ≤ k + 1 := (dg_len _ _).2 (fall_lt hn k)
theorem chs_step {n i : Nat} : chs n i * (n - i) / (i + 1) = chs n (i + 1) := by
  rw [← chs_next, Nat.mul_div_cancel _ (by omega)]
attribute [local irreducible] Fit pt own ro vw mpc lpt vels rels mow lrc dfr
abbrev eNat (u : Value) (D : List Ch) (m : Nat) (e : Int) : Prop := ∃ o, u = tup2 o (I e) ∧ o.oneCell' = true ∧ D = [own T64 o (Us (dg m))]
theorem Falling_tr (n k : Nat) (hn : n ≤ 65536) (hk : k ≤ n) : Tr Try.prog 16 [I n, I k] [] [] fun u D => eNat u D (fall n k) 0 := by
  refine Tr.enter env _ Try.func16 (by kernel_rfl) rfl Try.ntmps16 rfl (by repeat (first | exact has00 | refine has01 ?_)) fun w0 => ?_
  repeat' first|(refine gca ?_; first|(refine ca (Of_tr 1 (by decide)) ?_; rintro o _ ⟨ho, rfl⟩))|(refine wo ?_; first|(refine ao ?_; first|refine oa ?_)|refine oa ?_|refine gy ?_|(refine gsi (fun hB => ?_) (fun hB => ?_) <;> try (exfalso; omega)))|(refine gc ?_; first|refine cf ?_)|refine sq ?_|refine rg ?_|refine xc ?_|refine nl ?_|refine sk ?_|refine bk ?_
  refine TC.loop (ι := Nat × Value) (fun g => [(7, I g.1), (6, g.2)]) (fun g => [own T64 g.2 (Us (dg (fall n g.1)))]) (fun g => g.1 ≤ k ∧ g.2.oneCell' = true) (fun g => k - g.1) (0, o) [0, 1] ⟨Nat.zero_le _, ho⟩ ?_ (hf := by dsimp only; rw [show fall n 0 = 1 from rfl]; first | apply Fit.all | ((repeat (first | (apply Fit.nilN; (repeat (first | apply nrm_nil | apply nrm_cons)); try apply nrm_rfl) | (apply Fit.cons; focus ((repeat (first | apply Tk.here | apply Tk.there)); first | done | fail)))); first | done | fail))
  rintro ⟨i, v⟩ ⟨hi, hv⟩
  dsimp only at hi hv ⊢
  have hG := NGrow_tr v (dg (fall n i)) (n - i) (Dg_dg _) (by omega) (by have := fall_len hn i; omega)
  rw [nv_dg] at hG
  have hm : (I ((n : Int) - i)) = I ((n - i : Nat) : Int) := by rw [Int.ofNat_sub (by omega)]
  have hf : fall n i * (n - i) = fall n (i + 1) := rfl
  rw [hf] at hG
  by_cases hlt : i < k
  · repeat' first|(refine gca ?_; first|(refine ca hG ?_; rintro v2 _ ⟨hv2, rfl⟩))|refine mnn ?_|(refine ntu (m := (n : Int) - i) ?_; rw [show ((n : Int) - i).toNat = n - i by omega])|(refine wo ?_; first|(refine ao ?_; first|refine aw ?_|refine oa ?_)|refine oa ?_)|(refine gc ?_; first|(refine ci (fun hB => ?_) (fun hB => ?_) <;> try (exfalso; omega)))|refine sq ?_|refine rg ?_|refine xc ?_|refine nl ?_|refine sk ?_|refine bk ?_|refine xb ?_
    exact lp (i + 1, v2) ⟨hlt, hv2⟩
  · obtain rfl : i = k := by omega
    repeat' first|refine mnn ?_|(refine wo ?_; first|(refine ao ?_; first|refine aw ?_|refine oa ?_)|refine oa ?_)|(refine gc ?_; first|(refine ci (fun hB => ?_) (fun hB => ?_) <;> try (exfalso; omega)))|refine sq ?_|refine rg ?_|refine xc ?_|refine nl ?_|refine xe ?_|refine rt ?_
    exact r2 ⟨v, rfl, hv, rfl⟩
theorem Choose_tr (n k : Nat) (hn : n ≤ 65536) (hk : k ≤ n) : Tr Try.prog 20 [I n, I k] [] [] fun u D => eNat u D (chs n k) 0 := by
  obtain ⟨m, hm⟩ : ∃ m, m = min k (n - k) := ⟨_, rfl⟩
  have hcm : chs n m = chs n k := by
    rw [hm]
    rcases Nat.le_total k (n - k) with h | h
    · rw [Nat.min_eq_left h]
    · rw [Nat.min_eq_right h, chs_symm hk]
  have hmn : m ≤ n := by omega
  have hmi : min (k : Int) ((n : Int) - k) = (m : Int) := by omega
  rw [← hcm]
  clear hcm
  refine Tr.enter env _ Try.func20 (by kernel_rfl) rfl Try.ntmps20 rfl (by repeat (first | exact has00 | refine has01 ?_)) fun w0 => ?_
  repeat' first|(refine gca ?_; first|(refine ca (Of_tr 1 (by decide)) ?_; rintro o _ ⟨ho, rfl⟩))|(refine mnn ?_; rw [hmi])|(refine wo ?_; first|(refine ao ?_; first|refine aw ?_|refine oa ?_)|refine oa ?_|refine gy ?_)|(refine gc ?_; first|(refine ci (fun hB => ?_) (fun hB => ?_) <;> try (exfalso; omega)))|refine sq ?_|refine rg ?_|refine xc ?_|refine nl ?_|refine sk ?_|refine bk ?_
  clear hmi hm
  refine TC.loop (ι := Nat × Value) (fun g => [(7, I ((g.1 : Int) + 1)), (6, g.2), (8, I ((n : Int) - g.1)), (9, I ((m : Int) - g.1))]) (fun g => [own T64 g.2 (Us (dg (chs n g.1)))]) (fun g => g.1 ≤ m ∧ g.2.oneCell' = true) (fun g => m - g.1) (0, o) [] ⟨Nat.zero_le _, ho⟩ ?_ (hf := by dsimp only; rw [chs_zero]; first | apply Fit.all | ((repeat (first | (apply Fit.nilN; (repeat (first | apply nrm_nil | apply nrm_cons)); try apply nrm_rfl) | (apply Fit.cons; focus ((repeat (first | apply Tk.here | apply Tk.there)); first | done | fail)))); first | done | fail)) (hs := by dsimp only; simp only [Int.natCast_zero, Int.sub_zero, Int.zero_add]; (repeat (refine Sub.cons rfl (by first | rfl | go_num) ?_)); exact Sub.nil)
  rintro ⟨i, v⟩ ⟨hi, hv⟩
  dsimp only at hi hv ⊢
  by_cases hlt : i < m
  · have hG := NGrow_tr v (dg (chs n i)) (n - i) (Dg_dg _) (by omega) (by have := chs_len n i; omega)
    have hl1 : (dg (chs n i * (n - i))).length ≤ n + 2 := by
      have h1 := (dg_len _ _).1 (chs_len n i)
      exact (dg_len _ _).2 (by rw [Nat.pow_succ]; exact Nat.mul_lt_mul_of_lt_of_le h1 (by omega) (by decide))
    have hP := fun v => Part_tr v (dg (chs n i * (n - i))) (i + 1) (Dg_dg _) (by omega) (by omega) (by omega)
    simp only [nv_dg, chs_step] at hG hP
    repeat' first|(refine gca ?_; first|(refine ca hG ?_; rintro v2 _ ⟨hv2, rfl⟩)|(refine ca (hP v2) ?_; rintro _ _ ⟨v3, rfl, hv3, rfl⟩))|(refine ntu (m := (n : Int) - i) ?_; rw [show ((n : Int) - i).toNat = n - i by omega])|(refine ntu (m := (i : Int) + 1) ?_; rw [show ((i : Int) + 1).toNat = i + 1 by omega])|(refine wo ?_; first|(refine ao ?_; first|refine aw ?_|refine oa ?_)|refine oa ?_)|(refine gc ?_; first|(refine ci (fun hB => ?_) (fun hB => ?_) <;> try (exfalso; omega)))|refine sq ?_|refine rg ?_|refine xc ?_|refine nl ?_|refine sk ?_|refine bk ?_|refine xb ?_
    exact lp (i + 1, v3) ⟨hlt, hv3⟩ (hs := by dsimp only; (repeat (refine Sub.cons rfl (by first | rfl | go_num) ?_)); exact Sub.nil)
  · obtain rfl : i = m := by omega
    repeat' first|(refine wo ?_; first|(refine ao ?_; first|refine oa ?_)|refine oa ?_)|(refine gc ?_; first|(refine ci (fun hB => ?_) (fun hB => ?_) <;> try (exfalso; omega)))|refine sq ?_|refine rg ?_|refine xc ?_|refine nl ?_|refine xe ?_|refine rt ?_
    exact r2 ⟨v, rfl, hv, rfl⟩
end Go.Art
set_option linter.unusedSimpArgs false
set_option linter.unusedVariables false
namespace Go.Art
open Go Go.Proofs Go.RowKit
abbrev Fr3 := Bool × List Nat × List Nat
abbrev rqf (q : Rat) : Fr3 := (decide (q.num < 0), dg q.num.natAbs, dg q.den)
abbrev rqn : Fr3 := (false, [], [])
abbrev FW (t : Fr3 × Int) (u : Value) (D : List Ch) : Prop := ∃ vn vd, u = tup2 (.agg #[.bool t.1.1, vn, vd]) (I t.2) ∧ vn.oneCell' = true ∧ vd.oneCell' = true ∧ D = [own T64 vn (Us t.1.2.1), own T64 vd (Us t.1.2.2)]
theorem FW.of0 {e : Int} {u : Value} {D : List Ch} (h : u = tup2 rv0 (I e) ∧ D = [own T64 nS (Us []), own T64 nS (Us [])]) : FW (rqn, e) u D := ⟨nS, nS, h.1, rfl, rfl, h.2⟩
def meaW (tot : Int) (cut oth : List Int) (k d : Int) : Fr3 × Int :=
  if rwE tot cut oth k = 0 then (if d < 1 ∨ cut.length < d then (rqn, 3) else (rqf (mkRat 1 (fall k.toNat d.toNat * cut.length * tot.toNat)), 0)) else (rqn, rwE tot cut oth k)
def chaW (t : List Int) (k d : Int) : Fr3 × Int :=
  if solE t k = 0 then (if d < 1 ∨ t.length < d then (rqn, 3) else (rqf (mkRat (t.getD (d - 1).toNat 0) (chs k.toNat d.toNat * t.sum.toNat)), 0)) else (rqn, 13)
section
variable {P : Program} {E : Env P} {X : Cx} {fr : Fr} {A D G : List Ch}
theorem rcc {w0 : World} {A0 : List Ch} {R' : Value → List Ch → Prop} {fn : Func} {t nn : Nat} {ty T : TypeId} {dt : TypeDesc} {b : Nat} {cs : List Value} {v : Value} (h : R' v D) (hr : fn.results = #[.cell t ty] := by rfl) (ht : lk E.und ty = some dt := by rfl) (hg : aggB dt = false := by rfl)
    (hv : get fr t = some (ptr b) := by rfl) (hm : pt b cs T ∈ A := by (repeat (first | apply List.Mem.head | apply List.Mem.tail)); first | done | fail) (hc : cs[0]? = some v := by rfl) (hf : Fit A D G := by first | apply Fit.all | ((repeat (first | (apply Fit.nilN; (repeat (first | apply nrm_nil | apply nrm_cons)); try apply nrm_rfl) | (apply Fit.cons; focus ((repeat (first | apply Tk.here | apply Tk.there)); first | done | fail)))); first | done | fail)) (nb : ∀ c ∈ D, ∀ b, ¬ c.bd b := by (repeat (first | exact nb0 | refine nb1 ?_)); first | done | fail) :
    TX E ⟨nn, [], none⟩ ⟨bodyPost P fn (RetP (PR w0 A0 R')), w0, A0⟩ [] .ret fr A := ⟨fun w hw => ⟨fun a ha =>
  bodyPost_ret (res_c (E := E) ha hr ht hg hv (ptcell hw.sat hm hc)) (ha.defers.trans rfl) ⟨_, rfl, PR.mk h hw hf nb⟩⟩⟩
end
attribute [local irreducible] Fit pt own ro vw mpc lpt vels rels mow lrc dfr
attribute [local irreducible] lmp lme mit velg relg
theorem soAdd_tr (c : Nat) (m w : Int) (h : -9223372036854775808 ≤ m + w ∧ m + w ≤ 9223372036854775807) : Tr Try.prog 44 [I w, ptr c] [] [pt c [I m] TLI] fun _ D => D = [pt c [I (m + w)] TLI] := by
  refine Tr.enter env _ Try.func44 (by kernel_rfl) rfl Try.ntmps44 rfl (by repeat (first | exact has00 | refine has01 ?_)) fun w0 => ?_
  repeat' first|(refine wo ?_; first|(refine ao ?_; first|refine aw ?_)|refine oa ?_|refine ld ?_|refine sr ?_)|refine rg ?_|refine nl ?_
  exact e0 rfl
theorem SoTotal_tr (s : Value) (t : List Int) (h1 : 1 ≤ t.length ∧ t.length ≤ 65536) (hw : ∀ w ∈ t, 0 ≤ w ∧ w ≤ 16777215) : Tr Try.prog 24 [s] [vw s (Is t)] [] fun v D => v = I t.sum ∧ D = [] := by
  refine Tr.enter env _ Try.func24 (by kernel_rfl) rfl Try.ntmps24 rfl (by repeat (first | exact has00 | refine has01 ?_)) fun w0 => ?_
  repeat' first|refine al fun c => ?_|(refine wo ?_; first|refine oa ?_|refine lnm ?_)|refine sq ?_|refine rg ?_|refine xc ?_|refine nl ?_|refine bk ?_
  refine TC.loop (ι := Nat) (fun i => [(9, I i)]) (fun i => [pt c [I (t.take i).sum] TLI]) (fun i => i ≤ t.length) (fun i => t.length - i) 0 [2, 3, 7, 8] (by simp) ?_
  rintro i h2
  by_cases hi : i < t.length
  · have hs := take_sum hi
    have hb := hw _ (mem_getD.2 ⟨i, hi, rfl⟩)
    have hc := sum_bound (t := t.take i) fun w h => hw w (List.mem_of_mem_take h)
    rw [List.length_take] at hc
    generalize hy : t.getD i 0 = y at *
    generalize (t.take i).sum = m at *
    repeat' first|refine lie hy ?_|(refine cav (cap := #[ptr c]) (vs := [I y]) (soAdd_tr c m y (by omega)) ?_; rintro _ _ rfl)|(refine wo ?_; first|(refine ao ?_; first|refine aw ?_|refine oa ?_)|refine oa ?_|refine ixmn ?_)|(refine gc ?_; first|(refine ci (fun hB => ?_) (fun hB => ?_) <;> try (exfalso; omega)))|refine sq ?_|refine rg ?_|refine xc ?_|refine nl ?_|refine sk ?_|refine bk ?_|refine xb ?_
    exact lp (i + 1) (by omega) (hf := by rw [hs]; first | apply Fit.all | ((repeat (first | (apply Fit.nilN; (repeat (first | apply nrm_nil | apply nrm_cons)); try apply nrm_rfl) | (apply Fit.cons; focus ((repeat (first | apply Tk.here | apply Tk.there)); first | done | fail)))); first | done | fail))
  · obtain rfl : i = t.length := by omega
    rw [List.take_length]
    repeat' first|(refine wo ?_; first|(refine ao ?_; first|refine oa ?_)|refine ld ?_|refine sr ?_)|(refine gc ?_; first|(refine ci (fun hB => ?_) (fun hB => ?_) <;> try (exfalso; omega)))|refine sq ?_|refine rg ?_|refine xc ?_|refine nl ?_|refine xe ?_|refine rt ?_
    exact rcc (cs := [I t.sum]) (T := TLI) ⟨rfl, rfl⟩
theorem over1_tr (v : Value) (l : List Nat) (hd : Dg l) (hl : l.length ≤ 68719476736) (h0 : nv l ≠ 0) : Tr Try.prog 17 [v] [vw v (Us l)] [] (FQ (mkRat 1 (nv l))) := by
  have hO := IOf_tr 1 (by decide)
  have hd1 : (dz ((1 : Nat) : Int)).length ≤ 1 := dg_len1 (by decide)
  have hM := fun o => FMake_tr ((1 : Nat) : Int) o v l hd (by omega) hl h0
  unfold IR at hO
  rw [show (((1 : Nat) : Int)).natAbs = 1 from rfl] at hO
  unfold dz at hM
  simp only [show (((1 : Nat) : Int)).natAbs = 1 from rfl] at hM
  unfold FQ2 at hM
  simp only [show ((1 : Nat) : Int) = 1 from rfl] at hM hO
  obtain ⟨q, hq⟩ : ∃ q, q = mkRat 1 (nv l) := ⟨_, rfl⟩
  simp only [← hq] at hM ⊢
  refine Tr.enter env _ Try.func17 (by kernel_rfl) rfl Try.ntmps17 rfl (by repeat (first | exact has00 | refine has01 ?_)) fun w0 => ?_
  repeat' first|(refine gca ?_; first|(refine ca hO ?_; rintro _ _ ⟨o, rfl, ho, rfl⟩)|(refine ca (hM o) ?_; rintro _ _ ⟨vn, vd, rfl, hvn, hvd, rfl⟩))|refine al fun c => ?_|refine lda ?_|refine srz ?_|(refine wo ?_; first|refine oa ?_)|refine sq ?_|refine rg ?_|refine xc ?_|refine nl ?_|refine rt ?_
  exact rca1 (cs := [.bool (decide (q.num < 0)), vn, vd]) (vs := [.bool (decide (q.num < 0)), vn, vd]) (T := TRt) ⟨vn, vd, rfl, hvn, hvd, rfl⟩
end Go.Art
set_option linter.unusedSimpArgs false
set_option linter.unusedVariables false
namespace Go.Art
open Go Go.Proofs Go.RowKit
theorem R_ntu {P : Program} {E : Env P} {n : Sh} {fr : Fr} {w : World} {t t' ty : TypeId} {x : Operand} {k0 : IntKind} {m : Int} (ht : lk E.und t' = some (.int .u64)) (hs : (lk E.und t).isSome = true) (hx : ev fr x = some (.int k0 m)) (hb : 0 ≤ m ∧ m < 18446744073709551616) : OpV P n fr (.convert t t' x) ty w (Un m.toNat) w := by
  have := R_conv (P := P) (n := n) (w := w) (ty := ty) ht hs hx; rwa [wrapN m m.toNat (by omega)] at this
theorem R_ntuk {P : Program} {E : Env P} {n : Sh} {fr : Fr} {w : World} {t t' ty : TypeId} {x : Operand} {k0 : IntKind} {m : Nat} (ht : lk E.und t' = some (.int .u64)) (hs : (lk E.und t).isSome = true) (hx : ev fr x = some (.int k0 (m : Int))) (hb : m < 18446744073709551616) : OpV P n fr (.convert t t' x) ty w (Un m) w := by
  have := R_ntu (P := P) (n := n) (w := w) (ty := ty) ht hs hx (by omega); rwa [Int.toNat_natCast] at this
theorem dg_grow_len {a x L : Nat} (h : (dg a).length ≤ L) (hx : x < 18446744073709551616) : (dg (a * x)).length ≤ L + 1 := (dg_len _ _).2 (by
  rw [Nat.pow_succ]; exact Nat.mul_lt_mul_of_lt_of_le ((dg_len _ _).1 h) (by omega) (by decide))
theorem meaW_ok {tot : Int} {cut oth : List Int} {k d : Int} (hk : rwE tot cut oth k = 0) (hd : ¬ (d < 1 ∨ cut.length < d)) : meaW tot cut oth k d = (rqf (mkRat 1 (fall k.toNat d.toNat * cut.length * tot.toNat)), 0) := by
  unfold meaW; rw [if_pos hk, if_neg hd]
theorem sum_wOk {t : List Int} (h : ∀ w ∈ t, 0 ≤ w ∧ w ≤ 16777215) : 0 ≤ t.sum ∧ t.sum ≤ 16777215 * t.length := sum_bound h
theorem sum_posT {t : List Int} (h : ∀ w ∈ t, 0 ≤ w ∧ w ≤ 16777215) (hp : ∃ w ∈ t, 0 < w) : 0 < t.sum := by
  induction t with
  | nil => obtain ⟨w, hw, _⟩ := hp; cases hw
  | cons a r ih =>
    have h1 := h a (by simp)
    have h2 := sum_bound (t := r) fun w hw => h w (by simp [hw])
    rw [List.sum_cons]
    obtain ⟨w, hw, hw0⟩ := hp
    rcases List.mem_cons.1 hw with rfl | hw
    · omega
    · have := ih (fun w hw => h w (by simp [hw])) ⟨w, hw, hw0⟩; omega
attribute [local irreducible] Fit pt own ro vw mpc lpt vels rels mow lrc dfr
attribute [local irreducible] lmp lme mit velg relg
theorem MeaW_tr (tot k d : Int) (cv ov : Value) (cut oth : List Int) (hc : cv.oneCell' = true) (ho : ov.oneCell' = true) : Tr Try.prog 8 [.agg #[I tot, cv, ov], I k, I d] [vw cv (Is cut), vw ov (Is oth)] []
    (FW (meaW tot cut oth k d)) := by
  have hck := RwE_tr tot k cv ov cut oth hc ho
  by_cases hk : rwE tot cut oth k = 0
  rotate_left
  · unfold meaW
    rw [if_neg hk]
    generalize rwE tot cut oth k = e at *
    refine Tr.mono (R := fun u D => u = tup2 rv0 (I e) ∧ D = [own T64 nS (Us []), own T64 nS (Us [])]) ?_ fun u D h => FW.of0 h
    refine Tr.enter env _ Try.func8 (by kernel_rfl) rfl Try.ntmps8 rfl (by repeat (first | exact has00 | refine has01 ?_)) fun w0 => ?_
    repeat' first|(refine gca ?_; first|(refine ca hck ?_; rintro _ _ ⟨rfl, rfl⟩))|refine bx fun b => ?_|refine al fun b2 => ?_|refine lda ?_|refine bdm ?_|refine srz ?_|(refine wo ?_; first|(refine ao ?_; first|refine oa ?_)|refine oa ?_)|(refine gc ?_; first|(refine cn (fun hB => ?_) (fun hB => ?_) <;> try (exfalso; omega)))|refine sq ?_|refine rg ?_|refine xc ?_|refine nl ?_|refine rt ?_
    refine TX.im (own_nil T64 _) (TX.im (own_nil T64 _) ?_)
    exact rca (cs := [.bool false, nS, nS]) (vs := [.bool false, nS, nS]) (T := TRt) ⟨rfl, rfl⟩
  rw [hk] at hck
  obtain ⟨hE, k1, k2, k3⟩ := rwE_ok hk
  have hb := alE_bnd hE
  by_cases hd : d < 1 ∨ cut.length < d
  · unfold meaW
    rw [if_pos hk, if_pos hd]
    clear hk hE
    refine Tr.mono (R := fun u D => u = tup2 rv0 (I 3) ∧ D = [own T64 nS (Us []), own T64 nS (Us [])]) ?_ fun u D h => FW.of0 h
    refine Tr.enter env _ Try.func8 (by kernel_rfl) rfl Try.ntmps8 rfl (by repeat (first | exact has00 | refine has01 ?_)) fun w0 => ?_
    repeat' first|(refine gca ?_; first|(refine ca hck ?_; rintro _ _ ⟨rfl, rfl⟩))|refine bx fun b => ?_|refine al fun b2 => ?_|refine lda ?_|refine bdm ?_|refine srz ?_|(refine wo ?_; first|(refine ao ?_; first|refine oa ?_)|refine oa ?_|refine ld ?_|refine lnm ?_|refine gy ?_|refine gn ?_|(refine gsi (fun hB => ?_) (fun hB => ?_) <;> try (exfalso; omega)))|(refine gc ?_; first|refine ct ?_|refine cf ?_|(refine ci (fun hB => ?_) (fun hB => ?_) <;> try (exfalso; omega)))|refine sq ?_|refine rg ?_|refine xc ?_|refine nl ?_|refine sk ?_|refine rt ?_
    all_goals
      refine TX.im (own_nil T64 _) (TX.im (own_nil T64 _) ?_)
      exact rca (cs := [.bool false, nS, nS]) (vs := [.bool false, nS, nS]) (T := TRt) ⟨rfl, rfl⟩
  rw [meaW_ok hk hd]
  obtain ⟨kn, rfl⟩ : ∃ kn : Nat, k = kn := ⟨k.toNat, by omega⟩
  obtain ⟨dn, rfl⟩ : ∃ dn : Nat, d = dn := ⟨d.toNat, by omega⟩
  obtain ⟨tn, rfl⟩ : ∃ tn : Nat, tot = tn := ⟨tot.toNat, by omega⟩
  simp only [Int.toNat_natCast]
  have hF := Falling_tr kn dn (by omega) (by omega)
  have hfl := fall_len (n := kn) (by omega) dn
  have hfp := fall_pos (n := kn) (k := dn) (by omega)
  obtain ⟨f0, hf0⟩ : ∃ f0, f0 = fall kn dn := ⟨_, rfl⟩
  rw [← hf0] at hF hfl hfp ⊢
  have hG1 := fun v => NGrow_tr v (dg f0) cut.length (Dg_dg _) (by omega) (by omega)
  have hl2 := dg_grow_len (x := cut.length) hfl (by omega)
  have hG2 := fun v => NGrow_tr v (dg (f0 * cut.length)) tn (Dg_dg _) (by omega) (by omega)
  have hl3 := dg_grow_len (x := tn) hl2 (by omega)
  have hp3 : f0 * cut.length * tn ≠ 0 := Nat.mul_ne_zero (Nat.mul_ne_zero hfp (by omega)) (by omega)
  have hO := fun v => over1_tr v (dg (f0 * cut.length * tn)) (Dg_dg _) (by omega) (by rw [nv_dg]; exact hp3)
  simp only [nv_dg] at hG1 hG2 hO
  clear hk hE hf0 hfp hp3 hl2 hl3
  obtain ⟨f1, hf1⟩ : ∃ f1, f1 = f0 * cut.length := ⟨_, rfl⟩
  simp only [← hf1] at hG1 hG2 hO ⊢
  obtain ⟨f2, hf2⟩ : ∃ f2, f2 = f1 * tn := ⟨_, rfl⟩
  simp only [← hf2] at hG2 hO ⊢
  obtain ⟨q, hq⟩ : ∃ q, q = mkRat 1 f2 := ⟨_, rfl⟩
  simp only [← hq] at hO ⊢
  clear hq hf1 hf2
  unfold FQ at hO
  refine Tr.enter env _ Try.func8 (by kernel_rfl) rfl Try.ntmps8 rfl (by repeat (first | exact has00 | refine has01 ?_)) fun w0 => ?_
  repeat' first|(refine gca ?_; first|(refine ca hck ?_; rintro _ _ ⟨rfl, rfl⟩)|(refine ca hF ?_; rintro _ _ ⟨o, rfl, ho2, rfl⟩))|refine bx fun b => ?_|refine al fun b2 => ?_|refine lda ?_|(refine wo ?_; first|(refine ao ?_; first|refine oa ?_)|refine oa ?_|refine ld ?_|refine lnm ?_|refine gy ?_|(refine gsi (fun hB => ?_) (fun hB => ?_) <;> try (exfalso; omega)))|(refine gc ?_; first|refine cf ?_|(refine ci (fun hB => ?_) (fun hB => ?_) <;> try (exfalso; omega)))|refine sq ?_|refine rg ?_|refine xc ?_|refine nl ?_|refine sk ?_
  refine rs (fun w => w.heap[b]? = some (.cells [I tn, cv, ov].toArray TAl (0, 0)) ∧ Sl w cv (Is cut)) ?_ (fun w hw => ⟨pt_at (b := b) (cs := [I tn, cv, ov]) (T := TAl) (by (repeat (first | apply List.Mem.head | apply List.Mem.tail)); first | done | fail) hw, vw_sl (hw.h (vw cv (Is cut)) (by (repeat (first | apply List.Mem.head | apply List.Mem.tail)); first | done | fail))⟩)
  refine tka 0 ?_
  refine tka 1 ?_
  refine tkl 2 (cs := [I tn, cv, ov]) (fun w h => h.1) ?_
  refine tke 3 (v := I cut.length) (by rw [Is_len]) (fun w h => R_len (E := env) (xs := Is cut) rfl rfl h.2) ?_
  refine tk 4 (v := Un cut.length) (fun w h => R_ntuk (E := env) (m := cut.length) rfl rfl rfl (by omega)) ?_
  refine tka 6 ?_
  refine tkl 7 (cs := [I tn, cv, ov]) (fun w h => h.1) ?_
  refine tk 8 (v := Un tn) (fun w h => R_ntuk (E := env) (m := tn) rfl rfl rfl (by omega)) ?_
  refine t1 5 ?_
  refine ca (hG1 o) ?_
  rintro u1 _ ⟨hu1, rfl⟩
  refine nl ?_
  refine te (fun w hw => ⟨pt_at (b := b) (cs := [I tn, cv, ov]) (T := TAl) (by (repeat (first | apply List.Mem.head | apply List.Mem.tail)); first | done | fail) hw, vw_sl (hw.h (vw cv (Is cut)) (by (repeat (first | apply List.Mem.head | apply List.Mem.tail)); first | done | fail))⟩) ?_
  refine t1 9 ?_
  refine ca (hG2 u1) ?_
  rintro u2 _ ⟨hu2, rfl⟩
  refine nl ?_
  refine te (fun w hw => ⟨pt_at (b := b) (cs := [I tn, cv, ov]) (T := TAl) (by (repeat (first | apply List.Mem.head | apply List.Mem.tail)); first | done | fail) hw, vw_sl (hw.h (vw cv (Is cut)) (by (repeat (first | apply List.Mem.head | apply List.Mem.tail)); first | done | fail))⟩) ?_
  refine t1 10 ?_
  refine ca (hO u2) ?_
  rintro _ _ ⟨vn, vd, rfl, hvn, hvd, rfl⟩
  refine nl ?_
  refine te (fun w hw => ⟨pt_at (b := b) (cs := [I tn, cv, ov]) (T := TAl) (by (repeat (first | apply List.Mem.head | apply List.Mem.tail)); first | done | fail) hw, vw_sl (hw.h (vw cv (Is cut)) (by (repeat (first | apply List.Mem.head | apply List.Mem.tail)); first | done | fail))⟩) ?_
  refine t1 11 ?_
  refine srz ?_
  refine nl ?_
  refine te (fun w hw => ⟨pt_at (b := b) (cs := [I tn, cv, ov]) (T := TAl) (by (repeat (first | apply List.Mem.head | apply List.Mem.tail)); first | done | fail) hw, vw_sl (hw.h (vw cv (Is cut)) (by (repeat (first | apply List.Mem.head | apply List.Mem.tail)); first | done | fail))⟩) ?_
  refine tka 12 ?_
  refine t0 ?_
  repeat' first|refine xc ?_|refine rt ?_
  exact rca (cs := [.bool (decide (q.num < 0)), vn, vd]) (vs := [.bool (decide (q.num < 0)), vn, vd]) (T := TRt) ⟨vn, vd, rfl, hvn, hvd, rfl⟩
theorem ChaW_tr (s : Value) (t : List Int) (k d : Int) : Tr Try.prog 10 [s, I k, I d] [vw s (Is t)] [] (FW (chaW t k d)) := by
  have hck := SoCheck_tr s t k
  by_cases hk : solE t k = 0
  rotate_left
  · unfold chaW
    rw [if_neg hk]
    rw [(solE_cases t k).resolve_left hk] at hck
    refine Tr.mono (R := fun u D => u = tup2 rv0 (I 13) ∧ D = [own T64 nS (Us []), own T64 nS (Us [])]) ?_ fun u D h => FW.of0 h
    refine Tr.enter env _ Try.func10 (by kernel_rfl) rfl Try.ntmps10 rfl (by repeat (first | exact has00 | refine has01 ?_)) fun w0 => ?_
    repeat' first|(refine gca ?_; first|(refine ca hck ?_; rintro _ _ ⟨rfl, rfl⟩))|refine al fun b2 => ?_|refine bdm ?_|refine srz ?_|(refine wo ?_; first|(refine ao ?_; first|refine oa ?_)|refine oa ?_)|(refine gc ?_; first|refine ct ?_)|refine sq ?_|refine rg ?_|refine xc ?_|refine nl ?_|refine bk ?_|refine rt ?_
    refine TX.im (own_nil T64 _) (TX.im (own_nil T64 _) ?_)
    exact rca (cs := [.bool false, nS, nS]) (vs := [.bool false, nS, nS]) (T := TRt) ⟨rfl, rfl⟩
  rw [hk] at hck
  obtain ⟨⟨k1, k2⟩, ⟨t1, t2⟩, hw, hpos⟩ := solE_zero hk
  by_cases hd : d < 1 ∨ t.length < d
  · unfold chaW
    rw [if_pos hk, if_pos hd]
    clear hk hpos
    refine Tr.mono (R := fun u D => u = tup2 rv0 (I 3) ∧ D = [own T64 nS (Us []), own T64 nS (Us [])]) ?_ fun u D h => FW.of0 h
    refine Tr.enter env _ Try.func10 (by kernel_rfl) rfl Try.ntmps10 rfl (by repeat (first | exact has00 | refine has01 ?_)) fun w0 => ?_
    repeat' first|(refine gca ?_; first|(refine ca hck ?_; rintro _ _ ⟨rfl, rfl⟩))|refine al fun b2 => ?_|refine bdm ?_|refine srz ?_|(refine wo ?_; first|(refine ao ?_; first|refine oa ?_)|refine oa ?_|refine lnm ?_|refine gy ?_|refine gn ?_|(refine gsi (fun hB => ?_) (fun hB => ?_) <;> try (exfalso; omega)))|(refine gc ?_; first|refine ct ?_|refine cf ?_|(refine ci (fun hB => ?_) (fun hB => ?_) <;> try (exfalso; omega)))|refine sq ?_|refine rg ?_|refine xc ?_|refine nl ?_|refine bk ?_|refine rt ?_
    all_goals
      refine TX.im (own_nil T64 _) (TX.im (own_nil T64 _) ?_)
      exact rca (cs := [.bool false, nS, nS]) (vs := [.bool false, nS, nS]) (T := TRt) ⟨rfl, rfl⟩
  rw [show chaW t k d = (rqf (mkRat (t.getD (d - 1).toNat 0) (chs k.toNat d.toNat * t.sum.toNat)), 0) by unfold chaW; rw [if_pos hk, if_neg hd]]
  obtain ⟨kn, rfl⟩ : ∃ kn : Nat, k = kn := ⟨k.toNat, by omega⟩
  obtain ⟨dn, rfl⟩ : ∃ dn : Nat, d = dn := ⟨d.toNat, by omega⟩
  have hT := SoTotal_tr s t ⟨by omega, by omega⟩ hw
  have hsb := sum_wOk hw
  have hsp : 0 < t.sum := sum_posT hw hpos
  obtain ⟨tn, htn⟩ : ∃ tn : Nat, t.sum = tn := ⟨t.sum.toNat, by omega⟩
  rw [htn] at hT hsb hsp ⊢
  have hwb := hw (t.getD ((dn : Int) - 1).toNat 0) (mem_getD.2 ⟨_, by omega, rfl⟩)
  obtain ⟨wn, hwn⟩ : ∃ wn : Nat, t.getD ((dn : Int) - 1).toNat 0 = wn := ⟨(t.getD ((dn : Int) - 1).toNat 0).toNat, by omega⟩
  rw [hwn] at hwb ⊢
  simp only [Int.toNat_natCast]
  have hF := Choose_tr kn dn (by omega) (by omega)
  have hfl := chs_len kn dn
  have hfp := chs_pos (n := kn) (k := dn) (by omega)
  obtain ⟨f0, hf0⟩ : ∃ f0, f0 = chs kn dn := ⟨_, rfl⟩
  rw [← hf0] at hF hfl hfp ⊢
  have hG1 := fun v => NGrow_tr v (dg f0) tn (Dg_dg _) (by omega) (by omega)
  have hl2 := dg_grow_len (x := tn) hfl (by omega)
  have hp2 : f0 * tn ≠ 0 := Nat.mul_ne_zero hfp (by omega)
  have hw1 := dg_len1 (n := wn) (by omega)
  have hM := fun o => IMake_tr false o (dg wn) (Dg_dg wn) (by omega)
  have hs : sg false wn = (wn : Int) := rfl
  have hR := fun o dv => FMake_tr (wn : Int) o dv (dg (f0 * tn)) (Dg_dg _) (by unfold dz; rw [Int.natAbs_natCast]; omega) (by omega) (by rw [nv_dg]; exact hp2)
  simp only [nv_dg, hs] at hG1 hM hR
  unfold IR at hM
  unfold dz at hR
  simp only [Int.natAbs_natCast] at hM hR
  unfold FQ2 at hR
  clear hk hpos hf0 hfp hp2 hl2 hs hw
  obtain ⟨f1, hf1⟩ : ∃ f1, f1 = f0 * tn := ⟨_, rfl⟩
  simp only [← hf1] at hG1 hR ⊢
  obtain ⟨q, hq⟩ : ∃ q, q = mkRat (wn : Int) f1 := ⟨_, rfl⟩
  simp only [← hq] at hR ⊢
  clear hq hf1
  refine Tr.enter env _ Try.func10 (by kernel_rfl) rfl Try.ntmps10 rfl (by repeat (first | exact has00 | refine has01 ?_)) fun w0 => ?_
  repeat' first|(refine gca ?_; first|(refine ca hck ?_; rintro _ _ ⟨rfl, rfl⟩)|(refine ca hF ?_; rintro _ _ ⟨o, rfl, ho, rfl⟩)|(refine ca (Of_tr wn (by omega)) ?_; rintro o1 _ ⟨ho1, rfl⟩)|(refine ca (hM o1) ?_; rintro _ _ ⟨o2, rfl, ho2, rfl⟩)|(refine ca hT ?_; rintro _ _ ⟨rfl, rfl⟩)|(refine ca (hG1 o) ?_; rintro u1 _ ⟨hu1, rfl⟩)|(refine ca (hR o2 u1) ?_; rintro _ _ ⟨vn, vd, rfl, hvn, hvd, rfl⟩))|refine al fun b2 => ?_|(refine lie hwn ?_)|(refine ntu (m := (wn : Int)) ?_; rw [Int.toNat_natCast])|(refine ntu (m := (tn : Int)) ?_; rw [Int.toNat_natCast])|refine srz ?_|(refine wo ?_; first|(refine ao ?_; first|refine aw ?_|refine oa ?_)|refine oa ?_|refine lnm ?_|refine ixm ?_|refine gy ?_|(refine gsi (fun hB => ?_) (fun hB => ?_) <;> try (exfalso; omega)))|(refine gc ?_; first|refine cf ?_|(refine ci (fun hB => ?_) (fun hB => ?_) <;> try (exfalso; omega)))|refine sq ?_|refine rg ?_|refine xc ?_|refine nl ?_|refine sk ?_|refine bk ?_|refine rt ?_|refine xb ?_
  exact rca (cs := [.bool (decide (q.num < 0)), vn, vd]) (vs := [.bool (decide (q.num < 0)), vn, vd]) (T := TRt) ⟨vn, vd, rfl, hvn, hvd, rfl⟩
end Go.Art
set_option linter.unusedSimpArgs false
set_option linter.unusedVariables false
namespace Go.Art
open Go Go.Proofs Go.RowKit
attribute [local irreducible] Fit pt own ro vw mpc lpt vels rels mow lrc dfr
theorem SameInts_tr (a b : Value) (xs ys : List Int) : Tr Try.prog 26 [a, b] [vw a (Is xs), vw b (Is ys)] [] fun v D => v = .bool (decide (xs = ys)) ∧ D = [] := by
  refine Tr.enter env _ Try.func26 (by kernel_rfl) rfl Try.ntmps26 rfl (by repeat (first | exact has00 | refine has01 ?_)) fun w0 => ?_
  refine TC.leni (l := xs) fun hl => ?_
  repeat' first|(refine wo ?_; first|(refine ao ?_; first|refine oa ?_)|refine oa ?_|refine lnm ?_)|(refine gc ?_; first|(refine cn (fun hB => ?_) (fun hB => ?_) <;> try (exfalso; omega)))|refine sq ?_|refine rg ?_|refine xc ?_|refine nl ?_|refine sk ?_|refine bk ?_|refine rt ?_
  · refine r1 ⟨?_, rfl⟩
    rw [decide_eq_false]; intro e; subst e; omega
  · refine TC.loop (ι := Nat) (fun k => [(5, I k)]) (fun _ => []) (fun k => k ≤ xs.length ∧ ∀ j, j < k → xs.getD j 0 = ys.getD j 0) (fun k => xs.length - k) 0 [0, 1] ⟨by omega, by omega⟩ ?_
    rintro k ⟨hk, heq⟩
    repeat' first|(refine wo ?_; first|(refine ao ?_; first|refine aw ?_|refine oa ?_)|refine oa ?_|refine lnm ?_)|(refine gc ?_; first|(refine ci (fun hB => ?_) (fun hB => ?_) <;> try (exfalso; omega))|(refine cn (fun hB => ?_) (fun hB => ?_) <;> try (exfalso; omega)))|refine sq ?_|refine rg ?_|refine xc ?_|refine nl ?_|refine sk ?_|refine bk ?_|refine xe ?_|refine rt ?_|refine xb ?_|refine rq ?_|refine nq ?_|(refine wq ?_; first|(refine qao ?_; first|refine qa ?_)|refine qa ?_|refine qixmn ?_|refine qli ?_)
    · refine r1 ⟨?_, rfl⟩
      rw [decide_eq_false]; intro e; exact hB (by rw [e])
    · refine lp (k + 1) ⟨by omega, fun j hj => ?_⟩
      by_cases hjk : j < k
      · exact heq j hjk
      · obtain rfl : j = k := by omega
        assumption
    · refine r1 ⟨?_, rfl⟩
      rw [decide_eq_true]
      exact eq_of_getD (by omega) (fun j hj => heq j (by omega))

end Go.Art
set_option linter.unusedSimpArgs false
set_option linter.unusedVariables false
namespace Go.Art
open Go Go.Proofs Go.RowKit
theorem eq_of_getDN {xs ys : List Nat} (hl : xs.length = ys.length) (h : ∀ j, j < xs.length → xs.getD j 0 = ys.getD j 0) : xs = ys := by
  refine List.ext_getElem hl fun i h1 h2 => ?_
  have := h i h1
  simpa [List.getD_eq_getElem?_getD, h1, h2] using this
attribute [local irreducible] Fit pt own ro vw mpc lpt vels rels mow lrc dfr
attribute [local irreducible] lmp lme mit velg relg
theorem SameNat_tr (a b : Value) (xs ys : List Nat) : Tr Try.prog 47 [a, b] [vw a (Us xs), vw b (Us ys)] [] fun v D => v = .bool (decide (xs = ys)) ∧ D = [] := by
  refine Tr.enter env _ Try.func47 (by kernel_rfl) rfl Try.ntmps47 rfl (by repeat (first | exact has00 | refine has01 ?_)) fun w0 => ?_
  refine TC.lenu (l := xs) fun hl => ?_
  repeat' first|(refine wo ?_; first|(refine ao ?_; first|refine oa ?_)|refine oa ?_|refine lnm ?_)|(refine gc ?_; first|(refine cn (fun hB => ?_) (fun hB => ?_) <;> try (exfalso; omega)))|refine sq ?_|refine rg ?_|refine xc ?_|refine nl ?_|refine sk ?_|refine bk ?_|refine rt ?_
  · refine r1 ⟨?_, rfl⟩
    rw [decide_eq_false]; intro e; subst e; omega
  · refine TC.loop (ι := Nat) (fun k => [(5, I k)]) (fun _ => []) (fun k => k ≤ xs.length ∧ ∀ j, j < k → xs.getD j 0 = ys.getD j 0) (fun k => xs.length - k) 0 [0, 1] ⟨by omega, by omega⟩ ?_
    rintro k ⟨hk, heq⟩
    repeat' first|(refine wo ?_; first|(refine ao ?_; first|refine aw ?_|refine oa ?_)|refine oa ?_|refine lnm ?_)|(refine gc ?_; first|(refine ci (fun hB => ?_) (fun hB => ?_) <;> try (exfalso; omega))|(refine cn (fun hB => ?_) (fun hB => ?_) <;> try (exfalso; omega)))|refine sq ?_|refine rg ?_|refine xc ?_|refine nl ?_|refine sk ?_|refine bk ?_|refine xe ?_|refine rt ?_|refine xb ?_|refine rq ?_|refine nq ?_|(refine wq ?_; first|(refine qao ?_; first|refine qa ?_)|refine qlu ?_|refine qa ?_|refine qixmn ?_)
    · refine r1 ⟨?_, rfl⟩
      rw [decide_eq_false]; intro e; exact hB (by rw [e])
    · refine lp (k + 1) ⟨by omega, fun j hj => ?_⟩
      by_cases hjk : j < k
      · exact heq j hjk
      · obtain rfl : j = k := by omega
        omega
    · refine r1 ⟨?_, rfl⟩
      rw [decide_eq_true]
      exact eq_of_getDN (by omega) (fun j hj => heq j (by omega))
theorem SameWhole_tr (b1 b2 : Bool) (o1 o2 : Value) (l1 l2 : List Nat) : Tr Try.prog 46 [.agg #[.bool b1, o1], .agg #[.bool b2, o2]] [vw o1 (Us l1), vw o2 (Us l2)] [] fun v D => v = .bool (decide (b1 = b2 ∧ l1 = l2)) ∧ D = [] := by
  refine Tr.enter env _ Try.func46 (by kernel_rfl) rfl Try.ntmps46 rfl (by repeat (first | exact has00 | refine has01 ?_)) fun w0 => ?_
  repeat' first|(refine gca ?_; first|(refine ca (SameNat_tr o1 o2 l1 l2) ?_; rintro _ _ ⟨rfl, rfl⟩))|refine bx fun q => ?_|(refine wo ?_; first|(refine ao ?_; first|refine ibe ?_)|refine oa ?_|refine ld ?_|refine gy ?_|refine gn ?_|(refine gsi (fun hB => ?_) (fun hB => ?_) <;> try (exfalso; omega)))|refine sq ?_|refine rg ?_|refine xc ?_|refine nl ?_|refine rt ?_
  · have e : b1 = b2 := by simpa using hB
    refine r1 ⟨?_, rfl⟩
    congr 1; exact decide_eq_decide.2 ⟨fun h => ⟨e, h⟩, fun h => h.2⟩
  · have e : ¬ b1 = b2 := by simpa using hB
    refine r1 ⟨?_, rfl⟩
    rw [decide_eq_false fun h => e h.1]
theorem SameRatio_tr (t1 t2 : Fr3) (n1 d1 n2 d2 : Value) : Tr Try.prog 28 [.agg #[.bool t1.1, n1, d1], .agg #[.bool t2.1, n2, d2]] [vw n1 (Us t1.2.1), vw d1 (Us t1.2.2), vw n2 (Us t2.2.1), vw d2 (Us t2.2.2)] []
    fun v D => v = .bool (decide (t1 = t2)) ∧ D = [] := by
  obtain ⟨b1, x1, y1⟩ := t1
  obtain ⟨b2, x2, y2⟩ := t2
  dsimp only
  refine Tr.enter env _ Try.func28 (by kernel_rfl) rfl Try.ntmps28 rfl (by repeat (first | exact has00 | refine has01 ?_)) fun w0 => ?_
  repeat' first|(refine gca ?_; first|(refine ca (SameWhole_tr b1 b2 n1 n2 x1 x2) ?_; rintro _ _ ⟨rfl, rfl⟩)|(refine ca (SameNat_tr d1 d2 y1 y2) ?_; rintro _ _ ⟨rfl, rfl⟩))|refine bx fun q => ?_|refine lda ?_|(refine wo ?_; first|refine oa ?_|refine ld ?_|refine gy ?_|refine gn ?_|(refine gsi (fun hB => ?_) (fun hB => ?_) <;> try (exfalso; omega)))|refine sq ?_|refine rg ?_|refine xc ?_|refine nl ?_|refine rt ?_
  · refine r1 ⟨?_, rfl⟩
    congr 1; refine decide_eq_decide.2 ⟨fun h => by rw [hB.1, hB.2, h], fun h => by injection h with _ h; injection h⟩
  · refine r1 ⟨?_, rfl⟩
    rw [decide_eq_false fun h => hB (by injection h with h1 h; injection h with h2 _; exact ⟨h1, h2⟩)]
theorem LongAlias_tr (tot m : Int) (cv ov : Value) (cut oth : List Int) : Tr Try.prog 4 [.agg #[I tot, cv, ov], I m] [vw cv (Is cut), vw ov (Is oth)] [] fun v D => v = .bool (decide (m < cut.length ∨ m < oth.length)) ∧ D = [] := by
  refine Tr.enter env _ Try.func4 (by kernel_rfl) rfl Try.ntmps4 rfl (by repeat (first | exact has00 | refine has01 ?_)) fun w0 => ?_
  repeat' first|refine bx fun q => ?_|(refine wo ?_; first|(refine ao ?_; first|refine oa ?_)|refine oa ?_|refine ld ?_|refine lnm ?_|refine gy ?_|refine gn ?_|(refine gsi (fun hB => ?_) (fun hB => ?_) <;> try (exfalso; omega)))|refine sq ?_|refine rg ?_|refine xc ?_|refine nl ?_|refine rt ?_
  · refine r1 ⟨?_, rfl⟩
    rw [decide_eq_true (.inl hB)]
  · refine r1 ⟨?_, rfl⟩
    congr 1; exact decide_eq_decide.2 ⟨.inr, fun h => h.resolve_left hB⟩
end Go.Art
set_option linter.unusedSimpArgs false
set_option linter.unusedVariables false
namespace Go.Art
open Go Go.Proofs Go.RowKit
theorem srt_id {xs : List Int} (h : xs.Pairwise (· ≤ ·)) : srt xs = xs := ((srt_perm xs)).eq_of_pairwise (fun a b _ _ h1 h2 => by omega) (srt_sorted xs) h
theorem pickO_of {k d : Int} {x : Lw} {l : List Int} (h : (ordO k d x).1 = (l, 0)) (hs : l.Pairwise (· ≤ ·)) : pickO k d x = (l, 0) := by
  unfold pickO; rw [h, srt_id hs]
theorem setW_of {tot : Int} {cut oth : List Int} {k : Int} {x : Lw} {at1 : Int} {x2 : Lw} {l : List Int} (h1 : rwE tot cut oth k = 0) (h2 : (plcW tot cut oth x).1 = (at1, 0)) (h3 : (plcW tot cut oth x).2.1 = x2) (h4 : (ordO k (at1 + 1) x2).1 = (l, 0)) (hs : l.Pairwise (· ≤ ·)) : (setW tot cut oth k x).1 = (l, 0) := by
  unfold setW
  rw [if_pos h1, h2, if_pos rfl, h3]
  exact pickO_of h4 hs
theorem few1 : (setW 4 [2, 4] [1, 1] 3 (.inr ([0, 1, 2], false))).1 = ([2], 0) := setW_of (at1 := 0) (x2 := .inr ([2], false)) (by decide) (by decide) (by kernel_rfl) (by decide) (by simp)
theorem few2 : (setW 4 [2, 4] [1, 1] 3 (.inr ([0, 2, 0, 1], false))).1 = ([0, 2], 0) := setW_of (at1 := 1) (x2 := .inr ([0, 1], false)) (by decide) (by decide) (by kernel_rfl) (by decide) (by simp)
theorem mea1 : meaW 4 [2, 4] [1, 1] 3 2 = (rqf (mkRat 1 48), 0) := by
  rw [meaW_ok (by decide) (by decide)]; rfl
theorem cha1 : chaW [1, 3] 3 1 = (rqf (mkRat 1 12), 0) := by
  unfold chaW; rw [if_pos (by decide), if_neg (by decide)]; rfl
attribute [local irreducible] Fit pt own ro vw mpc lpt vels rels mow lrc dfr
attribute [local irreducible] lmp lme mit velg relg
theorem few_tr : Tr Try.prog 9 [] [] [] fun v D => ∃ c o, v = .agg #[I 4, c, o] ∧ c.oneCell' = true ∧ o.oneCell' = true ∧ D = [own TLI c (Is [2, 4]), own TLI o (Is [1, 1])] := by
  refine Tr.enter env _ Try.func9 (by kernel_rfl) rfl Try.ntmps9 rfl (by repeat (first | exact has00 | refine has01 ?_)) fun w0 => ?_
  repeat' first|refine al fun q => ?_|refine slz fun v hv => ?_|refine bdz ?_|refine srz ?_|refine sq ?_|refine rg ?_|refine xc ?_|refine nl ?_|refine rt ?_
  rename_i c hc
  exact rca1 (cs := [I 4, c, v]) (vs := [I 4, c, v]) (T := TAl) ⟨c, v, rfl, hc, hv, rfl⟩
theorem draws_tr (k e : Int) (lv wv : Value) (l want : List Int) (hl : l.length ≤ 1000) : Tr Try.prog 11 [I k, lv, I e, wv] [vw lv (Is l), vw wv (Is want)] []
    fun v D => v = .bool (decide ((setW 4 [2, 4] [1, 1] k (.inr (l, false))).1 = (want, e))) ∧ D = [] := by
  have hS := fun b r sv c o hc ho => SetW_tr 4 k c o [2, 4] [1, 1] b r sv (.inr (l, false)) (okL_row l false) hc ho
  generalize setW 4 [2, 4] [1, 1] k (.inr (l, false)) = sw at *
  obtain ⟨⟨s, f⟩, x2, u2⟩ := sw
  dsimp only at hS ⊢
  refine Tr.enter env _ Try.func11 (by kernel_rfl) rfl Try.ntmps11 rfl (by repeat (first | exact has00 | refine has01 ?_)) fun w0 => ?_
  repeat' first|(refine gca ?_; first|(refine ca few_tr ?_; rintro _ _ ⟨c, o, rfl, hc, ho, rfl⟩)|(refine ca (LRow_tr lv l (by omega)) ?_; rintro _ _ ⟨b, r, sv, rfl, rfl⟩)|(refine ca (hS b r sv c o hc ho) ?_; rintro _ _ ⟨so, sv2, rfl, rfl⟩)|(refine ca (SameInts_tr so wv s want) ?_; rintro _ _ ⟨rfl, rfl⟩))|(refine wo ?_; first|(refine ao ?_; first|refine oa ?_)|refine oa ?_|refine gy ?_|refine gn ?_|(refine gsi (fun hB => ?_) (fun hB => ?_) <;> try (exfalso; omega)))|refine sq ?_|refine rg ?_|refine xc ?_|refine nl ?_|refine rt ?_
  · refine r1 ⟨?_, rfl⟩
    congr 1; exact decide_eq_decide.2 ⟨fun h => by rw [h, hB], fun h => by injection h⟩
  · refine r1 ⟨?_, rfl⟩
    rw [decide_eq_false fun h => hB (by injection h)]
theorem is_tr (t : Fr3) (e : Int) (n1 d1 : Value) (x y : Nat) (hx : x < 9223372036854775808) (hy : y < 9223372036854775808) (hy0 : y ≠ 0) : Tr Try.prog 12 [.agg #[.bool t.1, n1, d1], I e, I x, I y] [vw n1 (Us t.2.1), vw d1 (Us t.2.2)] []
    fun v D => v = .bool (decide (e = 0 ∧ t = rqf (mkRat x y))) ∧ D = [] := by
  have hP := FPair_tr x y hx hy hy0
  unfold FQ2 at hP
  have hl : 0 < (dg (mkRat (x : Int) y).den).length := by have := dg_len_pos (mkRat (x : Int) y).den_nz; omega
  generalize mkRat (x : Int) y = q at *
  refine Tr.enter env _ Try.func12 (by kernel_rfl) rfl Try.ntmps12 rfl (by repeat (first | exact has00 | refine has01 ?_)) fun w0 => ?_
  repeat' first|(refine gca ?_; first|(refine ca hP ?_; rintro _ _ ⟨vn, vd, rfl, hvn, hvd, rfl⟩)|(refine ca (SameRatio_tr t (rqf q) n1 d1 vn vd) ?_; rintro _ _ ⟨rfl, rfl⟩))|refine bx fun b1 => ?_|refine al fun b2 => ?_|refine lda ?_|refine srz ?_|(refine wo ?_; first|(refine ao ?_; first|refine oa ?_)|refine oa ?_|refine ld ?_|refine lnm ?_|refine gy ?_|refine gn ?_|(refine gsi (fun hB => ?_) (fun hB => ?_) <;> try (exfalso; omega)))|refine sq ?_|refine rg ?_|refine xc ?_|refine nl ?_|refine rt ?_
  · refine r1 ⟨?_, rfl⟩
    congr 1; exact decide_eq_decide.2 ⟨fun h => ⟨by assumption, h⟩, fun h => h.2⟩
  · refine r1 ⟨?_, rfl⟩
    rw [decide_eq_false fun h => absurd h.1 (by assumption)]
theorem awake_tr : Tr Try.prog 5 [] [] [] fun v D => v = .bool true ∧ D = [] := by
  have hM := fun c o hc ho => MeaW_tr 4 3 2 c o [2, 4] [1, 1] hc ho
  have hC := fun s => ChaW_tr s [1, 3] 3 1
  simp only [mea1] at hM
  simp only [cha1] at hC
  unfold FW at hM hC
  dsimp only at hM hC
  have hI1 := fun n1 d1 => is_tr (rqf (mkRat 1 48)) 0 n1 d1 1 48 (by decide) (by decide) (by decide)
  have hI2 := fun n1 d1 => is_tr (rqf (mkRat 1 12)) 0 n1 d1 1 12 (by decide) (by decide) (by decide)
  simp only [show ((1 : Nat) : Int) = 1 from rfl, and_self, decide_true] at hI1 hI2
  have hD1 := fun lv wv => draws_tr 3 0 lv wv [0, 1, 2] [2] (by decide)
  have hD2 := fun lv wv => draws_tr 3 0 lv wv [0, 2, 0, 1] [0, 2] (by decide)
  rw [few1] at hD1
  rw [few2] at hD2
  simp only [decide_true] at hD1 hD2
  generalize mkRat 1 48 = q1 at *
  generalize mkRat 1 12 = q2 at *
  refine Tr.enter env _ Try.func5 (by kernel_rfl) rfl Try.ntmps5 rfl (by repeat (first | exact has00 | refine has01 ?_)) fun w0 => ?_
  repeat' first|(refine gca ?_; first|(refine ca few_tr ?_; rintro _ _ ⟨c, o, rfl, hc, ho, rfl⟩)|(refine ca (hM c o hc ho) ?_; rintro _ _ ⟨n1, d1, rfl, hn1, hd1, rfl⟩)|(refine ca (hC _) ?_; rintro _ _ ⟨n2, d2, rfl, hn2, hd2, rfl⟩)|(refine ca (hD1 _ _) ?_; rintro _ _ ⟨rfl, rfl⟩)|(refine ca (hD2 _ _) ?_; rintro _ _ ⟨rfl, rfl⟩)|(refine ca (hI1 n1 d1) ?_; rintro _ _ ⟨rfl, rfl⟩)|(refine ca (hI2 n2 d2) ?_; rintro _ _ ⟨rfl, rfl⟩))|refine slz fun v hv => ?_|refine al fun b1 => ?_|refine srz ?_|refine lda ?_|(refine wo ?_; first|refine oa ?_|refine gy ?_)|refine sq ?_|refine rg ?_|refine xc ?_|refine nl ?_|refine rt ?_
  exact r1 ⟨rfl, rfl⟩
end Go.Art
set_option linter.unusedSimpArgs false
set_option linter.unusedVariables false
namespace Go.Art
open Go Go.RowKit

def adr (v : Value) (m : Nat) : Addr := (addrAt v 0).add m
def SlW (w : World) (v : Value) (n : Nat) (xs : List Value) : Prop :=
  ∃ a cap, v = .slice a n cap ∧ n ≤ cap ∧ cap ≤ maxLen ∧ (0 < n → ∃ x, a = some x) ∧ ∀ i u, xs[i]? = some u → ∃ x, a = some x ∧ w.cell? (x.add i) = some u
theorem add_block (x : Addr) (i : Nat) : (x.add i).block = x.block := by unfold Addr.add; split <;> rfl
def vwf (v : Value) (n : Nat) (xs : List Value) : Ch where
  wr := fun _ => False
  rd := fun _ => False
  bd := fun x => xs ≠ [] ∧ v.ownBlock = some x
  P := fun w => SlW w v n xs
  loc := fun {w w'} h hb => by
    obtain ⟨a, cap, rfl, h1, h2, h0, h3⟩ := h
    refine ⟨a, cap, rfl, h1, h2, h0, fun i u hi => ?_⟩
    obtain ⟨x, rfl, hx⟩ := h3 i u hi
    exact ⟨x, rfl, (World.cell?_of_block (by rw [add_block]; exact hb _ (.inr (.inr ⟨by rintro rfl; simp at hi, rfl⟩)))).trans hx⟩
  lt := fun {w b} h hb => by
    rcases hb with hb | hb | ⟨h4, h5⟩
    · exact hb.elim
    · exact hb.elim
    · obtain ⟨a, cap, rfl, h1, h2, h0, h3⟩ := h
      cases xs with
      | nil => exact absurd rfl h4
      | cons u r =>
        obtain ⟨x, rfl, hx⟩ := h3 0 u rfl
        have := World.block_lt_of_cell? w _ hx
        rw [add_block] at this
        simp only [Value.ownBlock, Option.some.injEq] at h5
        rw [← h5]; exact this
instance (v : Value) (n : Nat) (xs : List Value) : Lent (vwf v n xs) := ⟨fun _ => ⟨fun h => h, fun h => h⟩⟩
theorem flat_row : ∀ {rs : List (List Value)} {sz : Nat}, (∀ r ∈ rs, r.length = sz) → ∀ {i : Nat} {r : List Value}, rs[i]? = some r → (rs.flatten.drop (sz * i)).take sz = r
  | [], _, _, i, r, h => by simp at h
  | a :: rs, sz, hl, 0, r, h => by
    simp at h; subst h
    have := hl a (by simp)
    simp [List.take_append, this, List.take_of_length_le]
  | a :: rs, sz, hl, i + 1, r, h => by
    have ha := hl a (by simp)
    have ih := flat_row (rs := rs) (sz := sz) (fun r hr => hl r (by simp [hr])) (i := i) (r := r) (by simpa using h)
    rw [List.flatten_cons, show sz * (i + 1) = a.length + sz * i by rw [ha, Nat.mul_succ]; omega, List.drop_append, List.drop_eq_nil_of_le (by omega), List.nil_append, Nat.add_sub_cancel_left]
    exact ih
section
variable {P : Program} {E : Env P} {n : Sh} {X : Cx} {s : List K} {fr : Fr} {A A' : List Ch} {ops : Array Oper} {rest : List Oper} {d m N sz by_ : Nat} {ty t el : TypeId} {pos : String} {after : Array Edge} {v u z : Value} {x y : Operand} {xs vs : List Value} {dt : TypeDesc} {k1 : IntKind} {w : World} {fs : Array Field} {f : Nat} {fld : Field}
end
end Go.Art
set_option linter.unusedSimpArgs false
set_option linter.unusedVariables false
namespace Go.Art
open Go Go.RowKit
section
variable {H : Type} {enc : TypeId × Value → H} {P : Program} {w : World} {base fuel : Nat} {t e : TypeId} {k : IntKind} {cs : List Value} {x : DataW H × List MemPlace}
theorem Env.cells (E : Env P) {z : Value} {s b : Nat} (h : lk E.inf t = some (z, s, b)) : P.cellsOf t = s := by
  obtain ⟨i, h1, _, h2, _⟩ := E.info h
  simp [Program.cellsOf, h1, h2]
theorem leaf_int (E : Env P) (h : DataW.trod enc P w base (fun _ => true) true fuel t cs = some x) (ht : lk E.und t = some (.int k) := by rfl) : ∃ n, cs = [.int k n] ∧ (Lit.int k n).wf = true := by
  obtain ⟨n, h1, _, h2⟩ := DataW.trod_int (E.un ht) h
  exact ⟨n, h1, h2⟩
theorem leaf_field (E : Env P) {fs : Array Field} (h : DataW.trod enc P w base (fun _ => true) true fuel t cs = some x) (ht : lk E.und t = some (.struct fs) := by rfl) {i : Nat} {f : Field} {z : Value} {s b : Nat} (hf : fs[i]? = some f) (he : lk E.inf f.type = some (z, s, b)) :
    ∃ n y, DataW.trod enc P w base (fun _ => true) true n f.type ((cs.drop f.offset).take s) = some y := by
  obtain ⟨xs, n, _, _, _, hl, hx⟩ := DataW.trod_struct (E.un ht) h
  have h1 := hx i f hf
  rw [E.cells he] at h1
  have : i < xs.length := by rw [hl]; exact (Array.getElem?_eq_some_iff.1 hf).1
  exact ⟨n, xs[i], by rw [h1, List.getElem?_eq_getElem this]⟩
theorem leaf_len (E : Env P) {fs : Array Field} (h : DataW.trod enc P w base (fun _ => true) true fuel t cs = some x) (ht : lk E.und t = some (.struct fs) := by rfl) {z : Value} {s b : Nat} (he : lk E.inf t = some (z, s, b)) : cs.length = s := by
  obtain ⟨xs, n, _, _, h1, _⟩ := DataW.trod_struct (E.un ht) h
  rw [h1, E.cells he]
theorem leaf_row (E : Env P) (h : DataW.trod enc P w base (fun _ => true) true fuel t cs = some x) {z : Value} {b : Nat} (ht : lk E.und t = some (.slice e) := by rfl) (he : lk E.und e = some (.int k) := by rfl) (hc : lk E.inf e = some (z, 1, b) := by rfl) :
    ∃ (v : Value) (l : List Int), cs = [v] ∧ Sl w v (l.map (.int k)) ∧ (∀ n ∈ l, (Lit.int k n).wf = true) ∧ v.oneCell' = true := by
  rcases Go.ChangeShapes.open_ints (E.un ht) (E.un he) (E.cells hc) h with ⟨rfl, _⟩ | ⟨a, len, cap, zs, rfl, _, hl, hm, hz, _, hcell, hw⟩
  · exact ⟨_, [], rfl, Sl.nil w, by simp, rfl⟩
  · simp only [if_true] at hz
    refine ⟨_, zs.take len, rfl, ⟨some a, cap, by simp; omega, by simp; omega, hm, fun i u hi => ⟨a, rfl, ?_⟩⟩, fun n hn => hw n (List.mem_of_mem_take hn), rfl⟩
    have hlt : i < len ∧ i < zs.length := by
      have := (List.getElem?_eq_some_iff.1 hi).1
      simp at this; omega
    rw [hcell i hlt.2]
    simp [hlt.1, hlt.2] at hi
    rw [← hi]; simp [List.getD_eq_getElem?_getD, hlt.2]
theorem wide_agg (E : Env P) {fs : Array Field} {r : Reach} {v : Value} (h : Value.okWide P w r base t v) (ht : lk E.und t = some (.struct fs) := by rfl) : ∃ cs, v = .agg cs := by
  unfold Value.okWide at h
  rw [E.un ht] at h
  obtain ⟨cs, rfl, _⟩ := h
  exact ⟨cs, rfl⟩
end
end Go.Art
set_option linter.unusedSimpArgs false
set_option linter.unusedVariables false
namespace Go.Art
open Go Go.Proofs Go.RowKit
def InAl (w : World) (v : Value) : Prop :=
  ∃ (tot : Int) (cv ov : Value) (cut oth : List Int), v = .agg #[I tot, cv, ov] ∧ cv.oneCell' = true ∧ ov.oneCell' = true ∧ Sl w cv (Is cut) ∧ Sl w ov (Is oth)
set_option maxRecDepth 20000 in
theorem inAl_of {H : Type} {enc : TypeId × Value → H} {w : World} {r : Reach} {base : Nat} {v : Value} {d : DataW H} {ps : List MemPlace} (hv : Value.okWide Try.prog w r base 24 v)
    (h : DataW.Trod enc Try.prog w 0 (fun _ => true) true 24 v d ps) : InAl w v := by
  obtain ⟨cs, rfl⟩ := wide_agg env hv
  obtain ⟨fuel, h⟩ := h
  have h : DataW.trod enc Try.prog w 0 (fun _ => true) true fuel 24 cs.toList = some (d, ps) := h
  have hl := leaf_len env h rfl rfl
  have hc : cs = cs.toList.toArray := by simp
  rw [hc]
  generalize cs.toList = l at *
  match l, hl with
  | [c0, c1, c2], _ =>
    obtain ⟨_, _, g0⟩ := leaf_field env h (i := 0) rfl rfl rfl
    obtain ⟨_, _, g1⟩ := leaf_field env h (i := 1) rfl rfl rfl
    obtain ⟨_, _, g2⟩ := leaf_field env h (i := 2) rfl rfl rfl
    obtain ⟨tot, e0, b0⟩ := leaf_int env g0
    obtain ⟨cv, cut, e1, s1, b1, o1⟩ := leaf_row env g1
    obtain ⟨ov, oth, e2, s2, b2, o2⟩ := leaf_row env g2
    injection e0 with e0; injection e1 with e1; injection e2 with e2
    subst e0 e1 e2
    exact ⟨tot, c1, c2, cut, oth, rfl, o1, o2, s1, s2⟩
end Go.Art
set_option linter.unusedSimpArgs false
set_option linter.unusedVariables false
namespace Go.Art
open Go Go.RowKit

structure SatL (A : List Ch) (w : World) : Prop where
  s : Sat A w
  l : ∀ c ∈ A, ∀ b, ¬ c.wr b
theorem SatL.nil (w : World) : SatL [] w := ⟨Sat.nil w, fun _ h => nomatch h⟩
theorem SatL.cons {c : Ch} {A : List Ch} {w : World} [hc : Lent c] (h : c.P w) (k : SatL A w) : SatL (c :: A) w :=
  ⟨Sat.cons.2 ⟨h, fun a ha => ⟨fun b hb => absurd hb (hc.lent b).1, fun b hb => absurd hb (k.l a ha b)⟩, k.s⟩, fun x hx b => by rcases List.mem_cons.1 hx with rfl | hx; exact (hc.lent b).1; exact k.l x hx b⟩

structure IsMat (k : IntKind) (w : World) (v : Value) (hs : List Value) (ls : List (List Int)) : Prop where
  sl : Sl w v hs
  len : hs.length = ls.length
  el : ∀ i, i < ls.length → Sl w (hs.getD i nS) ((ls.getD i []).map (.int k)) ∧ ∀ n ∈ ls.getD i [], (Lit.int k n).wf = true
theorem getD_map_range {α : Type} (f : Nat → α) (n i : Nat) (z : α) (h : i < n) : ((List.range n).map f).getD i z = f i := by simp [List.getD_eq_getElem?_getD, h]
theorem isMat_of {H : Type} {enc : TypeId × Value → H} {P : Program} {w : World} {base fuel : Nat} {t e q : TypeId} {k : IntKind} {a : Option Addr} {len cap : Nat} {x : DataW H × List MemPlace} (ht : P.underlying t = some (.slice e)) (he : P.underlying e = some (.slice q)) (hq : P.underlying q = some (.int k))
    (ce : P.cellsOf e = 1) (cq : P.cellsOf q = 1) (h : DataW.trod enc P w base (fun _ => true) true fuel t [.slice a len cap] = some x) : ∃ hs ls, IsMat k w (.slice a len cap) hs ls := by
  rcases Deep.open_int_rows ht he hq ce cq h with ⟨hcs, _⟩ | ⟨ad, l, c, A, L, C, Z, hcs, _, hl, hm, _, hr⟩
  · injection hcs with hcs; injection hcs with h1 h2 h3
    subst h1 h2 h3
    exact ⟨[], [], Sl.nil w, rfl, fun i hi => by simp at hi⟩
  · injection hcs with hcs; injection hcs with h1 h2 h3
    subst h1 h2 h3
    refine ⟨(List.range len).map fun r => .slice (A r) (L r) (C r), (List.range len).map fun r => (Z r).take (L r), ?_, by simp, fun i hi => ?_⟩
    · refine ⟨some ad, cap, by simp, by simpa using hl, hm, fun i u hi => ⟨ad, rfl, ?_⟩⟩
      simp only [List.getElem?_map, Option.map_eq_some_iff] at hi
      obtain ⟨r, hr1, rfl⟩ := hi
      have : i < len := by
        have := (List.getElem?_eq_some_iff.1 hr1).1
        simpa using this
      rw [List.getElem?_range this] at hr1; cases hr1
      exact (hr i (by omega)).1
    · have hi' : i < len := by simpa using hi
      obtain ⟨_, h4, h5, h6, h7, h8, h9⟩ := hr i (by omega)
      rw [getD_map_range _ _ _ _ hi', getD_map_range _ _ _ _ hi']
      refine ⟨?_, fun n hn => h7 n (List.mem_of_mem_take hn)⟩
      cases hA : A i with
      | none =>
        have hc := h8 hA
        have hz : Z i = [] := List.eq_nil_of_length_eq_zero (by omega)
        have h0 : L i = 0 := by omega
        rw [hz, hc, h0]; exact Sl.nil w
      | some a' =>
        refine ⟨some a', C i, by simp; omega, by simp; omega, h5, fun j u hj => ⟨a', rfl, ?_⟩⟩
        simp only [List.getElem?_map, Option.map_eq_some_iff] at hj
        obtain ⟨z, hz1, rfl⟩ := hj
        rw [List.getElem?_take] at hz1
        split at hz1
        · rw [(h9 a' hA).2 j (by omega)]
          simp [List.getD_eq_getElem?_getD, hz1]
        · cases hz1
end Go.Art
set_option linter.unusedSimpArgs false
set_option linter.unusedVariables false
namespace Go.Art
open Go Go.Proofs Go.RowKit
attribute [local irreducible] Fit pt own ro vw mpc lpt vels rels mow lrc dfr
attribute [local irreducible] lmp lme mit velg relg
abbrev loN (b : Nat) : Ch := lpt b [.nilIface, I 0, .bool false] TLo
theorem noneN_tr : Tr Try.prog 49 [.pointer none] [] [] fun v D => v = .bool true ∧ D = [] := by
  refine Tr.enter env _ Try.func49 (by kernel_rfl) rfl Try.ntmps49 rfl (by repeat (first | exact has00 | refine has01 ?_)) fun w0 => ?_
  repeat' first|refine ife ?_|refine ifn ?_|(refine wo ?_; first|(refine ao ?_; first|refine ipe ?_)|refine oa ?_|refine gn ?_)|refine sq ?_|refine rg ?_|refine xc ?_|refine nl ?_|refine rt ?_
  exact r1 ⟨rfl, rfl⟩
theorem noneZ_tr (b : Nat) : Tr Try.prog 49 [ptr b] [loN b] [] fun v D => v = .bool true ∧ D = [] := by
  refine Tr.enter env _ Try.func49 (by kernel_rfl) rfl Try.ntmps49 rfl (by repeat (first | exact has00 | refine has01 ?_)) fun w0 => ?_
  repeat' first|refine ife ?_|refine ifn ?_|(refine wo ?_; first|(refine ao ?_; first|refine ipe ?_)|refine oa ?_|refine ldl ?_|refine gy ?_)|refine sq ?_|refine rg ?_|refine xc ?_|refine nl ?_|refine rt ?_
  exact r1 ⟨rfl, rfl⟩
theorem DrawN_tr (n : Int) : Tr Try.prog 32 [.pointer none, I n] [] [] fun v D => v = tup2 (I 0) (I 1) ∧ D = [] := by
  refine Tr.enter env _ Try.func32 (by kernel_rfl) rfl Try.ntmps32 rfl (by repeat (first | exact has00 | refine has01 ?_)) fun w0 => ?_
  repeat' first|(refine gca ?_; first|(refine ca noneN_tr ?_; rintro _ _ ⟨rfl, rfl⟩))|(refine wo ?_; first|refine oa ?_)|(refine gc ?_; first|refine ct ?_)|refine sq ?_|refine rg ?_|refine xc ?_|refine nl ?_|refine bk ?_|refine rt ?_
  exact r2 ⟨rfl, rfl⟩
theorem DrawZ_tr (b : Nat) (n : Int) : Tr Try.prog 32 [ptr b, I n] [loN b] [] fun v D => v = tup2 (I 0) (I 1) ∧ D = [] := by
  refine Tr.enter env _ Try.func32 (by kernel_rfl) rfl Try.ntmps32 rfl (by repeat (first | exact has00 | refine has01 ?_)) fun w0 => ?_
  repeat' first|(refine gca ?_; first|(refine ca (noneZ_tr b) ?_; rintro _ _ ⟨rfl, rfl⟩))|(refine wo ?_; first|refine oa ?_)|(refine gc ?_; first|refine ct ?_)|refine sq ?_|refine rg ?_|refine xc ?_|refine nl ?_|refine bk ?_|refine rt ?_
  exact r2 ⟨rfl, rfl⟩
def noE (tot : Int) (cut oth : List Int) (k : Int) : Int := if rwE tot cut oth k = 0 then 1 else rwE tot cut oth k
theorem SetN_tr (tot k : Int) (cv ov : Value) (cut oth : List Int) (hc : cv.oneCell' = true) (ho : ov.oneCell' = true) : Tr Try.prog 7 [.agg #[I tot, cv, ov], I k, .pointer none] [vw cv (Is cut), vw ov (Is oth)] []
    fun v D => v = tup2 nS (I (noE tot cut oth k)) ∧ D = [] := by
  have hck := RwE_tr tot k cv ov cut oth hc ho
  have hp : Tr Try.prog 14 [.agg #[I tot, cv, ov], .pointer none] [vw cv (Is cut), vw ov (Is oth)] [] fun v D => v = tup2 (I 0) (I 1) ∧ D = [] := by
    refine Tr.enter env _ Try.func14 (by kernel_rfl) rfl Try.ntmps14 rfl (by repeat (first | exact has00 | refine has01 ?_)) fun w0 => ?_
    repeat' first|(refine gca ?_; first|(refine ca (DrawN_tr _) ?_; rintro _ _ ⟨rfl, rfl⟩))|refine bx fun q => ?_|(refine wo ?_; first|(refine ao ?_; first|refine oa ?_)|refine oa ?_|refine ld ?_|refine lnm ?_)|(refine gc ?_; first|refine ct ?_)|refine sq ?_|refine rg ?_|refine xc ?_|refine nl ?_|refine rt ?_
    exact r2 ⟨rfl, rfl⟩
  unfold noE
  by_cases he : rwE tot cut oth k = 0
  · rw [he] at hck
    rw [if_pos he]
    refine Tr.enter env _ Try.func7 (by kernel_rfl) rfl Try.ntmps7 rfl (by repeat (first | exact has00 | refine has01 ?_)) fun w0 => ?_
    repeat' first|(refine gca ?_; first|(refine ca hck ?_; rintro _ _ ⟨rfl, rfl⟩)|(refine ca hp ?_; rintro _ _ ⟨rfl, rfl⟩))|refine bx fun q => ?_|refine lda ?_|(refine wo ?_; first|(refine ao ?_; first|refine oa ?_)|refine oa ?_)|(refine gc ?_; first|refine ct ?_|refine cf ?_)|refine sq ?_|refine rg ?_|refine xc ?_|refine nl ?_|refine sk ?_|refine rt ?_
    exact r2 ⟨rfl, rfl⟩
  · rw [if_neg he]
    generalize rwE tot cut oth k = e at *
    refine Tr.enter env _ Try.func7 (by kernel_rfl) rfl Try.ntmps7 rfl (by repeat (first | exact has00 | refine has01 ?_)) fun w0 => ?_
    repeat' first|(refine gca ?_; first|(refine ca hck ?_; rintro _ _ ⟨rfl, rfl⟩))|refine bx fun q => ?_|refine lda ?_|(refine wo ?_; first|(refine ao ?_; first|refine oa ?_)|refine oa ?_)|(refine gc ?_; first|(refine cn (fun hB => ?_) (fun hB => ?_) <;> try (exfalso; omega)))|refine sq ?_|refine rg ?_|refine xc ?_|refine nl ?_|refine rt ?_
    exact r2 ⟨rfl, rfl⟩
theorem SetZ_tr (tot k : Int) (cv ov : Value) (cut oth : List Int) (b : Nat) (hc : cv.oneCell' = true) (ho : ov.oneCell' = true) : Tr Try.prog 7 [.agg #[I tot, cv, ov], I k, ptr b] [vw cv (Is cut), vw ov (Is oth), loN b] []
    fun v D => v = tup2 nS (I (noE tot cut oth k)) ∧ D = [] := by
  have hck := RwE_tr tot k cv ov cut oth hc ho
  have hp : Tr Try.prog 14 [.agg #[I tot, cv, ov], ptr b] [vw cv (Is cut), vw ov (Is oth), loN b] [] fun v D => v = tup2 (I 0) (I 1) ∧ D = [] := by
    refine Tr.enter env _ Try.func14 (by kernel_rfl) rfl Try.ntmps14 rfl (by repeat (first | exact has00 | refine has01 ?_)) fun w0 => ?_
    repeat' first|(refine gca ?_; first|(refine ca (DrawZ_tr b _) ?_; rintro _ _ ⟨rfl, rfl⟩))|refine bx fun q => ?_|(refine wo ?_; first|(refine ao ?_; first|refine oa ?_)|refine oa ?_|refine ld ?_|refine lnm ?_)|(refine gc ?_; first|refine ct ?_)|refine sq ?_|refine rg ?_|refine xc ?_|refine nl ?_|refine rt ?_
    exact r2 ⟨rfl, rfl⟩
  unfold noE
  by_cases he : rwE tot cut oth k = 0
  · rw [he] at hck
    rw [if_pos he]
    refine Tr.enter env _ Try.func7 (by kernel_rfl) rfl Try.ntmps7 rfl (by repeat (first | exact has00 | refine has01 ?_)) fun w0 => ?_
    repeat' first|(refine gca ?_; first|(refine ca hck ?_; rintro _ _ ⟨rfl, rfl⟩)|(refine ca hp ?_; rintro _ _ ⟨rfl, rfl⟩))|refine bx fun q => ?_|refine lda ?_|(refine wo ?_; first|(refine ao ?_; first|refine oa ?_)|refine oa ?_)|(refine gc ?_; first|refine ct ?_|refine cf ?_)|refine sq ?_|refine rg ?_|refine xc ?_|refine nl ?_|refine sk ?_|refine rt ?_
    exact r2 ⟨rfl, rfl⟩
  · rw [if_neg he]
    generalize rwE tot cut oth k = e at *
    refine Tr.enter env _ Try.func7 (by kernel_rfl) rfl Try.ntmps7 rfl (by repeat (first | exact has00 | refine has01 ?_)) fun w0 => ?_
    repeat' first|(refine gca ?_; first|(refine ca hck ?_; rintro _ _ ⟨rfl, rfl⟩))|refine bx fun q => ?_|refine lda ?_|(refine wo ?_; first|(refine ao ?_; first|refine oa ?_)|refine oa ?_)|(refine gc ?_; first|(refine cn (fun hB => ?_) (fun hB => ?_) <;> try (exfalso; omega)))|refine sq ?_|refine rg ?_|refine xc ?_|refine nl ?_|refine rt ?_
    exact r2 ⟨rfl, rfl⟩
theorem RowNone_tr (tot k : Int) (cv ov : Value) (cut oth : List Int) (hc : cv.oneCell' = true) (ho : ov.oneCell' = true) : Tr Try.prog 3 [.agg #[I tot, cv, ov], I k] [vw cv (Is cut), vw ov (Is oth)] [] fun v D => v = .bool true ∧ D = [] := by
  have hck := RwE_tr tot k cv ov cut oth hc ho
  have hN := SetN_tr tot k cv ov cut oth hc ho
  have hZ := fun b => SetZ_tr tot k cv ov cut oth b hc ho
  unfold noE at hN hZ
  by_cases he : rwE tot cut oth k = 0
  · rw [if_pos he] at hN
    simp only [if_pos he] at hZ
    rw [he] at hck
    refine Tr.enter env _ Try.func3 (by kernel_rfl) rfl Try.ntmps3 rfl (by repeat (first | exact has00 | refine has01 ?_)) fun w0 => ?_
    repeat' first|(refine gca ?_; first|(refine ca (LongAlias_tr tot 30 cv ov cut oth) ?_; rintro _ _ ⟨rfl, rfl⟩)|(refine ca awake_tr ?_; rintro _ _ ⟨rfl, rfl⟩)|(refine ca hck ?_; rintro _ _ ⟨rfl, rfl⟩)|(refine ca hN ?_; rintro _ _ ⟨rfl, rfl⟩)|(refine ca (hZ _) ?_; rintro _ _ ⟨rfl, rfl⟩))|refine bx fun q => ?_|refine lda ?_|(refine wo ?_; first|(refine ao ?_; first|refine oa ?_)|refine oa ?_|refine ln ?_|refine gy ?_)|(refine gc ?_; first|refine ct ?_|(refine ci (fun hB => ?_) (fun hB => ?_) <;> try (exfalso; omega)))|refine sq ?_|refine rg ?_|refine xc ?_|refine nl ?_|refine sk ?_|refine rt ?_
    all_goals exact r1 ⟨rfl, rfl⟩
  · rw [if_neg he] at hN
    simp only [if_neg he] at hZ
    generalize rwE tot cut oth k = e at *
    refine Tr.enter env _ Try.func3 (by kernel_rfl) rfl Try.ntmps3 rfl (by repeat (first | exact has00 | refine has01 ?_)) fun w0 => ?_
    repeat' first|(refine gca ?_; first|(refine ca (LongAlias_tr tot 30 cv ov cut oth) ?_; rintro _ _ ⟨rfl, rfl⟩)|(refine ca awake_tr ?_; rintro _ _ ⟨rfl, rfl⟩)|(refine ca hck ?_; rintro _ _ ⟨rfl, rfl⟩)|(refine ca hN ?_; rintro _ _ ⟨rfl, rfl⟩)|(refine ca (hZ _) ?_; rintro _ _ ⟨rfl, rfl⟩))|refine bx fun q => ?_|refine lda ?_|(refine wo ?_; first|(refine ao ?_; first|refine oa ?_)|refine oa ?_|refine ln ?_|refine gy ?_|(refine gsi (fun hB => ?_) (fun hB => ?_) <;> try (exfalso; omega)))|(refine gc ?_; first|(refine ci (fun hB => ?_) (fun hB => ?_) <;> try (exfalso; omega)))|refine sq ?_|refine rg ?_|refine xc ?_|refine nl ?_|refine sk ?_|refine rt ?_
    all_goals exact r1 ⟨rfl, rfl⟩
end Go.Art
set_option linter.unusedSimpArgs false
set_option linter.unusedVariables false
namespace Go.Art
open Go Go.Proofs Go.RowKit
theorem RowNone_law {w : World} {a : Value} (k : Int) (ha : InAl w a) : Fn Try.prog 3 [a, I k] w fun v w' => v = .bool true ∧ Ext w w' := by
  obtain ⟨tot, cv, ov, cut, oth, rfl, o1, o2, s1, s2⟩ := ha
  exact (RowNone_tr tot k cv ov cut oth o1 o2).law (SatL.cons s1 (SatL.cons s2 (SatL.nil w))).s
end Go.Art
