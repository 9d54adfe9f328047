/- Texts put together: Qb Qc Qp Qq KSame Qr Qs Gl Rw Hp Hq Ak Mk. Conditions: none. -/
import Derived.Test.YtbdmhamjhkibgaaGreatZBd
set_option linter.unusedSimpArgs false
set_option linter.unusedVariables false
namespace Go.Art
open Go Go.Proofs Go.RowKit
abbrev FQ2 (q : Rat) (e : Int) (u : Value) (D : List Ch) : Prop := ∃ vn vd, u = tup2 (rv q vn vd) (I e) ∧ vn.oneCell' = true ∧ vd.oneCell' = true ∧ D = [own T64 vn (Us (dg q.num.natAbs)), own T64 vd (Us (dg q.den))]
theorem Tm_top {l : List Nat} (h : Tm l) : ¬ (0 < l.length ∧ l.getD (l.length - 1) 0 = 0) := fun ⟨h1, h2⟩ => h.top h1 h2
theorem icheck_ok (z : Int) : ¬ ((decide (z < 0) = true ∧ (dz z).length = 0) ∨ (0 < (dz z).length ∧ (dz z).getD ((dz z).length - 1) 0 = 0)) := by
  rintro (⟨h1, h2⟩ | h)
  · have h3 := dg_nil.1 (List.eq_nil_of_length_eq_zero h2)
    simp at h1; omega
  · exact Tm_top (Tm_dg _) h
attribute [local irreducible] Fit pt own ro vw mpc lpt vels rels mow lrc dfr
theorem FMake_tr (z : Int) (o dv : Value) (m : List Nat) (hm : Dg m) (hll : (dz z).length ≤ 68719476736) (hlm : m.length ≤ 68719476736) (hm0 : nv m ≠ 0) :
    Tr Tryz.prog 51 [iv z o, dv] [vw o (Us (dz z)), vw dv (Us m)] [] (FQ2 (mkRat z (nv m)) 0) := by
  have hC := ICheck_tr (decide (z < 0)) o (dz z)
  rw [if_neg (icheck_ok z)] at hC
  have hN := NLen_tr dv m hm (by omega)
  have hL := lowest_tr (decide (z < 0)) o dv (dz z) m (Dg_dg _) hm hll hlm hm0
  have hs : sg (decide (z < 0)) (nv (dz z)) = z := by
    unfold sg; rw [nv_dg]
    by_cases h : z < 0
    · rw [if_pos (by simpa using h)]; omega
    · rw [if_neg (by simpa using h)]; omega
  rw [hs] at hL
  unfold FQ at hL
  obtain ⟨q, hq⟩ : ∃ q, q = mkRat z (nv m) := ⟨_, rfl⟩
  rw [← hq] at hL ⊢
  refine Tr.enter env _ Tryz.func51 (by kernel_rfl) rfl Tryz.ntmps51 rfl (by repeat (first | exact has00 | refine has01 ?_)) fun w0 => ?_
  repeat' first|(refine gca ?_; first|(refine ca hC ?_; rintro _ _ ⟨rfl, rfl⟩)|(refine ca hN ?_; rintro _ _ ⟨⟨nb, rfl, hnb⟩, rfl⟩)|(refine ca hL ?_; rintro _ _ ⟨vn, vd, rfl, hvn, hvd, rfl⟩))|refine bx fun q1 => ?_|refine al fun c => ?_|refine lda ?_|refine srz ?_|(refine wo ?_; first|(refine ao ?_; first|refine aw ?_|refine aw6 ?_|refine oa ?_|refine adiv ?_|refine amod ?_|refine shr1 ?_|refine shr ?_|refine umod ?_|refine isl ?_|refine ipe ?_|refine ipn ?_|refine ibe ?_)|refine acw ?_|refine ucv ?_|refine anw ?_|refine oa ?_|refine ld ?_|refine ldl ?_|refine lnm ?_|refine ixmn ?_|refine ixm ?_|refine li ?_|refine lb ?_|refine lv ?_|refine ln ?_|refine ixn ?_|refine ix ?_|refine le ?_|refine sr ?_|refine soi ?_|refine sob ?_|refine scm ?_|refine sclm ?_|refine schm ?_|refine gy ?_|refine gn ?_|refine gnn ?_|refine gu ?_|(refine gsi (fun hB => ?_) (fun hB => ?_) <;> try (exfalso; omega))|(refine gsn (fun hB => ?_) (fun hB => ?_) <;> try (exfalso; omega))|(refine gs (fun hB => ?_) (fun hB => ?_) <;> try (exfalso; omega)))|(refine gc ?_; first|refine ct ?_|refine cf ?_|(refine ci (fun hB => ?_) (fun hB => ?_) <;> try (exfalso; omega))|(refine cn (fun hB => ?_) (fun hB => ?_) <;> try (exfalso; omega))|(refine cb (fun hB => ?_) (fun hB => ?_) <;> try (exfalso; omega)))|refine sq ?_|refine rg ?_|refine xc ?_|refine nl ?_|refine sk ?_|refine bk ?_|refine xe ?_|refine rt ?_|refine xb ?_
  exact rca (cs := [.bool (decide (q.num < 0)), vn, vd]) (vs := [.bool (decide (q.num < 0)), vn, vd]) (T := TRt) ⟨vn, vd, rfl, hvn, hvd, rfl⟩
theorem FPair_tr (x y : Nat) (hx : x < 9223372036854775808) (hy : y < 9223372036854775808) (hy0 : y ≠ 0) : Tr Tryz.prog 42 [I x, I y] [] [] (FQ2 (mkRat x y) 0) := by
  have hx1 := dg_len1 (n := x) (by omega)
  have hy1 := dg_len1 (n := y) (by omega)
  have hO := IOf_tr x hx
  have hP := IOf_tr y hy
  have hM := fun o => IMake_tr false o (dg x) (Dg_dg x) (by omega)
  have hs : sg false x = (x : Int) := rfl
  have hR := fun o dv => FMake_tr (x : Int) o dv (dg y) (Dg_dg y) (by unfold dz; rw [Int.natAbs_natCast]; omega) (by omega) (by rw [nv_dg]; exact hy0)
  simp only [nv_dg, hs] at hM hR
  unfold IR at hO hP hM
  unfold dz at hR
  simp only [Int.natAbs_natCast] at hO hP hM hR
  have hxn : decide ((x : Int) < 0) = false := by simp
  have hyn : decide ((y : Int) < 0) = false := by simp
  rw [hxn] at hO
  rw [hyn] at hP
  unfold FQ2 at hR
  obtain ⟨q, hq⟩ : ∃ q, q = mkRat (x : Int) y := ⟨_, rfl⟩
  simp only [← hq] at hR ⊢
  clear hq
  refine Tr.enter env _ Tryz.func42 (by kernel_rfl) rfl Tryz.ntmps42 rfl (by repeat (first | exact has00 | refine has01 ?_)) fun w0 => ?_
  repeat' first|(refine gca ?_; first|(refine ca hO ?_; rintro _ _ ⟨o, rfl, ho, rfl⟩)|(refine ca hP ?_; rintro _ _ ⟨o2, rfl, ho2, rfl⟩))|refine al fun c => ?_|refine srz ?_|(refine wo ?_; first|(refine ao ?_; first|refine aw ?_|refine aw6 ?_|refine oa ?_|refine adiv ?_|refine amod ?_|refine shr1 ?_|refine shr ?_|refine umod ?_|refine isl ?_|refine ipe ?_|refine ipn ?_|refine ibe ?_)|refine acw ?_|refine ucv ?_|refine anw ?_|refine oa ?_|refine ld ?_|refine ldl ?_|refine lnm ?_|refine ixmn ?_|refine ixm ?_|refine li ?_|refine lb ?_|refine lv ?_|refine ln ?_|refine ixn ?_|refine ix ?_|refine le ?_|refine sr ?_|refine soi ?_|refine sob ?_|refine scm ?_|refine sclm ?_|refine schm ?_|refine gy ?_|refine gn ?_|refine gnn ?_|refine gu ?_|(refine gsi (fun hB => ?_) (fun hB => ?_) <;> try (exfalso; omega))|(refine gsn (fun hB => ?_) (fun hB => ?_) <;> try (exfalso; omega))|(refine gs (fun hB => ?_) (fun hB => ?_) <;> try (exfalso; omega)))|(refine gc ?_; first|refine ct ?_|refine cf ?_|(refine ci (fun hB => ?_) (fun hB => ?_) <;> try (exfalso; omega))|(refine cn (fun hB => ?_) (fun hB => ?_) <;> try (exfalso; omega))|(refine cb (fun hB => ?_) (fun hB => ?_) <;> try (exfalso; omega)))|refine sq ?_|refine rg ?_|refine xc ?_|refine nl ?_|refine sk ?_|refine bk ?_|refine xe ?_|refine rt ?_|refine xb ?_
  rename_i d0 d1
  rename Nat => d2
  refine rs (fun w => w.heap[d1]? = some (.cells [.bool false, o2].toArray TIt (0, 0)) ∧ w.heap[d2]? = some (.cells [.bool false, o].toArray TIt (0, 0))) ?_ (fun w hw => ⟨pt_at (b := d1) (cs := [.bool false, o2]) (T := TIt) (by (repeat (first | apply List.Mem.head | apply List.Mem.tail)); first | done | fail) hw, pt_at (b := d2) (cs := [.bool false, o]) (T := TIt) (by (repeat (first | apply List.Mem.head | apply List.Mem.tail)); first | done | fail) hw⟩)
  refine tka 0 ?_
  refine tkl 1 (cs := [.bool false, o]) (fun w h => h.2) ?_
  refine tka 2 ?_
  refine tkl 3 (cs := [.bool false, o2]) (fun w h => h.1) ?_
  refine tk 4 (v := .bool false) (fun _ _ => R_bne (E := env) (b1 := false) (b2 := false) rfl rfl rfl) ?_
  refine tka 5 ?_
  refine tkl 6 (cs := [.bool false, o]) (fun w h => h.2) ?_
  refine tka 8 ?_
  refine tkl 9 (cs := [.bool false, o2]) (fun w h => h.1) ?_
  refine t1 7 ?_
  refine ca (hM o) ?_
  rintro _ _ ⟨o3, rfl, ho3, rfl⟩
  refine nl ?_
  refine te (fun w hw => ⟨pt_at (b := d1) (cs := [.bool false, o2]) (T := TIt) (by (repeat (first | apply List.Mem.head | apply List.Mem.tail)); first | done | fail) hw, pt_at (b := d2) (cs := [.bool false, o]) (T := TIt) (by (repeat (first | apply List.Mem.head | apply List.Mem.tail)); first | done | fail) hw⟩) ?_
  refine t1 10 ?_
  refine ca (hR o3 o2) ?_
  rintro _ _ ⟨vn, vd, rfl, hvn, hvd, rfl⟩
  refine nl ?_
  refine te (fun w hw => ⟨pt_at (b := d1) (cs := [.bool false, o2]) (T := TIt) (by (repeat (first | apply List.Mem.head | apply List.Mem.tail)); first | done | fail) hw, pt_at (b := d2) (cs := [.bool false, o]) (T := TIt) (by (repeat (first | apply List.Mem.head | apply List.Mem.tail)); first | done | fail) hw⟩) ?_
  refine tka 11 ?_
  refine tka 12 ?_
  refine t1 13 ?_
  refine srz ?_
  refine nl ?_
  refine te (fun w hw => ⟨pt_at (b := d1) (cs := [.bool false, o2]) (T := TIt) (by (repeat (first | apply List.Mem.head | apply List.Mem.tail)); first | done | fail) hw, pt_at (b := d2) (cs := [.bool false, o]) (T := TIt) (by (repeat (first | apply List.Mem.head | apply List.Mem.tail)); first | done | fail) hw⟩) ?_
  refine tka 14 ?_
  refine t0 ?_
  repeat' first|(refine wo ?_; first|(refine ao ?_; first|refine aw ?_|refine aw6 ?_|refine oa ?_|refine adiv ?_|refine amod ?_|refine shr1 ?_|refine shr ?_|refine umod ?_|refine isl ?_|refine ipe ?_|refine ipn ?_|refine ibe ?_)|refine acw ?_|refine ucv ?_|refine anw ?_|refine oa ?_|refine ld ?_|refine ldl ?_|refine lnm ?_|refine ixmn ?_|refine ixm ?_|refine li ?_|refine lb ?_|refine lv ?_|refine ln ?_|refine ixn ?_|refine ix ?_|refine le ?_|refine sr ?_|refine soi ?_|refine sob ?_|refine scm ?_|refine sclm ?_|refine schm ?_|refine gy ?_|refine gn ?_|refine gnn ?_|refine gu ?_|(refine gsi (fun hB => ?_) (fun hB => ?_) <;> try (exfalso; omega))|(refine gsn (fun hB => ?_) (fun hB => ?_) <;> try (exfalso; omega))|(refine gs (fun hB => ?_) (fun hB => ?_) <;> try (exfalso; omega)))|(refine gc ?_; first|refine ct ?_|refine cf ?_|(refine ci (fun hB => ?_) (fun hB => ?_) <;> try (exfalso; omega))|(refine cn (fun hB => ?_) (fun hB => ?_) <;> try (exfalso; omega))|(refine cb (fun hB => ?_) (fun hB => ?_) <;> try (exfalso; omega)))|refine sq ?_|refine rg ?_|refine xc ?_|refine nl ?_|refine sk ?_|refine bk ?_|refine xe ?_|refine rt ?_|refine xb ?_
  exact rca (cs := [.bool (decide (q.num < 0)), vn, vd]) (vs := [.bool (decide (q.num < 0)), vn, vd]) (T := TRt) ⟨vn, vd, rfl, hvn, hvd, rfl⟩
end Go.Art
set_option linter.unusedSimpArgs false
set_option linter.unusedVariables false
namespace Go.Art
open Go Go.Proofs Go.RowKit
def fall (n : Nat) : Nat → Nat
  | 0 => 1
  | k + 1 => fall n k * (n - k)
def chs : Nat → Nat → Nat
  | _, 0 => 1
  | 0, _ + 1 => 0
  | n + 1, k + 1 => chs n k + chs n (k + 1)
theorem chs_zero (n : Nat) : chs n 0 = 1 := by cases n <;> rfl
theorem chs_succ (n k : Nat) : chs (n + 1) (k + 1) = chs n k + chs n (k + 1) := rfl
theorem chs_over : ∀ {n k : Nat}, n < k → chs n k = 0
  | 0, k + 1, _ => rfl
  | n + 1, k + 1, h => by rw [chs_succ, chs_over (by omega), chs_over (by omega)]
theorem chs_self : ∀ n : Nat, chs n n = 1
  | 0 => rfl
  | n + 1 => by rw [chs_succ, chs_self n, chs_over (by omega)]
theorem chs_next : ∀ (n k : Nat), chs n (k + 1) * (k + 1) = chs n k * (n - k)
  | 0, 0 => rfl
  | 0, k + 1 => by simp [chs]
  | n + 1, 0 => by
    rw [chs_succ, chs_zero, chs_zero]
    have := chs_next n 0
    rw [chs_zero] at this
    omega
  | n + 1, k + 1 => by
    have h1 := chs_next n k
    have h2 := chs_next n (k + 1)
    rw [chs_succ n (k + 1), chs_succ n k]
    rcases Nat.lt_or_ge k n with h | h
    · obtain ⟨m, rfl⟩ : ∃ m, n = k + 1 + m := ⟨n - (k + 1), by omega⟩
      have e1 : k + 1 + m - k = m + 1 := by omega
      have e2 : k + 1 + m - (k + 1) = m := by omega
      have e3 : k + 1 + m + 1 - (k + 1) = m + 1 := by omega
      rw [e1] at h1
      rw [e2] at h2
      rw [e3]
      generalize chs (k + 1 + m) k = a at *
      generalize chs (k + 1 + m) (k + 1) = b at *
      generalize chs (k + 1 + m) (k + 1 + 1) = c at *
      rw [Nat.add_mul, h2, Nat.add_mul, ← h1]
      simp only [Nat.mul_add, Nat.mul_one]
      omega
    · rw [chs_over (k := k + 1) (by omega), chs_over (k := k + 1 + 1) (by omega), show n + 1 - (k + 1) = 0 by omega]
      simp
theorem chs_symm : ∀ {n k : Nat}, k ≤ n → chs n (n - k) = chs n k
  | 0, k, h => by
    obtain rfl : k = 0 := (by omega)
    rfl
  | n + 1, 0, _ => by rw [Nat.sub_zero, chs_self, chs_zero]
  | n + 1, k + 1, h => by
    rcases Nat.lt_or_ge k n with h1 | h1
    · rw [show n + 1 - (k + 1) = (n - (k + 1)) + 1 by omega, chs_succ, chs_succ, chs_symm (n := n) (k := k + 1) (by omega), show n - (k + 1) + 1 = n - k by omega, chs_symm (n := n) (k := k) (by omega)]
      omega
    · obtain rfl : k = n := by omega
      rw [show k + 1 - (k + 1) = 0 by omega, chs_zero, chs_self]
theorem chs_pos {n k : Nat} (h : k ≤ n) : chs n k ≠ 0 := by
  induction n generalizing k with
  | zero =>
    obtain rfl : k = 0 := (by omega)
    exact Nat.one_ne_zero
  | succ n ih =>
    cases k with
    | zero => rw [chs_zero]; exact Nat.one_ne_zero
    | succ k => rw [chs_succ]; have := ih (k := k) (by omega); omega
theorem chs_le (n k : Nat) : chs n k ≤ 2 ^ n := by
  induction n generalizing k with
  | zero => cases k <;> simp [chs]
  | succ n ih =>
    cases k with
    | zero => rw [chs_zero]; exact Nat.one_le_two_pow
    | succ k => rw [chs_succ, Nat.pow_succ]; have := ih k; have := ih (k + 1); omega
theorem chs_len (n k : Nat) : (dg (chs n k)).length ≤ n + 1 := (dg_len _ _).2 (by
  refine Nat.lt_of_le_of_lt (chs_le n k) (Nat.lt_of_lt_of_le (Nat.pow_lt_pow_right (a := 2) (by decide) (Nat.lt_succ_self n)) (Nat.pow_le_pow_left (by decide) _))
)
theorem fall_pos {n k : Nat} (h : k ≤ n) : fall n k ≠ 0 := by
  induction k with
  | zero => exact Nat.one_ne_zero
  | succ k ih =>
    have := ih (by omega)
    exact Nat.mul_ne_zero this (by omega)
theorem fall_lt {n : Nat} (hn : n ≤ 65536) (k : Nat) : fall n k < 18446744073709551616 ^ (k + 1) := by
  induction k with
  | zero => show 1 < _; simp
  | succ k ih =>
    rw [Nat.pow_succ]
    exact Nat.mul_lt_mul_of_lt_of_le ih (by omega) (by decide)
theorem fall_len {n : Nat} (hn : n ≤ 65536) (k : Nat) : (dg (fall n k)).length ≤ k + 1 := (dg_len _ _).2 (fall_lt hn k)
theorem chs_step {n i : Nat} : chs n i * (n - i) / (i + 1) = chs n (i + 1) := by
  rw [← chs_next, Nat.mul_div_cancel _ (by omega)]
attribute [local irreducible] Fit pt own ro vw mpc lpt vels rels mow lrc dfr
abbrev eNat (u : Value) (D : List Ch) (m : Nat) (e : Int) : Prop := ∃ o, u = tup2 o (I e) ∧ o.oneCell' = true ∧ D = [own T64 o (Us (dg m))]
theorem Falling_tr (n k : Nat) (hn : n ≤ 65536) (hk : k ≤ n) : Tr Tryz.prog 43 [I n, I k] [] [] fun u D => eNat u D (fall n k) 0 := by
  refine Tr.enter env _ Tryz.func43 (by kernel_rfl) rfl Tryz.ntmps43 rfl (by repeat (first | exact has00 | refine has01 ?_)) fun w0 => ?_
  repeat' first|(refine gca ?_; first|(refine ca (Of_tr 1 (by decide)) ?_; rintro o _ ⟨ho, rfl⟩))|(refine wo ?_; first|(refine ao ?_; first|refine oa ?_)|refine oa ?_|refine gy ?_|(refine gsi (fun hB => ?_) (fun hB => ?_) <;> try (exfalso; omega)))|(refine gc ?_; first|refine cf ?_)|refine sq ?_|refine rg ?_|refine xc ?_|refine nl ?_|refine sk ?_|refine bk ?_
  refine TC.loop (ι := Nat × Value) (fun g => [(7, I g.1), (6, g.2)]) (fun g => [own T64 g.2 (Us (dg (fall n g.1)))]) (fun g => g.1 ≤ k ∧ g.2.oneCell' = true) (fun g => k - g.1) (0, o) [0, 1] ⟨Nat.zero_le _, ho⟩ ?_ (hf := by dsimp only; rw [show fall n 0 = 1 from rfl]; first | apply Fit.all | ((repeat (first | (apply Fit.nilN; (repeat (first | apply nrm_nil | apply nrm_cons)); try apply nrm_rfl) | (apply Fit.cons; focus ((repeat (first | apply Tk.here | apply Tk.there)); first | done | fail)))); first | done | fail))
  rintro ⟨i, v⟩ ⟨hi, hv⟩
  dsimp only at hi hv ⊢
  have hG := NGrow_tr v (dg (fall n i)) (n - i) (Dg_dg _) (by omega) (by have := fall_len hn i; omega)
  rw [nv_dg] at hG
  have hm : (I ((n : Int) - i)) = I ((n - i : Nat) : Int) := by rw [Int.ofNat_sub (by omega)]
  have hf : fall n i * (n - i) = fall n (i + 1) := rfl
  rw [hf] at hG
  by_cases hlt : i < k
  · repeat' first|(refine gca ?_; first|(refine ca hG ?_; rintro v2 _ ⟨hv2, rfl⟩))|refine mnn ?_|(refine ntu (m := (n : Int) - i) ?_; rw [show ((n : Int) - i).toNat = n - i by omega])|(refine wo ?_; first|(refine ao ?_; first|refine aw ?_|refine oa ?_)|refine oa ?_)|(refine gc ?_; first|(refine ci (fun hB => ?_) (fun hB => ?_) <;> try (exfalso; omega)))|refine sq ?_|refine rg ?_|refine xc ?_|refine nl ?_|refine sk ?_|refine bk ?_|refine xb ?_
    exact lp (i + 1, v2) ⟨hlt, hv2⟩
  · obtain rfl : i = k := by omega
    repeat' first|refine mnn ?_|(refine wo ?_; first|(refine ao ?_; first|refine aw ?_|refine oa ?_)|refine oa ?_)|(refine gc ?_; first|(refine ci (fun hB => ?_) (fun hB => ?_) <;> try (exfalso; omega)))|refine sq ?_|refine rg ?_|refine xc ?_|refine nl ?_|refine xe ?_|refine rt ?_
    exact r2 ⟨v, rfl, hv, rfl⟩
theorem Choose_tr (n k : Nat) (hn : n ≤ 65536) (hk : k ≤ n) : Tr Tryz.prog 50 [I n, I k] [] [] fun u D => eNat u D (chs n k) 0 := by
  obtain ⟨m, hm⟩ : ∃ m, m = min k (n - k) := ⟨_, rfl⟩
  have hcm : chs n m = chs n k := by
    rw [hm]
    rcases Nat.le_total k (n - k) with h | h
    · rw [Nat.min_eq_left h]
    · rw [Nat.min_eq_right h, chs_symm hk]
  have hmn : m ≤ n := by omega
  have hmi : min (k : Int) ((n : Int) - k) = (m : Int) := by omega
  rw [← hcm]
  clear hcm
  refine Tr.enter env _ Tryz.func50 (by kernel_rfl) rfl Tryz.ntmps50 rfl (by repeat (first | exact has00 | refine has01 ?_)) fun w0 => ?_
  repeat' first|(refine gca ?_; first|(refine ca (Of_tr 1 (by decide)) ?_; rintro o _ ⟨ho, rfl⟩))|(refine mnn ?_; rw [hmi])|(refine wo ?_; first|(refine ao ?_; first|refine aw ?_|refine oa ?_)|refine oa ?_|refine gy ?_)|(refine gc ?_; first|(refine ci (fun hB => ?_) (fun hB => ?_) <;> try (exfalso; omega)))|refine sq ?_|refine rg ?_|refine xc ?_|refine nl ?_|refine sk ?_|refine bk ?_
  clear hmi hm
  refine TC.loop (ι := Nat × Value) (fun g => [(7, I ((g.1 : Int) + 1)), (6, g.2), (8, I ((n : Int) - g.1)), (9, I ((m : Int) - g.1))]) (fun g => [own T64 g.2 (Us (dg (chs n g.1)))]) (fun g => g.1 ≤ m ∧ g.2.oneCell' = true) (fun g => m - g.1) (0, o) [] ⟨Nat.zero_le _, ho⟩ ?_ (hf := by dsimp only; rw [chs_zero]; first | apply Fit.all | ((repeat (first | (apply Fit.nilN; (repeat (first | apply nrm_nil | apply nrm_cons)); try apply nrm_rfl) | (apply Fit.cons; focus ((repeat (first | apply Tk.here | apply Tk.there)); first | done | fail)))); first | done | fail)) (hs := by dsimp only; simp only [Int.natCast_zero, Int.sub_zero, Int.zero_add]; (repeat (refine Sub.cons rfl (by first | rfl | go_num) ?_)); exact Sub.nil)
  rintro ⟨i, v⟩ ⟨hi, hv⟩
  dsimp only at hi hv ⊢
  by_cases hlt : i < m
  · have hG := NGrow_tr v (dg (chs n i)) (n - i) (Dg_dg _) (by omega) (by have := chs_len n i; omega)
    have hl1 : (dg (chs n i * (n - i))).length ≤ n + 2 := by
      have h1 := (dg_len _ _).1 (chs_len n i)
      exact (dg_len _ _).2 (by rw [Nat.pow_succ]; exact Nat.mul_lt_mul_of_lt_of_le h1 (by omega) (by decide))
    have hP := fun v => Part_tr v (dg (chs n i * (n - i))) (i + 1) (Dg_dg _) (by omega) (by omega) (by omega)
    simp only [nv_dg, chs_step] at hG hP
    repeat' first|(refine gca ?_; first|(refine ca hG ?_; rintro v2 _ ⟨hv2, rfl⟩)|(refine ca (hP v2) ?_; rintro _ _ ⟨v3, rfl, hv3, rfl⟩))|(refine ntu (m := (n : Int) - i) ?_; rw [show ((n : Int) - i).toNat = n - i by omega])|(refine ntu (m := (i : Int) + 1) ?_; rw [show ((i : Int) + 1).toNat = i + 1 by omega])|(refine wo ?_; first|(refine ao ?_; first|refine aw ?_|refine oa ?_)|refine oa ?_)|(refine gc ?_; first|(refine ci (fun hB => ?_) (fun hB => ?_) <;> try (exfalso; omega)))|refine sq ?_|refine rg ?_|refine xc ?_|refine nl ?_|refine sk ?_|refine bk ?_|refine xb ?_
    exact lp (i + 1, v3) ⟨hlt, hv3⟩ (hs := by dsimp only; (repeat (refine Sub.cons rfl (by first | rfl | go_num) ?_)); exact Sub.nil)
  · obtain rfl : i = m := by omega
    repeat' first|(refine wo ?_; first|(refine ao ?_; first|refine oa ?_)|refine oa ?_)|(refine gc ?_; first|(refine ci (fun hB => ?_) (fun hB => ?_) <;> try (exfalso; omega)))|refine sq ?_|refine rg ?_|refine xc ?_|refine nl ?_|refine xe ?_|refine rt ?_
    exact r2 ⟨v, rfl, hv, rfl⟩
end Go.Art
set_option linter.unusedSimpArgs false
set_option linter.unusedVariables false
namespace Go.Art
open Go Go.Proofs Go.RowKit
abbrev Fr3 := Bool × List Nat × List Nat
abbrev rqf (q : Rat) : Fr3 := (decide (q.num < 0), dg q.num.natAbs, dg q.den)
abbrev rqn : Fr3 := (false, [], [])
abbrev FW (t : Fr3 × Int) (u : Value) (D : List Ch) : Prop := ∃ vn vd, u = tup2 (.agg #[.bool t.1.1, vn, vd]) (I t.2) ∧ vn.oneCell' = true ∧ vd.oneCell' = true ∧ D = [own T64 vn (Us t.1.2.1), own T64 vd (Us t.1.2.2)]
theorem FW.of0 {e : Int} {u : Value} {D : List Ch} (h : u = tup2 rv0 (I e) ∧ D = [own T64 nS (Us []), own T64 nS (Us [])]) : FW (rqn, e) u D := ⟨nS, nS, h.1, rfl, rfl, h.2⟩
def meaW (tot : Int) (cut oth : List Int) (k d : Int) : Fr3 × Int :=
  if rwE tot cut oth k = 0 then (if d < 1 ∨ cut.length < d then (rqn, 3) else (rqf (mkRat 1 (fall k.toNat d.toNat * cut.length * tot.toNat)), 0)) else (rqn, rwE tot cut oth k)
def chaW (t : List Int) (k d : Int) : Fr3 × Int :=
  if solE t k = 0 then (if d < 1 ∨ t.length < d then (rqn, 3) else (rqf (mkRat (t.getD (d - 1).toNat 0) (chs k.toNat d.toNat * t.sum.toNat)), 0)) else (rqn, 13)
section
variable {P : Program} {E : Env P} {X : Cx} {fr : Fr} {A D G : List Ch}
theorem rcc {w0 : World} {A0 : List Ch} {R' : Value → List Ch → Prop} {fn : Func} {t nn : Nat} {ty T : TypeId} {dt : TypeDesc} {b : Nat} {cs : List Value} {v : Value} (h : R' v D) (hr : fn.results = #[.cell t ty] := by rfl) (ht : lk E.und ty = some dt := by rfl) (hg : aggB dt = false := by rfl)
    (hv : get fr t = some (ptr b) := by rfl) (hm : pt b cs T ∈ A := by (repeat (first | apply List.Mem.head | apply List.Mem.tail)); first | done | fail) (hc : cs[0]? = some v := by rfl) (hf : Fit A D G := by first | apply Fit.all | ((repeat (first | (apply Fit.nilN; (repeat (first | apply nrm_nil | apply nrm_cons)); try apply nrm_rfl) | (apply Fit.cons; focus ((repeat (first | apply Tk.here | apply Tk.there)); first | done | fail)))); first | done | fail)) (nb : ∀ c ∈ D, ∀ b, ¬ c.bd b := by (repeat (first | exact nb0 | refine nb1 ?_)); first | done | fail) :
    TX E ⟨nn, [], none⟩ ⟨bodyPost P fn (RetP (PR w0 A0 R')), w0, A0⟩ [] .ret fr A := ⟨fun w hw => ⟨fun a ha =>
  bodyPost_ret (res_c (E := E) ha hr ht hg hv (ptcell hw.sat hm hc)) (ha.defers.trans rfl) ⟨_, rfl, PR.mk h hw hf nb⟩⟩⟩
end
attribute [local irreducible] Fit pt own ro vw mpc lpt vels rels mow lrc dfr
attribute [local irreducible] lmp lme mit velg relg
theorem soAdd_tr (c : Nat) (m w : Int) (h : -9223372036854775808 ≤ m + w ∧ m + w ≤ 9223372036854775807) : Tr Tryz.prog 91 [I w, ptr c] [] [pt c [I m] TLI] fun _ D => D = [pt c [I (m + w)] TLI] := by
  refine Tr.enter env _ Tryz.func91 (by kernel_rfl) rfl Tryz.ntmps91 rfl (by repeat (first | exact has00 | refine has01 ?_)) fun w0 => ?_
  repeat' first|(refine wo ?_; first|(refine ao ?_; first|refine aw ?_)|refine oa ?_|refine ld ?_|refine sr ?_)|refine rg ?_|refine nl ?_
  exact e0 rfl
theorem SoTotal_tr (s : Value) (t : List Int) (h1 : 1 ≤ t.length ∧ t.length ≤ 65536) (hw : ∀ w ∈ t, 0 ≤ w ∧ w ≤ 16777215) : Tr Tryz.prog 54 [s] [vw s (Is t)] [] fun v D => v = I t.sum ∧ D = [] := by
  refine Tr.enter env _ Tryz.func54 (by kernel_rfl) rfl Tryz.ntmps54 rfl (by repeat (first | exact has00 | refine has01 ?_)) fun w0 => ?_
  repeat' first|refine al fun c => ?_|(refine wo ?_; first|refine oa ?_|refine lnm ?_)|refine sq ?_|refine rg ?_|refine xc ?_|refine nl ?_|refine bk ?_
  refine TC.loop (ι := Nat) (fun i => [(9, I i)]) (fun i => [pt c [I (t.take i).sum] TLI]) (fun i => i ≤ t.length) (fun i => t.length - i) 0 [2, 3, 7, 8] (by simp) ?_
  rintro i h2
  by_cases hi : i < t.length
  · have hs := take_sum hi
    have hb := hw _ (mem_getD.2 ⟨i, hi, rfl⟩)
    have hc := sum_bound (t := t.take i) fun w h => hw w (List.mem_of_mem_take h)
    rw [List.length_take] at hc
    generalize hy : t.getD i 0 = y at *
    generalize (t.take i).sum = m at *
    repeat' first|refine lie hy ?_|(refine cav (cap := #[ptr c]) (vs := [I y]) (soAdd_tr c m y (by omega)) ?_; rintro _ _ rfl)|(refine wo ?_; first|(refine ao ?_; first|refine aw ?_|refine oa ?_)|refine oa ?_|refine ixmn ?_)|(refine gc ?_; first|(refine ci (fun hB => ?_) (fun hB => ?_) <;> try (exfalso; omega)))|refine sq ?_|refine rg ?_|refine xc ?_|refine nl ?_|refine sk ?_|refine bk ?_|refine xb ?_
    exact lp (i + 1) (by omega) (hf := by rw [hs]; first | apply Fit.all | ((repeat (first | (apply Fit.nilN; (repeat (first | apply nrm_nil | apply nrm_cons)); try apply nrm_rfl) | (apply Fit.cons; focus ((repeat (first | apply Tk.here | apply Tk.there)); first | done | fail)))); first | done | fail))
  · obtain rfl : i = t.length := by omega
    rw [List.take_length]
    repeat' first|(refine wo ?_; first|(refine ao ?_; first|refine oa ?_)|refine ld ?_|refine sr ?_)|(refine gc ?_; first|(refine ci (fun hB => ?_) (fun hB => ?_) <;> try (exfalso; omega)))|refine sq ?_|refine rg ?_|refine xc ?_|refine nl ?_|refine xe ?_|refine rt ?_
    exact rcc (cs := [I t.sum]) (T := TLI) ⟨rfl, rfl⟩
theorem over1_tr (v : Value) (l : List Nat) (hd : Dg l) (hl : l.length ≤ 68719476736) (h0 : nv l ≠ 0) : Tr Tryz.prog 44 [v] [vw v (Us l)] [] (FQ (mkRat 1 (nv l))) := by
  have hO := IOf_tr 1 (by decide)
  have hd1 : (dz ((1 : Nat) : Int)).length ≤ 1 := dg_len1 (by decide)
  have hM := fun o => FMake_tr ((1 : Nat) : Int) o v l hd (by omega) hl h0
  unfold IR at hO
  rw [show (((1 : Nat) : Int)).natAbs = 1 from rfl] at hO
  unfold dz at hM
  simp only [show (((1 : Nat) : Int)).natAbs = 1 from rfl] at hM
  unfold FQ2 at hM
  simp only [show ((1 : Nat) : Int) = 1 from rfl] at hM hO
  obtain ⟨q, hq⟩ : ∃ q, q = mkRat 1 (nv l) := ⟨_, rfl⟩
  simp only [← hq] at hM ⊢
  refine Tr.enter env _ Tryz.func44 (by kernel_rfl) rfl Tryz.ntmps44 rfl (by repeat (first | exact has00 | refine has01 ?_)) fun w0 => ?_
  repeat' first|(refine gca ?_; first|(refine ca hO ?_; rintro _ _ ⟨o, rfl, ho, rfl⟩)|(refine ca (hM o) ?_; rintro _ _ ⟨vn, vd, rfl, hvn, hvd, rfl⟩))|refine al fun c => ?_|refine lda ?_|refine srz ?_|(refine wo ?_; first|refine oa ?_)|refine sq ?_|refine rg ?_|refine xc ?_|refine nl ?_|refine rt ?_
  exact rca1 (cs := [.bool (decide (q.num < 0)), vn, vd]) (vs := [.bool (decide (q.num < 0)), vn, vd]) (T := TRt) ⟨vn, vd, rfl, hvn, hvd, rfl⟩
end Go.Art
set_option linter.unusedSimpArgs false
set_option linter.unusedVariables false
namespace Go.Art
open Go Go.Proofs Go.RowKit
theorem R_ntu {P : Program} {E : Env P} {n : Sh} {fr : Fr} {w : World} {t t' ty : TypeId} {x : Operand} {k0 : IntKind} {m : Int} (ht : lk E.und t' = some (.int .u64)) (hs : (lk E.und t).isSome = true) (hx : ev fr x = some (.int k0 m)) (hb : 0 ≤ m ∧ m < 18446744073709551616) : OpV P n fr (.convert t t' x) ty w (Un m.toNat) w := by
  have := R_conv (P := P) (n := n) (w := w) (ty := ty) ht hs hx; rwa [wrapN m m.toNat (by omega)] at this
theorem R_ntuk {P : Program} {E : Env P} {n : Sh} {fr : Fr} {w : World} {t t' ty : TypeId} {x : Operand} {k0 : IntKind} {m : Nat} (ht : lk E.und t' = some (.int .u64)) (hs : (lk E.und t).isSome = true) (hx : ev fr x = some (.int k0 (m : Int))) (hb : m < 18446744073709551616) : OpV P n fr (.convert t t' x) ty w (Un m) w := by
  have := R_ntu (P := P) (n := n) (w := w) (ty := ty) ht hs hx (by omega); rwa [Int.toNat_natCast] at this
theorem dg_grow_len {a x L : Nat} (h : (dg a).length ≤ L) (hx : x < 18446744073709551616) : (dg (a * x)).length ≤ L + 1 := (dg_len _ _).2 (by
  rw [Nat.pow_succ]; exact Nat.mul_lt_mul_of_lt_of_le ((dg_len _ _).1 h) (by omega) (by decide))
theorem meaW_ok {tot : Int} {cut oth : List Int} {k d : Int} (hk : rwE tot cut oth k = 0) (hd : ¬ (d < 1 ∨ cut.length < d)) : meaW tot cut oth k d = (rqf (mkRat 1 (fall k.toNat d.toNat * cut.length * tot.toNat)), 0) := by
  unfold meaW; rw [if_pos hk, if_neg hd]
theorem sum_wOk {t : List Int} (h : ∀ w ∈ t, 0 ≤ w ∧ w ≤ 16777215) : 0 ≤ t.sum ∧ t.sum ≤ 16777215 * t.length := sum_bound h
theorem sum_posT {t : List Int} (h : ∀ w ∈ t, 0 ≤ w ∧ w ≤ 16777215) (hp : ∃ w ∈ t, 0 < w) : 0 < t.sum := by
  induction t with
  | nil => obtain ⟨w, hw, _⟩ := hp; cases hw
  | cons a r ih =>
    have h1 := h a (by simp)
    have h2 := sum_bound (t := r) fun w hw => h w (by simp [hw])
    rw [List.sum_cons]
    obtain ⟨w, hw, hw0⟩ := hp
    rcases List.mem_cons.1 hw with rfl | hw
    · omega
    · have := ih (fun w hw => h w (by simp [hw])) ⟨w, hw, hw0⟩; omega
attribute [local irreducible] Fit pt own ro vw mpc lpt vels rels mow lrc dfr
attribute [local irreducible] lmp lme mit velg relg
theorem MeaW_tr (tot k d : Int) (cv ov : Value) (cut oth : List Int) (hc : cv.oneCell' = true) (ho : ov.oneCell' = true) : Tr Tryz.prog 14 [.agg #[I tot, cv, ov], I k, I d] [vw cv (Is cut), vw ov (Is oth)] []
    (FW (meaW tot cut oth k d)) := by
  have hck := RwE_tr tot k cv ov cut oth hc ho
  by_cases hk : rwE tot cut oth k = 0
  rotate_left
  · unfold meaW
    rw [if_neg hk]
    generalize rwE tot cut oth k = e at *
    refine Tr.mono (R := fun u D => u = tup2 rv0 (I e) ∧ D = [own T64 nS (Us []), own T64 nS (Us [])]) ?_ fun u D h => FW.of0 h
    refine Tr.enter env _ Tryz.func14 (by kernel_rfl) rfl Tryz.ntmps14 rfl (by repeat (first | exact has00 | refine has01 ?_)) fun w0 => ?_
    repeat' first|(refine gca ?_; first|(refine ca hck ?_; rintro _ _ ⟨rfl, rfl⟩))|refine bx fun b => ?_|refine al fun b2 => ?_|refine lda ?_|refine bdm ?_|refine srz ?_|(refine wo ?_; first|(refine ao ?_; first|refine oa ?_)|refine oa ?_)|(refine gc ?_; first|(refine cn (fun hB => ?_) (fun hB => ?_) <;> try (exfalso; omega)))|refine sq ?_|refine rg ?_|refine xc ?_|refine nl ?_|refine rt ?_
    refine TX.im (own_nil T64 _) (TX.im (own_nil T64 _) ?_)
    exact rca (cs := [.bool false, nS, nS]) (vs := [.bool false, nS, nS]) (T := TRt) ⟨rfl, rfl⟩
  rw [hk] at hck
  obtain ⟨hE, k1, k2, k3⟩ := rwE_ok hk
  have hb := alE_bnd hE
  by_cases hd : d < 1 ∨ cut.length < d
  · unfold meaW
    rw [if_pos hk, if_pos hd]
    clear hk hE
    refine Tr.mono (R := fun u D => u = tup2 rv0 (I 3) ∧ D = [own T64 nS (Us []), own T64 nS (Us [])]) ?_ fun u D h => FW.of0 h
    refine Tr.enter env _ Tryz.func14 (by kernel_rfl) rfl Tryz.ntmps14 rfl (by repeat (first | exact has00 | refine has01 ?_)) fun w0 => ?_
    repeat' first|(refine gca ?_; first|(refine ca hck ?_; rintro _ _ ⟨rfl, rfl⟩))|refine bx fun b => ?_|refine al fun b2 => ?_|refine lda ?_|refine bdm ?_|refine srz ?_|(refine wo ?_; first|(refine ao ?_; first|refine oa ?_)|refine oa ?_|refine ld ?_|refine lnm ?_|refine gy ?_|refine gn ?_|(refine gsi (fun hB => ?_) (fun hB => ?_) <;> try (exfalso; omega)))|(refine gc ?_; first|refine ct ?_|refine cf ?_|(refine ci (fun hB => ?_) (fun hB => ?_) <;> try (exfalso; omega)))|refine sq ?_|refine rg ?_|refine xc ?_|refine nl ?_|refine sk ?_|refine rt ?_
    all_goals
      refine TX.im (own_nil T64 _) (TX.im (own_nil T64 _) ?_)
      exact rca (cs := [.bool false, nS, nS]) (vs := [.bool false, nS, nS]) (T := TRt) ⟨rfl, rfl⟩
  rw [meaW_ok hk hd]
  obtain ⟨kn, rfl⟩ : ∃ kn : Nat, k = kn := ⟨k.toNat, by omega⟩
  obtain ⟨dn, rfl⟩ : ∃ dn : Nat, d = dn := ⟨d.toNat, by omega⟩
  obtain ⟨tn, rfl⟩ : ∃ tn : Nat, tot = tn := ⟨tot.toNat, by omega⟩
  simp only [Int.toNat_natCast]
  have hF := Falling_tr kn dn (by omega) (by omega)
  have hfl := fall_len (n := kn) (by omega) dn
  have hfp := fall_pos (n := kn) (k := dn) (by omega)
  obtain ⟨f0, hf0⟩ : ∃ f0, f0 = fall kn dn := ⟨_, rfl⟩
  rw [← hf0] at hF hfl hfp ⊢
  have hG1 := fun v => NGrow_tr v (dg f0) cut.length (Dg_dg _) (by omega) (by omega)
  have hl2 := dg_grow_len (x := cut.length) hfl (by omega)
  have hG2 := fun v => NGrow_tr v (dg (f0 * cut.length)) tn (Dg_dg _) (by omega) (by omega)
  have hl3 := dg_grow_len (x := tn) hl2 (by omega)
  have hp3 : f0 * cut.length * tn ≠ 0 := Nat.mul_ne_zero (Nat.mul_ne_zero hfp (by omega)) (by omega)
  have hO := fun v => over1_tr v (dg (f0 * cut.length * tn)) (Dg_dg _) (by omega) (by rw [nv_dg]; exact hp3)
  simp only [nv_dg] at hG1 hG2 hO
  clear hk hE hf0 hfp hp3 hl2 hl3
  obtain ⟨f1, hf1⟩ : ∃ f1, f1 = f0 * cut.length := ⟨_, rfl⟩
  simp only [← hf1] at hG1 hG2 hO ⊢
  obtain ⟨f2, hf2⟩ : ∃ f2, f2 = f1 * tn := ⟨_, rfl⟩
  simp only [← hf2] at hG2 hO ⊢
  obtain ⟨q, hq⟩ : ∃ q, q = mkRat 1 f2 := ⟨_, rfl⟩
  simp only [← hq] at hO ⊢
  clear hq hf1 hf2
  unfold FQ at hO
  refine Tr.enter env _ Tryz.func14 (by kernel_rfl) rfl Tryz.ntmps14 rfl (by repeat (first | exact has00 | refine has01 ?_)) fun w0 => ?_
  repeat' first|(refine gca ?_; first|(refine ca hck ?_; rintro _ _ ⟨rfl, rfl⟩)|(refine ca hF ?_; rintro _ _ ⟨o, rfl, ho2, rfl⟩))|refine bx fun b => ?_|refine al fun b2 => ?_|refine lda ?_|(refine wo ?_; first|(refine ao ?_; first|refine oa ?_)|refine oa ?_|refine ld ?_|refine lnm ?_|refine gy ?_|(refine gsi (fun hB => ?_) (fun hB => ?_) <;> try (exfalso; omega)))|(refine gc ?_; first|refine cf ?_|(refine ci (fun hB => ?_) (fun hB => ?_) <;> try (exfalso; omega)))|refine sq ?_|refine rg ?_|refine xc ?_|refine nl ?_|refine sk ?_
  refine rs (fun w => w.heap[b]? = some (.cells [I tn, cv, ov].toArray TAl (0, 0)) ∧ Sl w cv (Is cut)) ?_ (fun w hw => ⟨pt_at (b := b) (cs := [I tn, cv, ov]) (T := TAl) (by (repeat (first | apply List.Mem.head | apply List.Mem.tail)); first | done | fail) hw, vw_sl (hw.h (vw cv (Is cut)) (by (repeat (first | apply List.Mem.head | apply List.Mem.tail)); first | done | fail))⟩)
  refine tka 0 ?_
  refine tka 1 ?_
  refine tkl 2 (cs := [I tn, cv, ov]) (fun w h => h.1) ?_
  refine tke 3 (v := I cut.length) (by rw [Is_len]) (fun w h => R_len (E := env) (xs := Is cut) rfl rfl h.2) ?_
  refine tk 4 (v := Un cut.length) (fun w h => R_ntuk (E := env) (m := cut.length) rfl rfl rfl (by omega)) ?_
  refine tka 6 ?_
  refine tkl 7 (cs := [I tn, cv, ov]) (fun w h => h.1) ?_
  refine tk 8 (v := Un tn) (fun w h => R_ntuk (E := env) (m := tn) rfl rfl rfl (by omega)) ?_
  refine t1 5 ?_
  refine ca (hG1 o) ?_
  rintro u1 _ ⟨hu1, rfl⟩
  refine nl ?_
  refine te (fun w hw => ⟨pt_at (b := b) (cs := [I tn, cv, ov]) (T := TAl) (by (repeat (first | apply List.Mem.head | apply List.Mem.tail)); first | done | fail) hw, vw_sl (hw.h (vw cv (Is cut)) (by (repeat (first | apply List.Mem.head | apply List.Mem.tail)); first | done | fail))⟩) ?_
  refine t1 9 ?_
  refine ca (hG2 u1) ?_
  rintro u2 _ ⟨hu2, rfl⟩
  refine nl ?_
  refine te (fun w hw => ⟨pt_at (b := b) (cs := [I tn, cv, ov]) (T := TAl) (by (repeat (first | apply List.Mem.head | apply List.Mem.tail)); first | done | fail) hw, vw_sl (hw.h (vw cv (Is cut)) (by (repeat (first | apply List.Mem.head | apply List.Mem.tail)); first | done | fail))⟩) ?_
  refine t1 10 ?_
  refine ca (hO u2) ?_
  rintro _ _ ⟨vn, vd, rfl, hvn, hvd, rfl⟩
  refine nl ?_
  refine te (fun w hw => ⟨pt_at (b := b) (cs := [I tn, cv, ov]) (T := TAl) (by (repeat (first | apply List.Mem.head | apply List.Mem.tail)); first | done | fail) hw, vw_sl (hw.h (vw cv (Is cut)) (by (repeat (first | apply List.Mem.head | apply List.Mem.tail)); first | done | fail))⟩) ?_
  refine t1 11 ?_
  refine srz ?_
  refine nl ?_
  refine te (fun w hw => ⟨pt_at (b := b) (cs := [I tn, cv, ov]) (T := TAl) (by (repeat (first | apply List.Mem.head | apply List.Mem.tail)); first | done | fail) hw, vw_sl (hw.h (vw cv (Is cut)) (by (repeat (first | apply List.Mem.head | apply List.Mem.tail)); first | done | fail))⟩) ?_
  refine tka 12 ?_
  refine t0 ?_
  repeat' first|refine xc ?_|refine rt ?_
  exact rca (cs := [.bool (decide (q.num < 0)), vn, vd]) (vs := [.bool (decide (q.num < 0)), vn, vd]) (T := TRt) ⟨vn, vd, rfl, hvn, hvd, rfl⟩
theorem ChaW_tr (s : Value) (t : List Int) (k d : Int) : Tr Tryz.prog 16 [s, I k, I d] [vw s (Is t)] [] (FW (chaW t k d)) := by
  have hck := SoCheck_tr s t k
  by_cases hk : solE t k = 0
  rotate_left
  · unfold chaW
    rw [if_neg hk]
    rw [(solE_cases t k).resolve_left hk] at hck
    refine Tr.mono (R := fun u D => u = tup2 rv0 (I 13) ∧ D = [own T64 nS (Us []), own T64 nS (Us [])]) ?_ fun u D h => FW.of0 h
    refine Tr.enter env _ Tryz.func16 (by kernel_rfl) rfl Tryz.ntmps16 rfl (by repeat (first | exact has00 | refine has01 ?_)) fun w0 => ?_
    repeat' first|(refine gca ?_; first|(refine ca hck ?_; rintro _ _ ⟨rfl, rfl⟩))|refine al fun b2 => ?_|refine bdm ?_|refine srz ?_|(refine wo ?_; first|(refine ao ?_; first|refine oa ?_)|refine oa ?_)|(refine gc ?_; first|refine ct ?_)|refine sq ?_|refine rg ?_|refine xc ?_|refine nl ?_|refine bk ?_|refine rt ?_
    refine TX.im (own_nil T64 _) (TX.im (own_nil T64 _) ?_)
    exact rca (cs := [.bool false, nS, nS]) (vs := [.bool false, nS, nS]) (T := TRt) ⟨rfl, rfl⟩
  rw [hk] at hck
  obtain ⟨⟨k1, k2⟩, ⟨t1, t2⟩, hw, hpos⟩ := solE_zero hk
  by_cases hd : d < 1 ∨ t.length < d
  · unfold chaW
    rw [if_pos hk, if_pos hd]
    clear hk hpos
    refine Tr.mono (R := fun u D => u = tup2 rv0 (I 3) ∧ D = [own T64 nS (Us []), own T64 nS (Us [])]) ?_ fun u D h => FW.of0 h
    refine Tr.enter env _ Tryz.func16 (by kernel_rfl) rfl Tryz.ntmps16 rfl (by repeat (first | exact has00 | refine has01 ?_)) fun w0 => ?_
    repeat' first|(refine gca ?_; first|(refine ca hck ?_; rintro _ _ ⟨rfl, rfl⟩))|refine al fun b2 => ?_|refine bdm ?_|refine srz ?_|(refine wo ?_; first|(refine ao ?_; first|refine oa ?_)|refine oa ?_|refine lnm ?_|refine gy ?_|refine gn ?_|(refine gsi (fun hB => ?_) (fun hB => ?_) <;> try (exfalso; omega)))|(refine gc ?_; first|refine ct ?_|refine cf ?_|(refine ci (fun hB => ?_) (fun hB => ?_) <;> try (exfalso; omega)))|refine sq ?_|refine rg ?_|refine xc ?_|refine nl ?_|refine bk ?_|refine rt ?_
    all_goals
      refine TX.im (own_nil T64 _) (TX.im (own_nil T64 _) ?_)
      exact rca (cs := [.bool false, nS, nS]) (vs := [.bool false, nS, nS]) (T := TRt) ⟨rfl, rfl⟩
  rw [show chaW t k d = (rqf (mkRat (t.getD (d - 1).toNat 0) (chs k.toNat d.toNat * t.sum.toNat)), 0) by unfold chaW; rw [if_pos hk, if_neg hd]]
  obtain ⟨kn, rfl⟩ : ∃ kn : Nat, k = kn := ⟨k.toNat, by omega⟩
  obtain ⟨dn, rfl⟩ : ∃ dn : Nat, d = dn := ⟨d.toNat, by omega⟩
  have hT := SoTotal_tr s t ⟨by omega, by omega⟩ hw
  have hsb := sum_wOk hw
  have hsp : 0 < t.sum := sum_posT hw hpos
  obtain ⟨tn, htn⟩ : ∃ tn : Nat, t.sum = tn := ⟨t.sum.toNat, by omega⟩
  rw [htn] at hT hsb hsp ⊢
  have hwb := hw (t.getD ((dn : Int) - 1).toNat 0) (mem_getD.2 ⟨_, by omega, rfl⟩)
  obtain ⟨wn, hwn⟩ : ∃ wn : Nat, t.getD ((dn : Int) - 1).toNat 0 = wn := ⟨(t.getD ((dn : Int) - 1).toNat 0).toNat, by omega⟩
  rw [hwn] at hwb ⊢
  simp only [Int.toNat_natCast]
  have hF := Choose_tr kn dn (by omega) (by omega)
  have hfl := chs_len kn dn
  have hfp := chs_pos (n := kn) (k := dn) (by omega)
  obtain ⟨f0, hf0⟩ : ∃ f0, f0 = chs kn dn := ⟨_, rfl⟩
  rw [← hf0] at hF hfl hfp ⊢
  have hG1 := fun v => NGrow_tr v (dg f0) tn (Dg_dg _) (by omega) (by omega)
  have hl2 := dg_grow_len (x := tn) hfl (by omega)
  have hp2 : f0 * tn ≠ 0 := Nat.mul_ne_zero hfp (by omega)
  have hw1 := dg_len1 (n := wn) (by omega)
  have hM := fun o => IMake_tr false o (dg wn) (Dg_dg wn) (by omega)
  have hs : sg false wn = (wn : Int) := rfl
  have hR := fun o dv => FMake_tr (wn : Int) o dv (dg (f0 * tn)) (Dg_dg _) (by unfold dz; rw [Int.natAbs_natCast]; omega) (by omega) (by rw [nv_dg]; exact hp2)
  simp only [nv_dg, hs] at hG1 hM hR
  unfold IR at hM
  unfold dz at hR
  simp only [Int.natAbs_natCast] at hM hR
  unfold FQ2 at hR
  clear hk hpos hf0 hfp hp2 hl2 hs hw
  obtain ⟨f1, hf1⟩ : ∃ f1, f1 = f0 * tn := ⟨_, rfl⟩
  simp only [← hf1] at hG1 hR ⊢
  obtain ⟨q, hq⟩ : ∃ q, q = mkRat (wn : Int) f1 := ⟨_, rfl⟩
  simp only [← hq] at hR ⊢
  clear hq hf1
  refine Tr.enter env _ Tryz.func16 (by kernel_rfl) rfl Tryz.ntmps16 rfl (by repeat (first | exact has00 | refine has01 ?_)) fun w0 => ?_
  repeat' first|(refine gca ?_; first|(refine ca hck ?_; rintro _ _ ⟨rfl, rfl⟩)|(refine ca hF ?_; rintro _ _ ⟨o, rfl, ho, rfl⟩)|(refine ca (Of_tr wn (by omega)) ?_; rintro o1 _ ⟨ho1, rfl⟩)|(refine ca (hM o1) ?_; rintro _ _ ⟨o2, rfl, ho2, rfl⟩)|(refine ca hT ?_; rintro _ _ ⟨rfl, rfl⟩)|(refine ca (hG1 o) ?_; rintro u1 _ ⟨hu1, rfl⟩)|(refine ca (hR o2 u1) ?_; rintro _ _ ⟨vn, vd, rfl, hvn, hvd, rfl⟩))|refine al fun b2 => ?_|(refine lie hwn ?_)|(refine ntu (m := (wn : Int)) ?_; rw [Int.toNat_natCast])|(refine ntu (m := (tn : Int)) ?_; rw [Int.toNat_natCast])|refine srz ?_|(refine wo ?_; first|(refine ao ?_; first|refine aw ?_|refine oa ?_)|refine oa ?_|refine lnm ?_|refine ixm ?_|refine gy ?_|(refine gsi (fun hB => ?_) (fun hB => ?_) <;> try (exfalso; omega)))|(refine gc ?_; first|refine cf ?_|(refine ci (fun hB => ?_) (fun hB => ?_) <;> try (exfalso; omega)))|refine sq ?_|refine rg ?_|refine xc ?_|refine nl ?_|refine sk ?_|refine bk ?_|refine rt ?_|refine xb ?_
  exact rca (cs := [.bool (decide (q.num < 0)), vn, vd]) (vs := [.bool (decide (q.num < 0)), vn, vd]) (T := TRt) ⟨vn, vd, rfl, hvn, hvd, rfl⟩
end Go.Art
set_option linter.unusedSimpArgs false
set_option linter.unusedVariables false
namespace Go.Art
open Go Go.Proofs Go.RowKit
attribute [local irreducible] Fit pt own ro vw mpc lpt vels rels mow lrc dfr
theorem SameInts_tr (a b : Value) (xs ys : List Int) : Tr Tryz.prog 21 [a, b] [vw a (Is xs), vw b (Is ys)] [] fun v D => v = .bool (decide (xs = ys)) ∧ D = [] := by
  refine Tr.enter env _ Tryz.func21 (by kernel_rfl) rfl Tryz.ntmps21 rfl (by repeat (first | exact has00 | refine has01 ?_)) fun w0 => ?_
  refine TC.leni (l := xs) fun hl => ?_
  repeat' first|(refine wo ?_; first|(refine ao ?_; first|refine oa ?_)|refine oa ?_|refine lnm ?_)|(refine gc ?_; first|(refine cn (fun hB => ?_) (fun hB => ?_) <;> try (exfalso; omega)))|refine sq ?_|refine rg ?_|refine xc ?_|refine nl ?_|refine sk ?_|refine bk ?_|refine rt ?_
  · refine r1 ⟨?_, rfl⟩
    rw [decide_eq_false]; intro e; subst e; omega
  · refine TC.loop (ι := Nat) (fun k => [(5, I k)]) (fun _ => []) (fun k => k ≤ xs.length ∧ ∀ j, j < k → xs.getD j 0 = ys.getD j 0) (fun k => xs.length - k) 0 [0, 1] ⟨by omega, by omega⟩ ?_
    rintro k ⟨hk, heq⟩
    repeat' first|(refine wo ?_; first|(refine ao ?_; first|refine aw ?_|refine oa ?_)|refine oa ?_|refine lnm ?_)|(refine gc ?_; first|(refine ci (fun hB => ?_) (fun hB => ?_) <;> try (exfalso; omega))|(refine cn (fun hB => ?_) (fun hB => ?_) <;> try (exfalso; omega)))|refine sq ?_|refine rg ?_|refine xc ?_|refine nl ?_|refine sk ?_|refine bk ?_|refine xe ?_|refine rt ?_|refine xb ?_|refine rq ?_|refine nq ?_|(refine wq ?_; first|(refine qao ?_; first|refine qa ?_)|refine qa ?_|refine qixmn ?_|refine qli ?_)
    · refine r1 ⟨?_, rfl⟩
      rw [decide_eq_false]; intro e; exact hB (by rw [e])
    · refine lp (k + 1) ⟨by omega, fun j hj => ?_⟩
      by_cases hjk : j < k
      · exact heq j hjk
      · obtain rfl : j = k := by omega
        assumption
    · refine r1 ⟨?_, rfl⟩
      rw [decide_eq_true]
      exact eq_of_getD (by omega) (fun j hj => heq j (by omega))

end Go.Art
set_option linter.unusedSimpArgs false
set_option linter.unusedVariables false
namespace Go.Art
open Go Go.Proofs Go.RowKit
theorem eq_of_getDN {xs ys : List Nat} (hl : xs.length = ys.length) (h : ∀ j, j < xs.length → xs.getD j 0 = ys.getD j 0) : xs = ys := by
  refine List.ext_getElem hl fun i h1 h2 => ?_
  have := h i h1
  simpa [List.getD_eq_getElem?_getD, h1, h2] using this
attribute [local irreducible] Fit pt own ro vw mpc lpt vels rels mow lrc dfr
attribute [local irreducible] lmp lme mit velg relg
theorem SameNat_tr (a b : Value) (xs ys : List Nat) : Tr Tryz.prog 61 [a, b] [vw a (Us xs), vw b (Us ys)] [] fun v D => v = .bool (decide (xs = ys)) ∧ D = [] := by
  refine Tr.enter env _ Tryz.func61 (by kernel_rfl) rfl Tryz.ntmps61 rfl (by repeat (first | exact has00 | refine has01 ?_)) fun w0 => ?_
  refine TC.lenu (l := xs) fun hl => ?_
  repeat' first|(refine wo ?_; first|(refine ao ?_; first|refine oa ?_)|refine oa ?_|refine lnm ?_)|(refine gc ?_; first|(refine cn (fun hB => ?_) (fun hB => ?_) <;> try (exfalso; omega)))|refine sq ?_|refine rg ?_|refine xc ?_|refine nl ?_|refine sk ?_|refine bk ?_|refine rt ?_
  · refine r1 ⟨?_, rfl⟩
    rw [decide_eq_false]; intro e; subst e; omega
  · refine TC.loop (ι := Nat) (fun k => [(5, I k)]) (fun _ => []) (fun k => k ≤ xs.length ∧ ∀ j, j < k → xs.getD j 0 = ys.getD j 0) (fun k => xs.length - k) 0 [0, 1] ⟨by omega, by omega⟩ ?_
    rintro k ⟨hk, heq⟩
    repeat' first|(refine wo ?_; first|(refine ao ?_; first|refine aw ?_|refine oa ?_)|refine oa ?_|refine lnm ?_)|(refine gc ?_; first|(refine ci (fun hB => ?_) (fun hB => ?_) <;> try (exfalso; omega))|(refine cn (fun hB => ?_) (fun hB => ?_) <;> try (exfalso; omega)))|refine sq ?_|refine rg ?_|refine xc ?_|refine nl ?_|refine sk ?_|refine bk ?_|refine xe ?_|refine rt ?_|refine xb ?_|refine rq ?_|refine nq ?_|(refine wq ?_; first|(refine qao ?_; first|refine qa ?_)|refine qlu ?_|refine qa ?_|refine qixmn ?_)
    · refine r1 ⟨?_, rfl⟩
      rw [decide_eq_false]; intro e; exact hB (by rw [e])
    · refine lp (k + 1) ⟨by omega, fun j hj => ?_⟩
      by_cases hjk : j < k
      · exact heq j hjk
      · obtain rfl : j = k := by omega
        omega
    · refine r1 ⟨?_, rfl⟩
      rw [decide_eq_true]
      exact eq_of_getDN (by omega) (fun j hj => heq j (by omega))
theorem SameWhole_tr (b1 b2 : Bool) (o1 o2 : Value) (l1 l2 : List Nat) : Tr Tryz.prog 60 [.agg #[.bool b1, o1], .agg #[.bool b2, o2]] [vw o1 (Us l1), vw o2 (Us l2)] [] fun v D => v = .bool (decide (b1 = b2 ∧ l1 = l2)) ∧ D = [] := by
  refine Tr.enter env _ Tryz.func60 (by kernel_rfl) rfl Tryz.ntmps60 rfl (by repeat (first | exact has00 | refine has01 ?_)) fun w0 => ?_
  repeat' first|(refine gca ?_; first|(refine ca (SameNat_tr o1 o2 l1 l2) ?_; rintro _ _ ⟨rfl, rfl⟩))|refine bx fun q => ?_|(refine wo ?_; first|(refine ao ?_; first|refine ibe ?_)|refine oa ?_|refine ld ?_|refine gy ?_|refine gn ?_|(refine gsi (fun hB => ?_) (fun hB => ?_) <;> try (exfalso; omega)))|refine sq ?_|refine rg ?_|refine xc ?_|refine nl ?_|refine rt ?_
  · have e : b1 = b2 := by simpa using hB
    refine r1 ⟨?_, rfl⟩
    congr 1; exact decide_eq_decide.2 ⟨fun h => ⟨e, h⟩, fun h => h.2⟩
  · have e : ¬ b1 = b2 := by simpa using hB
    refine r1 ⟨?_, rfl⟩
    rw [decide_eq_false fun h => e h.1]
theorem SameRatio_tr (t1 t2 : Fr3) (n1 d1 n2 d2 : Value) : Tr Tryz.prog 18 [.agg #[.bool t1.1, n1, d1], .agg #[.bool t2.1, n2, d2]] [vw n1 (Us t1.2.1), vw d1 (Us t1.2.2), vw n2 (Us t2.2.1), vw d2 (Us t2.2.2)] []
    fun v D => v = .bool (decide (t1 = t2)) ∧ D = [] := by
  obtain ⟨b1, x1, y1⟩ := t1
  obtain ⟨b2, x2, y2⟩ := t2
  dsimp only
  refine Tr.enter env _ Tryz.func18 (by kernel_rfl) rfl Tryz.ntmps18 rfl (by repeat (first | exact has00 | refine has01 ?_)) fun w0 => ?_
  repeat' first|(refine gca ?_; first|(refine ca (SameWhole_tr b1 b2 n1 n2 x1 x2) ?_; rintro _ _ ⟨rfl, rfl⟩)|(refine ca (SameNat_tr d1 d2 y1 y2) ?_; rintro _ _ ⟨rfl, rfl⟩))|refine bx fun q => ?_|refine lda ?_|(refine wo ?_; first|refine oa ?_|refine ld ?_|refine gy ?_|refine gn ?_|(refine gsi (fun hB => ?_) (fun hB => ?_) <;> try (exfalso; omega)))|refine sq ?_|refine rg ?_|refine xc ?_|refine nl ?_|refine rt ?_
  · refine r1 ⟨?_, rfl⟩
    congr 1; refine decide_eq_decide.2 ⟨fun h => by rw [hB.1, hB.2, h], fun h => by injection h with _ h; injection h⟩
  · refine r1 ⟨?_, rfl⟩
    rw [decide_eq_false fun h => hB (by injection h with h1 h; injection h with h2 _; exact ⟨h1, h2⟩)]
theorem LongAlias_tr (tot m : Int) (cv ov : Value) (cut oth : List Int) : Tr Tryz.prog 9 [.agg #[I tot, cv, ov], I m] [vw cv (Is cut), vw ov (Is oth)] [] fun v D => v = .bool (decide (m < cut.length ∨ m < oth.length)) ∧ D = [] := by
  refine Tr.enter env _ Tryz.func9 (by kernel_rfl) rfl Tryz.ntmps9 rfl (by repeat (first | exact has00 | refine has01 ?_)) fun w0 => ?_
  repeat' first|refine bx fun q => ?_|(refine wo ?_; first|(refine ao ?_; first|refine oa ?_)|refine oa ?_|refine ld ?_|refine lnm ?_|refine gy ?_|refine gn ?_|(refine gsi (fun hB => ?_) (fun hB => ?_) <;> try (exfalso; omega)))|refine sq ?_|refine rg ?_|refine xc ?_|refine nl ?_|refine rt ?_
  · refine r1 ⟨?_, rfl⟩
    rw [decide_eq_true (.inl hB)]
  · refine r1 ⟨?_, rfl⟩
    congr 1; exact decide_eq_decide.2 ⟨.inr, fun h => h.resolve_left hB⟩
end Go.Art
set_option linter.unusedSimpArgs false
set_option linter.unusedVariables false
namespace Go.Art
open Go Go.Proofs Go.RowKit
theorem srt_id {xs : List Int} (h : xs.Pairwise (· ≤ ·)) : srt xs = xs := ((srt_perm xs)).eq_of_pairwise (fun a b _ _ h1 h2 => by omega) (srt_sorted xs) h
theorem pickO_of {k d : Int} {x : Lw} {l : List Int} (h : (ordO k d x).1 = (l, 0)) (hs : l.Pairwise (· ≤ ·)) : pickO k d x = (l, 0) := by
  unfold pickO; rw [h, srt_id hs]
theorem setW_of {tot : Int} {cut oth : List Int} {k : Int} {x : Lw} {at1 : Int} {x2 : Lw} {l : List Int} (h1 : rwE tot cut oth k = 0) (h2 : (plcW tot cut oth x).1 = (at1, 0)) (h3 : (plcW tot cut oth x).2.1 = x2) (h4 : (ordO k (at1 + 1) x2).1 = (l, 0)) (hs : l.Pairwise (· ≤ ·)) : (setW tot cut oth k x).1 = (l, 0) := by
  unfold setW
  rw [if_pos h1, h2, if_pos rfl, h3]
  exact pickO_of h4 hs
theorem few1 : (setW 4 [2, 4] [1, 1] 3 (.inr ([0, 1, 2], false))).1 = ([2], 0) := setW_of (at1 := 0) (x2 := .inr ([2], false)) (by decide) (by decide) (by kernel_rfl) (by decide) (by simp)
theorem few2 : (setW 4 [2, 4] [1, 1] 3 (.inr ([0, 2, 0, 1], false))).1 = ([0, 2], 0) := setW_of (at1 := 1) (x2 := .inr ([0, 1], false)) (by decide) (by decide) (by kernel_rfl) (by decide) (by simp)
theorem mea1 : meaW 4 [2, 4] [1, 1] 3 2 = (rqf (mkRat 1 48), 0) := by
  rw [meaW_ok (by decide) (by decide)]; rfl
theorem cha1 : chaW [1, 3] 3 1 = (rqf (mkRat 1 12), 0) := by
  unfold chaW; rw [if_pos (by decide), if_neg (by decide)]; rfl
attribute [local irreducible] Fit pt own ro vw mpc lpt vels rels mow lrc dfr
attribute [local irreducible] lmp lme mit velg relg
theorem few_tr : Tr Tryz.prog 35 [] [] [] fun v D => ∃ c o, v = .agg #[I 4, c, o] ∧ c.oneCell' = true ∧ o.oneCell' = true ∧ D = [own TLI c (Is [2, 4]), own TLI o (Is [1, 1])] := by
  refine Tr.enter env _ Tryz.func35 (by kernel_rfl) rfl Tryz.ntmps35 rfl (by repeat (first | exact has00 | refine has01 ?_)) fun w0 => ?_
  repeat' first|refine al fun q => ?_|refine slz fun v hv => ?_|refine bdz ?_|refine srz ?_|refine sq ?_|refine rg ?_|refine xc ?_|refine nl ?_|refine rt ?_
  rename_i c hc
  exact rca1 (cs := [I 4, c, v]) (vs := [I 4, c, v]) (T := TAl) ⟨c, v, rfl, hc, hv, rfl⟩
theorem draws_tr (k e : Int) (lv wv : Value) (l want : List Int) (hl : l.length ≤ 1000) : Tr Tryz.prog 36 [I k, lv, I e, wv] [vw lv (Is l), vw wv (Is want)] []
    fun v D => v = .bool (decide ((setW 4 [2, 4] [1, 1] k (.inr (l, false))).1 = (want, e))) ∧ D = [] := by
  have hS := fun b r sv c o hc ho => SetW_tr 4 k c o [2, 4] [1, 1] b r sv (.inr (l, false)) (okL_row l false) hc ho
  generalize setW 4 [2, 4] [1, 1] k (.inr (l, false)) = sw at *
  obtain ⟨⟨s, f⟩, x2, u2⟩ := sw
  dsimp only at hS ⊢
  refine Tr.enter env _ Tryz.func36 (by kernel_rfl) rfl Tryz.ntmps36 rfl (by repeat (first | exact has00 | refine has01 ?_)) fun w0 => ?_
  repeat' first|(refine gca ?_; first|(refine ca few_tr ?_; rintro _ _ ⟨c, o, rfl, hc, ho, rfl⟩)|(refine ca (LRow_tr lv l (by omega)) ?_; rintro _ _ ⟨b, r, sv, rfl, rfl⟩)|(refine ca (hS b r sv c o hc ho) ?_; rintro _ _ ⟨so, sv2, rfl, rfl⟩)|(refine ca (SameInts_tr so wv s want) ?_; rintro _ _ ⟨rfl, rfl⟩))|(refine wo ?_; first|(refine ao ?_; first|refine oa ?_)|refine oa ?_|refine gy ?_|refine gn ?_|(refine gsi (fun hB => ?_) (fun hB => ?_) <;> try (exfalso; omega)))|refine sq ?_|refine rg ?_|refine xc ?_|refine nl ?_|refine rt ?_
  · refine r1 ⟨?_, rfl⟩
    congr 1; exact decide_eq_decide.2 ⟨fun h => by rw [h, hB], fun h => by injection h⟩
  · refine r1 ⟨?_, rfl⟩
    rw [decide_eq_false fun h => hB (by injection h)]
theorem is_tr (t : Fr3) (e : Int) (n1 d1 : Value) (x y : Nat) (hx : x < 9223372036854775808) (hy : y < 9223372036854775808) (hy0 : y ≠ 0) : Tr Tryz.prog 37 [.agg #[.bool t.1, n1, d1], I e, I x, I y] [vw n1 (Us t.2.1), vw d1 (Us t.2.2)] []
    fun v D => v = .bool (decide (e = 0 ∧ t = rqf (mkRat x y))) ∧ D = [] := by
  have hP := FPair_tr x y hx hy hy0
  unfold FQ2 at hP
  have hl : 0 < (dg (mkRat (x : Int) y).den).length := by have := dg_len_pos (mkRat (x : Int) y).den_nz; omega
  generalize mkRat (x : Int) y = q at *
  refine Tr.enter env _ Tryz.func37 (by kernel_rfl) rfl Tryz.ntmps37 rfl (by repeat (first | exact has00 | refine has01 ?_)) fun w0 => ?_
  repeat' first|(refine gca ?_; first|(refine ca hP ?_; rintro _ _ ⟨vn, vd, rfl, hvn, hvd, rfl⟩)|(refine ca (SameRatio_tr t (rqf q) n1 d1 vn vd) ?_; rintro _ _ ⟨rfl, rfl⟩))|refine bx fun b1 => ?_|refine al fun b2 => ?_|refine lda ?_|refine srz ?_|(refine wo ?_; first|(refine ao ?_; first|refine oa ?_)|refine oa ?_|refine ld ?_|refine lnm ?_|refine gy ?_|refine gn ?_|(refine gsi (fun hB => ?_) (fun hB => ?_) <;> try (exfalso; omega)))|refine sq ?_|refine rg ?_|refine xc ?_|refine nl ?_|refine rt ?_
  · refine r1 ⟨?_, rfl⟩
    congr 1; exact decide_eq_decide.2 ⟨fun h => ⟨by assumption, h⟩, fun h => h.2⟩
  · refine r1 ⟨?_, rfl⟩
    rw [decide_eq_false fun h => absurd h.1 (by assumption)]
theorem awake_tr : Tr Tryz.prog 11 [] [] [] fun v D => v = .bool true ∧ D = [] := by
  have hM := fun c o hc ho => MeaW_tr 4 3 2 c o [2, 4] [1, 1] hc ho
  have hC := fun s => ChaW_tr s [1, 3] 3 1
  simp only [mea1] at hM
  simp only [cha1] at hC
  unfold FW at hM hC
  dsimp only at hM hC
  have hI1 := fun n1 d1 => is_tr (rqf (mkRat 1 48)) 0 n1 d1 1 48 (by decide) (by decide) (by decide)
  have hI2 := fun n1 d1 => is_tr (rqf (mkRat 1 12)) 0 n1 d1 1 12 (by decide) (by decide) (by decide)
  simp only [show ((1 : Nat) : Int) = 1 from rfl, and_self, decide_true] at hI1 hI2
  have hD1 := fun lv wv => draws_tr 3 0 lv wv [0, 1, 2] [2] (by decide)
  have hD2 := fun lv wv => draws_tr 3 0 lv wv [0, 2, 0, 1] [0, 2] (by decide)
  rw [few1] at hD1
  rw [few2] at hD2
  simp only [decide_true] at hD1 hD2
  generalize mkRat 1 48 = q1 at *
  generalize mkRat 1 12 = q2 at *
  refine Tr.enter env _ Tryz.func11 (by kernel_rfl) rfl Tryz.ntmps11 rfl (by repeat (first | exact has00 | refine has01 ?_)) fun w0 => ?_
  repeat' first|(refine gca ?_; first|(refine ca few_tr ?_; rintro _ _ ⟨c, o, rfl, hc, ho, rfl⟩)|(refine ca (hM c o hc ho) ?_; rintro _ _ ⟨n1, d1, rfl, hn1, hd1, rfl⟩)|(refine ca (hC _) ?_; rintro _ _ ⟨n2, d2, rfl, hn2, hd2, rfl⟩)|(refine ca (hD1 _ _) ?_; rintro _ _ ⟨rfl, rfl⟩)|(refine ca (hD2 _ _) ?_; rintro _ _ ⟨rfl, rfl⟩)|(refine ca (hI1 n1 d1) ?_; rintro _ _ ⟨rfl, rfl⟩)|(refine ca (hI2 n2 d2) ?_; rintro _ _ ⟨rfl, rfl⟩))|refine slz fun v hv => ?_|refine al fun b1 => ?_|refine srz ?_|refine lda ?_|(refine wo ?_; first|refine oa ?_|refine gy ?_)|refine sq ?_|refine rg ?_|refine xc ?_|refine nl ?_|refine rt ?_
  exact r1 ⟨rfl, rfl⟩
end Go.Art
set_option linter.unusedSimpArgs false
set_option linter.unusedVariables false
namespace Go.Art
open Go Go.Proofs Go.RowKit
theorem mod_succ (M n : Nat) (hn : 0 < n) : (M % n = n - 1 → (M + 1) % n = 0) ∧ (M % n ≠ n - 1 → (M + 1) % n = M % n + 1) := by
  have h1 := Nat.div_add_mod M n
  have h2 := Nat.mod_lt M hn
  constructor
  · intro e
    have : M + 1 = n * (M / n + 1) := by rw [Nat.mul_add]; omega
    rw [this, Nat.mul_mod_right]
  · intro e
    have : M + 1 = n * (M / n) + (M % n + 1) := by omega
    rw [this, Nat.mul_add_mod, Nat.mod_eq_of_lt (by omega)]
def over (n : Int) : BitVec 64 := c64 18446744073709551615 % c64 n
theorem overR_toNat {n : Int} (h : 1 ≤ n ∧ n ≤ 1099511627776) : (over n).toNat = 18446744073709551615 % n.toNat := by
  unfold over
  rw [BitVec.toNat_umod, c64_toNat (by omega), c64_toNat (by omega)]
  rfl
theorem over_last {n : Int} (h : 1 ≤ n ∧ n ≤ 1099511627776) (e : over n = c64 n - c64 1) : lim n.toNat = 18446744073709551615 := by
  have h1 := congrArg BitVec.toNat e
  rw [overR_toNat h, BitVec.toNat_sub, c64_toNat (by omega), c64_toNat (by omega)] at h1
  have h2 : 18446744073709551615 % n.toNat = n.toNat - 1 := by omega
  have h3 : 18446744073709551616 % n.toNat = 0 := (mod_succ 18446744073709551615 n.toNat (by omega)).1 h2
  unfold lim
  omega
theorem over_else {n : Int} (h : 1 ≤ n ∧ n ≤ 1099511627776) (e : ¬ over n = c64 n - c64 1) : (c64 18446744073709551615 - over n).toNat = lim n.toNat + 1 := by
  have h0 := overR_toNat h
  have h2 : 18446744073709551615 % n.toNat ≠ n.toNat - 1 := fun q => e (BitVec.eq_of_toNat_eq (by
    rw [h0, q, BitVec.toNat_sub, c64_toNat (by omega), c64_toNat (by omega)]; omega))
  have h3 : 18446744073709551616 % n.toNat = 18446744073709551615 % n.toNat + 1 := (mod_succ 18446744073709551615 n.toNat (by omega)).2 h2
  have h4 := Nat.mod_lt 18446744073709551615 (show 0 < n.toNat by omega)
  have e64 : Int.toNat 18446744073709551615 = 18446744073709551615 := rfl
  have e65 : 2 ^ 64 = 18446744073709551616 := rfl
  rw [BitVec.toNat_sub, h0, c64_toNat (by omega), e64, e65]
  unfold lim
  rw [h3]
  generalize 18446744073709551615 % n.toNat = m at *
  omega
attribute [local irreducible] Fit pt own ro vw mpc lpt vels rels mow lrc dfr
abbrev TRl : TypeId := 57
abbrev rloP (b : Nat) (st : BitVec 64) (used : Int) : List Ch := [pt b [nS, .bool true, U st, I used, .bool false] TRl]
theorem RStir_tr (x : BitVec 64) : Tr Tryz.prog 70 [U x] [] [] fun v D => v = U (stir x) ∧ D = [] := by
  refine Tr.enter env _ Tryz.func70 (by kernel_rfl) rfl Tryz.ntmps70 rfl (by repeat (first | exact has00 | refine has01 ?_)) fun w0 => ?_
  repeat' first|refine uad ?_|refine uml ?_|refine uxr ?_|refine ush ?_|(refine wo ?_; first|refine oa ?_)|refine sq ?_|refine rg ?_|refine xc ?_|refine nl ?_|refine rt ?_
  exact r1 ⟨rfl, rfl⟩
theorem word_tr (b : Nat) (st : BitVec 64) (used : Int) : Tr Tryz.prog 101 [ptr b] [] (rloP b st used) fun v D => v = U (stir st) ∧ D = rloP b (st + gold) used := by
  refine Tr.enter env _ Tryz.func101 (by kernel_rfl) rfl Tryz.ntmps101 rfl (by repeat (first | exact has00 | refine has01 ?_)) fun w0 => ?_
  repeat' first|(refine gca ?_; first|(refine ca (RStir_tr _) ?_; rintro _ _ ⟨rfl, rfl⟩))|refine uad ?_|(refine wo ?_; first|refine oa ?_|refine ld ?_|refine sr ?_)|refine sq ?_|refine rg ?_|refine xc ?_|refine nl ?_|refine rt ?_
  exact r1 ⟨rfl, rfl⟩
theorem RDraw_tr (b : Nat) (st : BitVec 64) (used n : Int) (hu : 0 ≤ used ∧ used ≤ 4611686018427387904) : Tr Tryz.prog 66 [ptr b, I n] [] (rloP b st used)
    fun v D => v = tup2 (I (ldraw n st used).1.1) (I (ldraw n st used).1.2) ∧ D = rloP b (ldraw n st used).2.1 (ldraw n st used).2.2 := by
  by_cases hn : 1 ≤ n ∧ n ≤ 1099511627776
  rotate_left
  · rw [show ldraw n st used = ((0, 3), (st, used)) from if_neg hn]
    refine Tr.enter env _ Tryz.func66 (by kernel_rfl) rfl Tryz.ntmps66 rfl (by repeat (first | exact has00 | refine has01 ?_)) fun w0 => ?_
    repeat' first|(refine wo ?_; first|(refine ao ?_; first|refine oa ?_)|refine oa ?_|refine gy ?_|refine gn ?_|(refine gsi (fun hB => ?_) (fun hB => ?_) <;> try (exfalso; omega)))|(refine gc ?_; first|refine ct ?_|(refine ci (fun hB => ?_) (fun hB => ?_) <;> try (exfalso; omega)))|refine sq ?_|refine rg ?_|refine xc ?_|refine nl ?_|refine rt ?_
    all_goals exact r2 ⟨rfl, rfl⟩
  rw [show ldraw n st used = ((((sdraw n.toNat st).1 : Int), 0), ((sdraw n.toNat st).2, used + 1)) from if_pos hn]
  have hnz := c64_ne (n := n) (by omega)
  have hml : ∀ x : BitVec 64, (x % c64 n).toNat = x.toNat % n.toNat ∧ (x % c64 n).toNat ≤ 9223372036854775807 := fun x => by
    have h2 := Nat.mod_lt x.toNat (show 0 < n.toNat by omega)
    have h3 : (x % c64 n).toNat = x.toNat % n.toNat := by rw [BitVec.toNat_umod, c64_toNat (by omega)]
    exact ⟨h3, by omega⟩
  by_cases he : over n = c64 n - c64 1
  · have hs : sacc n.toNat st = st := sacc_yes (by rw [over_last hn he]; have := (stir st).isLt; omega)
    have hv : (sdraw n.toNat st).1 = (stir st % c64 n).toNat := by rw [(hml _).1]; unfold sdraw; rw [hs]
    have hv2 : (sdraw n.toNat st).2 = st + gold := by unfold sdraw; rw [hs]
    rw [hv, hv2]
    refine Tr.enter env _ Tryz.func66 (by kernel_rfl) rfl Tryz.ntmps66 rfl (by repeat (first | exact has00 | refine has01 ?_)) fun w0 => ?_
    repeat' first|(refine gca ?_; first|(refine ca (word_tr b st (used + 1)) ?_; rintro _ _ ⟨rfl, rfl⟩))|refine uto ?_|refine urm ?_|refine usb ?_|(refine TO.val (v := .bool true) (fun _ _ => R_true (R_ueql (p := over n) (q := c64 n - c64 1) rfl rfl) he) ?_ rfl)|refine uof ?_ (h := (hml _).2)|(refine wo ?_; first|(refine ao ?_; first|refine aw ?_|refine oa ?_)|refine oa ?_|refine ld ?_|refine sr ?_|refine gy ?_|(refine gsi (fun hB => ?_) (fun hB => ?_) <;> try (exfalso; omega)))|(refine gc ?_; first|refine ct ?_|(refine ci (fun hB => ?_) (fun hB => ?_) <;> try (exfalso; omega)))|refine sq ?_|refine rg ?_|refine xc ?_|refine nl ?_|refine sk ?_|refine rt ?_
    exact r2 ⟨rfl, rfl⟩
  · have hlim : ∀ x : BitVec 64, (x.toNat ≤ lim n.toNat → ¬ (c64 18446744073709551615 - over n).toNat ≤ x.toNat) ∧ (¬ x.toNat ≤ lim n.toNat → (c64 18446744073709551615 - over n).toNat ≤ x.toNat) := fun x => by
      have hl : (c64 18446744073709551615 - over n).toNat = lim n.toNat + 1 := over_else hn he
      constructor <;> omega
    refine Tr.enter env _ Tryz.func66 (by kernel_rfl) rfl Tryz.ntmps66 rfl (by repeat (first | exact has00 | refine has01 ?_)) fun w0 => ?_
    repeat' first|(refine gca ?_; first|(refine ca (word_tr b st (used + 1)) ?_; rintro _ _ ⟨rfl, rfl⟩))|refine uto ?_|refine urm ?_|refine usb ?_|(refine TO.val (v := .bool false) (fun _ _ => R_false (R_ueql (p := over n) (q := c64 n - c64 1) rfl rfl) he) ?_ rfl)|(refine wo ?_; first|(refine ao ?_; first|refine aw ?_|refine oa ?_)|refine oa ?_|refine ld ?_|refine sr ?_|refine gy ?_|(refine gsi (fun hB => ?_) (fun hB => ?_) <;> try (exfalso; omega)))|(refine gc ?_; first|refine ct ?_|refine cf ?_|(refine ci (fun hB => ?_) (fun hB => ?_) <;> try (exfalso; omega)))|refine sq ?_|refine rg ?_|refine xc ?_|refine nl ?_|refine sk ?_|refine bk ?_
    refine TC.loop (ι := BitVec 64) (fun g => [(7, U (stir g))]) (fun g => rloP b (g + gold) (used + 1)) (fun g => sacc n.toNat g = sacc n.toNat st) far st [0, 1, 6] rfl ?_
    rintro g hg
    by_cases hst : (stir g).toNat ≤ lim n.toNat
    · have hst' := (hlim (stir g)).1 hst
      have hv : (sdraw n.toNat st).1 = (stir g % c64 n).toNat := by rw [(hml _).1]; unfold sdraw; rw [← hg, sacc_yes hst]
      have hv2 : (sdraw n.toNat st).2 = g + gold := by unfold sdraw; rw [← hg, sacc_yes hst]
      rw [hv, hv2]
      repeat' first|refine uto ?_|refine urm ?_|refine usb ?_|(refine TO.val (v := .bool false) (fun _ _ => R_false (R_ugeq (p := stir g) (q := c64 18446744073709551615 - over n) rfl rfl) hst') ?_ rfl)|refine uof ?_ (h := (hml _).2)|(refine wo ?_; first|refine oa ?_)|(refine gc ?_; first|refine cf ?_)|refine sq ?_|refine rg ?_|refine xc ?_|refine nl ?_|refine xe ?_|refine rt ?_
      exact r2 ⟨rfl, rfl⟩
    · have hst' := (hlim (stir g)).2 hst
      repeat' first|(refine gca ?_; first|(refine ca (word_tr b (g + gold) (used + 1)) ?_; rintro _ _ ⟨rfl, rfl⟩))|refine usb ?_|(refine TO.val (v := .bool true) (fun _ _ => R_true (R_ugeq (p := stir g) (q := c64 18446744073709551615 - over n) rfl rfl) hst') ?_ rfl)|(refine wo ?_; first|refine oa ?_)|(refine gc ?_; first|refine ct ?_)|refine sq ?_|refine rg ?_|refine xc ?_|refine nl ?_|refine sk ?_|refine bk ?_|refine xb ?_
      exact lp (g + gold) (by rw [← sacc_no hst]; exact hg) (hlt := far_step g (far_stop g _ hst))
end Go.Art
set_option linter.unusedSimpArgs false
set_option linter.unusedVariables false
namespace Go.Art
open Go Go.Proofs Go.RowKit
attribute [local irreducible] Fit pt own ro vw mpc lpt vels rels mow lrc dfr
attribute [local irreducible] lmp lme mit velg relg

def plcR (tot : Int) (cut oth : List Int) (st : BitVec 64) : Int × BitVec 64 :=
  (alPick tot cut oth (sdraw cut.length st).1 (sdraw tot.toNat (sdraw cut.length st).2).1, (sdraw tot.toNat (sdraw cut.length st).2).2)
def setR (tot : Int) (cut oth : List Int) (k : Int) (st : BitVec 64) : List Int × Int := pickR k ((plcR tot cut oth st).1 + 1) (plcR tot cut oth st).2
end Go.Art
set_option linter.unusedSimpArgs false
set_option linter.unusedVariables false
namespace Go.Art
open Go Go.Proofs Go.RowKit

def par (j : Nat) : Nat := (j - 1) / 2
structure HpUp (l : List Int) (i : Nat) : Prop where
  a : ∀ j, 0 < j → j < l.length → j ≠ i → l.getD (par j) 0 ≤ l.getD j 0
  b : ∀ j, 0 < j → j < l.length → par j = i → 0 < i → l.getD (par i) 0 ≤ l.getD j 0
structure HpDn (l : List Int) (i : Nat) : Prop where
  a : ∀ j, 0 < j → j < l.length → par j ≠ i → l.getD (par j) 0 ≤ l.getD j 0
  b : ∀ j, 0 < j → j < l.length → par j = i → 0 < i → l.getD (par i) 0 ≤ l.getD j 0
def Heap (l : List Int) : Prop := ∀ j, 0 < j → j < l.length → l.getD (par j) 0 ≤ l.getD j 0
def swq (l : List Int) (i j : Nat) : List Int := (l.set i (l.getD j 0)).set j (l.getD i 0)
end Go.Art
set_option linter.unusedSimpArgs false
set_option linter.unusedVariables false
namespace Go.Art
open Go Go.Proofs Go.RowKit
attribute [local irreducible] Fit pt own ro vw mpc lpt vels rels mow lrc dfr
attribute [local irreducible] lmp lme mit velg relg

section
variable {P : Program} {E : Env P} {n : Sh} {X : Cx} {s : List K} {fr : Fr} {A : List Ch} {ops : Array Oper} {d : Nat} {ty t el : TypeId} {pos : String} {after : Array Edge} {v z : Value} {fuel by_ : Nat} {listed : Array Bool} {S : World → Prop} {x y : Operand} {k1 : IntKind}
theorem tkx (i : Nat) {m : Int} {len : Nat} (hS : ∀ w, S w → ∃ xs, Sl w v xs ∧ xs.length = len) (k : TS E n X s S ops fuel (listed.setIfInBounds i true) ((d, .pointer (some (addrAt v m.toNat))) :: fr) A) (hi : ops[i]? = some ⟨some d, .indexAddr t x y, ty, pos, after, none⟩ := by rfl)
    (hx : ev fr x = some v := by rfl) (hy : ev fr y = some (.int k1 m) := by rfl) (hb : 0 ≤ m ∧ m < len := by omega) (ht : lk E.und t = some (.slice el) := by rfl) (he : lk E.inf el = some (z, 1, by_) := by rfl)
    (hs : Region.noSelect ops = true := by kernel_rfl) (hf : Region.free .any ops listed i = true := by kernel_rfl) (hr : (Region.ready .any ops listed).contains i = true := by kernel_rfl) (hrd : n.r = none := by rfl) (hd : Nat.blt d n.n = true := by rfl) : TS E n X s S ops (fuel + 1) listed fr A :=
  tk i (fun w hw => by obtain ⟨xs, h1, h2⟩ := hS w hw; exact R_idx ht he hx hy h1 (by omega)) k hi hs hf hr hrd hd
theorem tkli (i : Nat) {l : List Int} {j : Nat} {c : Int} {dt : TypeDesc} (hS : ∀ w, S w → Sl w v (Is l)) (hc : l.getD j 0 = c) (k : TS E n X s S ops fuel (listed.setIfInBounds i true) ((d, I c) :: fr) A) (hi : ops[i]? = some ⟨some d, .load t x, ty, pos, after, none⟩ := by rfl)
    (hx : ev fr x = some (.pointer (some (addrAt v j))) := by rfl) (hj : j < l.length := by omega) (ht : lk E.und t = some dt := by rfl) (hg : aggB dt = false := by rfl)
    (hs : Region.noSelect ops = true := by kernel_rfl) (hf : Region.free .any ops listed i = true := by kernel_rfl) (hr : (Region.ready .any ops listed).contains i = true := by kernel_rfl) (hrd : n.r = none := by rfl) (hd : Nat.blt d n.n = true := by rfl) : TS E n X s S ops (fuel + 1) listed fr A :=
  tk i (fun w hw => by subst hc; exact R_load ht hg hx ((hS w hw).geti hj)) k hi hs hf hr hrd hd
end
section
variable {P : Program} {E : Env P} {n : Sh} {X : Cx} {s : List K} {fr : Fr} {A : List Ch} {ops : Array Oper} {rest : List Oper} {d : Nat} {ty t t' : TypeId} {pos : String} {after : Array Edge} {x y : Operand} {m q : Int}
end
section
variable {P : Program} {E : Env P} {n : Sh} {X : Cx} {s : List K} {fr : Fr} {A : List Ch} {ops : Array Oper} {rest : List Oper} {d : Nat} {ty t : TypeId} {pos : String} {after : Array Edge} {v : Value} {x : Operand}
theorem qlie {l : List Int} {j : Nat} {c : Int} {dt : TypeDesc} (he : l.getD j 0 = c) (k : TQ E n X s ops rest ((d, I c) :: fr) A) (hx : ev fr x = some (.pointer (some (addrAt v j))) := by rfl) (hh : Has A (vw v (Is l)) := by first | (apply has_vw; (repeat (first | apply List.Mem.head | apply List.Mem.tail)); first | done | fail) | (apply has_own; (repeat (first | apply List.Mem.head | apply List.Mem.tail)); first | done | fail) | (apply has_ro; (repeat (first | apply List.Mem.head | apply List.Mem.tail)); first | done | fail) | apply has_nil | ((with_reducible apply has_el); (focus (first | (apply has_vels; (repeat (first | apply List.Mem.head | apply List.Mem.tail)); first | done | fail) | (apply has_rels; (repeat (first | apply List.Mem.head | apply List.Mem.tail)); first | done | fail))); omega) | (apply has_pt; (repeat (first | apply List.Mem.head | apply List.Mem.tail)); first | done | fail) | (apply has_lpt; (repeat (first | apply List.Mem.head | apply List.Mem.tail)); first | done | fail) | (apply has_vels; (repeat (first | apply List.Mem.head | apply List.Mem.tail)); first | done | fail) | (apply has_rels; (repeat (first | apply List.Mem.head | apply List.Mem.tail)); first | done | fail) | with_reducible assumption | ((with_reducible apply has_elg); (focus (first | (apply has_velg; (repeat (first | apply List.Mem.head | apply List.Mem.tail)); first | done | fail) | (apply has_relg; (repeat (first | apply List.Mem.head | apply List.Mem.tail)); first | done | fail))); omega) | (apply has_velg; (repeat (first | apply List.Mem.head | apply List.Mem.tail)); first | done | fail) | (apply has_relg; (repeat (first | apply List.Mem.head | apply List.Mem.tail)); first | done | fail) | (apply has_vwf; (repeat (first | apply List.Mem.head | apply List.Mem.tail)); first | done | fail)) (hj : j < l.length := by omega)
    (ht : lk E.und t = some dt := by rfl) (hg : aggB dt = false := by rfl) (hd : Nat.blt d n.n = true := by rfl) : TQ E n X s ops (⟨some d, .load t x, ty, pos, after, none⟩ :: rest) fr A := qli (l := l) (by rw [he]; exact k) hx hh hj ht hg hd
end
section
variable {n : Sh} {X : Cx} {s : List K} {fr : Fr} {A : List Ch} {ops : Array Oper} {rest : List Oper} {d : Nat} {ty : TypeId} {pos : String} {after : Array Edge} {x y : Operand} {a b : Int} {parts : List (Nat × Operand)}
end
abbrev THp : TypeId := 139
def hcut (h : List Int) : List Int := (h.set 0 (h.getD (h.length - 1) 0)).take (h.length - 1)
end Go.Art
set_option linter.unusedSimpArgs false
set_option linter.unusedVariables false
namespace Go.Art
open Go

def Rep (h S : List Int) : Prop := Heap h ∧ h.Perm S ∧ S.Pairwise (· ≤ ·)
structure AlS where
  rest : List Int
  cut : List Int
  oth : List Int
  B : List Int
  A : List Int
def alStep (all : Int) (u : AlS) (i j : Int) (B A : List Int) : AlS :=
  let ri := u.rest.getD i.toNat 0
  let r := u.rest.getD j.toNat 0 - (all - ri)
  ⟨u.rest.set j.toNat r, u.cut.set i.toNat ri, u.oth.set i.toNat j, if r > all then B else if r < all then srt (j :: B) else B, if r > all then j :: A else A⟩
def alRun (all : Int) : Nat → AlS → AlS
  | 0, u => u
  | f + 1, u => match u.B, u.A with
    | i :: B, j :: A => alRun all f (alStep all u i j B A)
    | _, _ => u
def alIn (t : List Int) (all : Int) : Nat → AlS
  | 0 => ⟨List.replicate t.length 0, List.replicate t.length 0, List.replicate t.length 0, [], []⟩
  | i + 1 => let u := alIn t all i
    let r := t.getD i 0 * t.length
    ⟨u.rest.set i r, u.cut.set i all, u.oth.set i i, if r < all then srt ((i : Int) :: u.B) else u.B, if r < all then u.A else if r > all then srt ((i : Int) :: u.A) else u.A⟩
structure AlI (t : List Int) (all : Int) (u : AlS) : Prop where
  lr : u.rest.length = t.length
  lc : u.cut.length = t.length
  lo : u.oth.length = t.length
  nd : (u.B ++ u.A).Nodup
  B : ∀ i ∈ u.B, (0 ≤ i ∧ i < t.length) ∧ 0 ≤ u.rest.getD i.toNat 0 ∧ u.rest.getD i.toNat 0 < all
  A : ∀ j ∈ u.A, (0 ≤ j ∧ j < t.length) ∧ all < u.rest.getD j.toNat 0 ∧ u.rest.getD j.toNat 0 ≤ 1099511627776 ∧ 0 < t.getD j.toNat 0
  sum : (u.B.map fun i => all - u.rest.getD i.toNat 0).sum = (u.A.map fun j => u.rest.getD j.toNat 0 - all).sum
  cut : ∀ c : Nat, c < t.length → 0 ≤ u.cut.getD c 0 ∧ u.cut.getD c 0 ≤ all
  oth : ∀ c : Nat, c < t.length → (0 ≤ u.oth.getD c 0 ∧ u.oth.getD c 0 < t.length) ∧ (u.cut.getD c 0 = all ∨ 0 < t.getD (u.oth.getD c 0).toNat 0)
  zero : ∀ c : Nat, c < t.length → ¬ 0 < t.getD c 0 → u.rest.getD c 0 = 0 ∧ ((c : Int) ∈ u.B ∨ u.cut.getD c 0 = 0)
theorem getD_setI (l : List Int) (i j : Int) (x : Int) (hi : 0 ≤ i ∧ i < l.length) (hj : 0 ≤ j) : (l.set i.toNat x).getD j.toNat 0 = if j = i then x else l.getD j.toNat 0 := by
  rw [getD_set _ _ _ _ (by omega)]
  by_cases e : j = i
  · subst e; rw [if_pos rfl, if_pos rfl]
  · rw [if_neg e, if_neg (by omega)]
theorem map_sum_congr {l : List Int} {f g : Int → Int} (h : ∀ x ∈ l, f x = g x) : (l.map f).sum = (l.map g).sum := by rw [List.map_congr_left h]
theorem perm_sum {l m : List Int} (h : l.Perm m) : l.sum = m.sum := by
  induction h with
  | nil => rfl
  | cons x _ ih => simp [ih]
  | swap x y l => simp only [List.sum_cons]; omega
  | trans _ _ a b => exact a.trans b
theorem srt_sum (x : Int) (B : List Int) (f : Int → Int) : ((srt (x :: B)).map f).sum = f x + (B.map f).sum := by
  rw [perm_sum ((srt_perm (x :: B)).map f)]; rfl
structure AlJ (t : List Int) (all : Int) (n : Nat) (u : AlS) : Prop where
  lr : u.rest.length = t.length
  lc : u.cut.length = t.length
  lo : u.oth.length = t.length
  nd : (u.B ++ u.A).Nodup
  B : ∀ i ∈ u.B, (0 ≤ i ∧ i < n) ∧ 0 ≤ u.rest.getD i.toNat 0 ∧ u.rest.getD i.toNat 0 < all
  A : ∀ j ∈ u.A, (0 ≤ j ∧ j < n) ∧ all < u.rest.getD j.toNat 0 ∧ u.rest.getD j.toNat 0 ≤ 1099511627776 ∧ 0 < t.getD j.toNat 0
  sum : (u.B.map fun i => all - u.rest.getD i.toNat 0).sum - (u.A.map fun j => u.rest.getD j.toNat 0 - all).sum = n * all - t.length * (t.take n).sum
  cut : ∀ c : Nat, c < n → u.cut.getD c 0 = all
  oth : ∀ c : Nat, c < n → u.oth.getD c 0 = c
  zero : ∀ c : Nat, c < n → ¬ 0 < t.getD c 0 → u.rest.getD c 0 = 0 ∧ (c : Int) ∈ u.B
theorem AlJ.start (t : List Int) (all : Int) : AlJ t all 0 (alIn t all 0) := ⟨by simp [alIn], by simp [alIn], by simp [alIn], by simp [alIn], by simp [alIn], by simp [alIn], by simp [alIn], fun c h => by omega, fun c h => by omega, fun c h => by omega⟩
theorem AlJ.step {t : List Int} {all : Int} {n : Nat} (hw : ∀ w ∈ t, 0 ≤ w ∧ w ≤ 16777215) (hl : t.length ≤ 65536) (ha : 0 < all) (hn : n < t.length) (h : AlJ t all n (alIn t all n)) : AlJ t all (n + 1) (alIn t all (n + 1)) := by
  have hb := hw _ (mem_getD.2 ⟨n, hn, rfl⟩)
  have hts : (t.take (n + 1)).sum = (t.take n).sum + t.getD n 0 := by rw [take_succ' hn 0, List.sum_append]; simp
  unfold alIn
  generalize alIn t all n = u at *
  obtain ⟨h1, h2, h3, h4, h5, h6, h7, h8, h9, h10⟩ := h
  have hr0 : 0 ≤ t.getD n 0 * t.length := Int.mul_nonneg hb.1 (by omega)
  have hr1 : t.getD n 0 * t.length ≤ 16777215 * 65536 := Int.mul_le_mul hb.2 (by omega) (by omega) (by omega)
  have hr2 : t.getD n 0 * t.length = t.length * t.getD n 0 := Int.mul_comm _ _
  have hr3 : ¬ 0 < t.getD n 0 → t.getD n 0 * t.length = 0 := fun hz => by rw [show t.getD n 0 = 0 by omega, Int.zero_mul]
  have hS : ((n + 1 : Nat) : Int) * all - t.length * (t.take (n + 1)).sum = n * all + all - (t.length * (t.take n).sum + t.getD n 0 * (t.length : Int)) := by
    rw [hts, Int.mul_add, ← hr2, show ((n + 1 : Nat) : Int) = (n : Int) + 1 by omega, Int.add_mul, Int.one_mul]
  generalize hr : t.getD n 0 * (t.length : Int) = r at *
  dsimp only
  have G : ∀ x : Int, 0 ≤ x → (u.rest.set n r).getD x.toNat 0 = if x = n then r else u.rest.getD x.toNat 0 := fun x hx => by
    have := getD_setI u.rest n x r (by omega) hx
    rwa [Int.toNat_natCast] at this
  have GB : ∀ x ∈ u.B, (u.rest.set n r).getD x.toNat 0 = u.rest.getD x.toNat 0 := fun x hx => by rw [G x (h5 x hx).1.1, if_neg (by have := (h5 x hx).1; omega)]
  have GA : ∀ x ∈ u.A, (u.rest.set n r).getD x.toNat 0 = u.rest.getD x.toNat 0 := fun x hx => by rw [G x (h6 x hx).1.1, if_neg (by have := (h6 x hx).1; omega)]
  have Gn := G n (by omega)
  rw [if_pos rfl] at Gn
  have hnB : (n : Int) ∉ u.B := fun hm => by have := (h5 _ hm).1; omega
  have hnA : (n : Int) ∉ u.A := fun hm => by have := (h6 _ hm).1; omega
  have hsB := map_sum_congr (l := u.B) (f := fun x => all - (u.rest.set n r).getD x.toNat 0) (g := fun x => all - u.rest.getD x.toNat 0) (fun x hx => by rw [GB x hx])
  have hsA := map_sum_congr (l := u.A) (f := fun x => (u.rest.set n r).getD x.toNat 0 - all) (g := fun x => u.rest.getD x.toNat 0 - all) (fun x hx => by rw [GA x hx])
  have hBk : ∀ x ∈ u.B, (0 ≤ x ∧ x < (n + 1 : Nat)) ∧ 0 ≤ (u.rest.set n r).getD x.toNat 0 ∧ (u.rest.set n r).getD x.toNat 0 < all := fun x hx => by
    rw [GB x hx]; have := h5 x hx; exact ⟨by omega, this.2⟩
  have hAk : ∀ x ∈ u.A, (0 ≤ x ∧ x < (n + 1 : Nat)) ∧ all < (u.rest.set n r).getD x.toNat 0 ∧ (u.rest.set n r).getD x.toNat 0 ≤ 1099511627776 ∧ 0 < t.getD x.toNat 0 := fun x hx => by
    rw [GA x hx]; have := h6 x hx; exact ⟨by omega, this.2⟩
  have hcut : ∀ c : Nat, c < n + 1 → (u.cut.set n all).getD c 0 = all := fun c hc => by
    rw [getD_set _ _ _ _ (by omega)]; split
    · rfl
    · exact h8 c (by omega)
  have hoth : ∀ c : Nat, c < n + 1 → (u.oth.set n (n : Int)).getD c 0 = c := fun c hc => by
    rw [getD_set _ _ _ _ (by omega)]; split
    · omega
    · exact h9 c (by omega)
  have hz : ∀ c : Nat, c < n → ¬ 0 < t.getD c 0 → (u.rest.set n r).getD c 0 = 0 ∧ (c : Int) ∈ u.B := fun c hc hp => by
    obtain ⟨z1, z2⟩ := h10 c hc hp
    rw [getD_set _ _ _ _ (by omega), if_neg (by omega)]; exact ⟨z1, z2⟩
  obtain ⟨n1, n2, n3⟩ := List.nodup_append.1 h4
  by_cases c1 : r < all
  · rw [if_pos c1, if_pos c1]
    have hsm : ∀ x, x ∈ srt ((n : Int) :: u.B) ↔ x = n ∨ x ∈ u.B := fun x => by rw [(srt_perm _).mem_iff, List.mem_cons]
    refine ⟨by simp [h1], by simp [h2], by simp [h3], ?_, fun x hx => ?_, hAk, ?_, hcut, hoth, fun c hc hp => ?_⟩
    · refine List.nodup_append.2 ⟨(srt_perm _).nodup_iff.2 (List.nodup_cons.2 ⟨hnB, n1⟩), n2, fun a ha' b hb' => ?_⟩
      rcases (hsm a).1 ha' with rfl | ha'
      · exact fun e => hnA (by rw [e]; exact hb')
      · exact n3 a ha' b hb'
    · rcases (hsm x).1 hx with rfl | hx
      · dsimp only; rw [Gn]; exact ⟨by omega, by omega, by omega⟩
      · exact hBk x hx
    · dsimp only; rw [srt_sum, hsB, hsA, Gn, hS]; omega
    · by_cases e : c = n
      · subst e
        rw [Int.toNat_natCast] at Gn
        exact ⟨Gn.trans (hr3 hp), (hsm _).2 (.inl rfl)⟩
      · exact ⟨(hz c (by omega) hp).1, (hsm _).2 (.inr (hz c (by omega) hp).2)⟩
  · rw [if_neg c1, if_neg c1]
    have hp1 : 0 < t.getD n 0 := Classical.byContradiction fun hp => by have := hr3 hp; omega
    have hzk : ∀ c : Nat, c < n + 1 → ¬ 0 < t.getD c 0 → (u.rest.set n r).getD c 0 = 0 ∧ (c : Int) ∈ u.B := fun c hc hp => by
      by_cases e : c = n
      · subst e; exact absurd hp1 hp
      · exact hz c (by omega) hp
    by_cases c2 : r > all
    · rw [if_pos c2]
      have hsm : ∀ x, x ∈ srt ((n : Int) :: u.A) ↔ x = n ∨ x ∈ u.A := fun x => by rw [(srt_perm _).mem_iff, List.mem_cons]
      refine ⟨by simp [h1], by simp [h2], by simp [h3], ?_, hBk, fun x hx => ?_, ?_, hcut, hoth, hzk⟩
      · refine List.nodup_append.2 ⟨n1, (srt_perm _).nodup_iff.2 (List.nodup_cons.2 ⟨hnA, n2⟩), fun a ha' b hb' => ?_⟩
        rcases (hsm b).1 hb' with rfl | hb'
        · exact fun e => hnB (by rw [← e]; exact ha')
        · exact n3 a ha' b hb'
      · rcases (hsm x).1 hx with rfl | hx
        · dsimp only; rw [Gn, Int.toNat_natCast]; exact ⟨by omega, by omega, by omega, hp1⟩
        · exact hAk x hx
      · dsimp only; rw [srt_sum, hsB, hsA, Gn, hS]; omega
    · rw [if_neg c2]
      refine ⟨by simp [h1], by simp [h2], by simp [h3], h4, hBk, hAk, ?_, hcut, hoth, hzk⟩
      dsimp only; rw [hsB, hsA, hS]; omega
theorem AlJ.all {t : List Int} {all : Int} (hw : ∀ w ∈ t, 0 ≤ w ∧ w ≤ 16777215) (hl : t.length ≤ 65536) (ha : 0 < all) : ∀ n : Nat, n ≤ t.length → AlJ t all n (alIn t all n)
  | 0, _ => AlJ.start t all
  | n + 1, h => AlJ.step hw hl ha h (AlJ.all hw hl ha n (by omega))
def alMu (u : AlS) : Nat := u.B.length + 2 * u.A.length
def alEnd (all : Int) (u : AlS) : AlS := alRun all (alMu u) u
def alF (t : List Int) : AlS := alEnd t.sum (alIn t t.sum t.length)
end Go.Art
set_option linter.unusedSimpArgs false
set_option linter.unusedVariables false
namespace Go.Art
open Go Go.Proofs Go.RowKit
attribute [local irreducible] Fit pt own ro vw mpc lpt vels rels mow lrc dfr
attribute [local irreducible] lmp lme mit velg relg

structure MkG where
  i : Nat
  hb : List Int
  ha : List Int
  bv : Value
  av : Value
structure MkH where
  u : AlS
  hb : List Int
  ha : List Int
  bv : Value
  av : Value
theorem alIn_len (t : List Int) (all : Int) : ∀ n, (alIn t all n).B.length + (alIn t all n).A.length ≤ n
  | 0 => by simp [alIn]
  | n + 1 => by
    have := alIn_len t all n
    unfold alIn
    dsimp only
    split
    · rw [srt_length, List.length_cons]; omega
    · split
      · rw [srt_length, List.length_cons]; omega
      · omega
end Go.Art
