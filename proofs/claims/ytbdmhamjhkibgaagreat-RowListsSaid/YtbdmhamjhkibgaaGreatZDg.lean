/- Texts put together: Qq KSame Qr Qs KCopy KOver Qx Rr Ac Oi Oj Rd Ru. Conditions: none. -/
import Derived.Test.YtbdmhamjhkibgaaGreatZDf
set_option linter.unusedSimpArgs false
set_option linter.unusedVariables false
namespace Go.Art
open Go Go.Proofs Go.RowKit
theorem R_ntu {P : Program} {E : Env P} {n : Sh} {fr : Fr} {w : World} {t t' ty : TypeId} {x : Operand} {k0 : IntKind} {m : Int} (ht : lk E.und t' = some (.int .u64)) (hs : (lk E.und t).isSome = true) (hx : ev fr x = some (.int k0 m)) (hb : 0 ≤ m ∧ m < 18446744073709551616) : OpV P n fr (.convert t t' x) ty w (Un m.toNat) w := by
  have := R_conv (P := P) (n := n) (w := w) (ty := ty) ht hs hx; rwa [wrapN m m.toNat (by omega)] at this
theorem R_ntuk {P : Program} {E : Env P} {n : Sh} {fr : Fr} {w : World} {t t' ty : TypeId} {x : Operand} {k0 : IntKind} {m : Nat} (ht : lk E.und t' = some (.int .u64)) (hs : (lk E.und t).isSome = true) (hx : ev fr x = some (.int k0 (m : Int))) (hb : m < 18446744073709551616) : OpV P n fr (.convert t t' x) ty w (Un m) w := by
  have := R_ntu (P := P) (n := n) (w := w) (ty := ty) ht hs hx (by omega); rwa [Int.toNat_natCast] at this
theorem dg_grow_len {a x L : Nat} (h : (dg a).length ≤ L) (hx : x < 18446744073709551616) : (dg (a * x)).length ≤ L + 1 := (dg_len _ _).2 (by
  rw [Nat.pow_succ]; exact Nat.mul_lt_mul_of_lt_of_le ((dg_len _ _).1 h) (by omega) (by decide))
theorem meaW_ok {tot : Int} {cut oth : List Int} {k d : Int} (hk : rwE tot cut oth k = 0) (hd : ¬ (d < 1 ∨ cut.length < d)) : meaW tot cut oth k d = (rqf (mkRat 1 (fall k.toNat d.toNat * cut.length * tot.toNat)), 0) := by
  unfold meaW; rw [if_pos hk, if_neg hd]
theorem sum_wOk {t : List Int} (h : ∀ w ∈ t, 0 ≤ w ∧ w ≤ 16777215) : 0 ≤ t.sum ∧ t.sum ≤ 16777215 * t.length := sum_bound h
theorem sum_posT {t : List Int} (h : ∀ w ∈ t, 0 ≤ w ∧ w ≤ 16777215) (hp : ∃ w ∈ t, 0 < w) : 0 < t.sum := by
  induction t with
  | nil => obtain ⟨w, hw, _⟩ := hp; cases hw
  | cons a r ih =>
    have h1 := h a (by simp)
    have h2 := sum_bound (t := r) fun w hw => h w (by simp [hw])
    rw [List.sum_cons]
    obtain ⟨w, hw, hw0⟩ := hp
    rcases List.mem_cons.1 hw with rfl | hw
    · omega
    · have := ih (fun w hw => h w (by simp [hw])) ⟨w, hw, hw0⟩; omega
attribute [local irreducible] Fit pt own ro vw mpc lpt vels rels mow lrc dfr
attribute [local irreducible] lmp lme mit velg relg
theorem MeaW_tr (tot k d : Int) (cv ov : Value) (cut oth : List Int) (hc : cv.oneCell' = true) (ho : ov.oneCell' = true) : Tr Tryz.prog 14 [.agg #[I tot, cv, ov], I k, I d] [vw cv (Is cut), vw ov (Is oth)] []
    (FW (meaW tot cut oth k d)) := by
  have hck := RwE_tr tot k cv ov cut oth hc ho
  by_cases hk : rwE tot cut oth k = 0
  rotate_left
  · unfold meaW
    rw [if_neg hk]
    generalize rwE tot cut oth k = e at *
    refine Tr.mono (R := fun u D => u = tup2 rv0 (I e) ∧ D = [own T64 nS (Us []), own T64 nS (Us [])]) ?_ fun u D h => FW.of0 h
    refine Tr.enter env _ Tryz.func14 (by kernel_rfl) rfl Tryz.ntmps14 rfl (by repeat (first | exact has00 | refine has01 ?_)) fun w0 => ?_
    repeat' first|(refine gca ?_; first|(refine ca hck ?_; rintro _ _ ⟨rfl, rfl⟩))|refine bx fun b => ?_|refine al fun b2 => ?_|refine lda ?_|refine bdm ?_|refine srz ?_|(refine wo ?_; first|(refine ao ?_; first|refine oa ?_)|refine oa ?_)|(refine gc ?_; first|(refine cn (fun hB => ?_) (fun hB => ?_) <;> try (exfalso; omega)))|refine sq ?_|refine rg ?_|refine xc ?_|refine nl ?_|refine rt ?_
    refine TX.im (own_nil T64 _) (TX.im (own_nil T64 _) ?_)
    exact rca (cs := [.bool false, nS, nS]) (vs := [.bool false, nS, nS]) (T := TRt) ⟨rfl, rfl⟩
  rw [hk] at hck
  obtain ⟨hE, k1, k2, k3⟩ := rwE_ok hk
  have hb := alE_bnd hE
  by_cases hd : d < 1 ∨ cut.length < d
  · unfold meaW
    rw [if_pos hk, if_pos hd]
    clear hk hE
    refine Tr.mono (R := fun u D => u = tup2 rv0 (I 3) ∧ D = [own T64 nS (Us []), own T64 nS (Us [])]) ?_ fun u D h => FW.of0 h
    refine Tr.enter env _ Tryz.func14 (by kernel_rfl) rfl Tryz.ntmps14 rfl (by repeat (first | exact has00 | refine has01 ?_)) fun w0 => ?_
    repeat' first|(refine gca ?_; first|(refine ca hck ?_; rintro _ _ ⟨rfl, rfl⟩))|refine bx fun b => ?_|refine al fun b2 => ?_|refine lda ?_|refine bdm ?_|refine srz ?_|(refine wo ?_; first|(refine ao ?_; first|refine oa ?_)|refine oa ?_|refine ld ?_|refine lnm ?_|refine gy ?_|refine gn ?_|(refine gsi (fun hB => ?_) (fun hB => ?_) <;> try (exfalso; omega)))|(refine gc ?_; first|refine ct ?_|refine cf ?_|(refine ci (fun hB => ?_) (fun hB => ?_) <;> try (exfalso; omega)))|refine sq ?_|refine rg ?_|refine xc ?_|refine nl ?_|refine sk ?_|refine rt ?_
    all_goals
      refine TX.im (own_nil T64 _) (TX.im (own_nil T64 _) ?_)
      exact rca (cs := [.bool false, nS, nS]) (vs := [.bool false, nS, nS]) (T := TRt) ⟨rfl, rfl⟩
  rw [meaW_ok hk hd]
  obtain ⟨kn, rfl⟩ : ∃ kn : Nat, k = kn := ⟨k.toNat, by omega⟩
  obtain ⟨dn, rfl⟩ : ∃ dn : Nat, d = dn := ⟨d.toNat, by omega⟩
  obtain ⟨tn, rfl⟩ : ∃ tn : Nat, tot = tn := ⟨tot.toNat, by omega⟩
  simp only [Int.toNat_natCast]
  have hF := Falling_tr kn dn (by omega) (by omega)
  have hfl := fall_len (n := kn) (by omega) dn
  have hfp := fall_pos (n := kn) (k := dn) (by omega)
  obtain ⟨f0, hf0⟩ : ∃ f0, f0 = fall kn dn := ⟨_, rfl⟩
  rw [← hf0] at hF hfl hfp ⊢
  have hG1 := fun v => NGrow_tr v (dg f0) cut.length (Dg_dg _) (by omega) (by omega)
  have hl2 := dg_grow_len (x := cut.length) hfl (by omega)
  have hG2 := fun v => NGrow_tr v (dg (f0 * cut.length)) tn (Dg_dg _) (by omega) (by omega)
  have hl3 := dg_grow_len (x := tn) hl2 (by omega)
  have hp3 : f0 * cut.length * tn ≠ 0 := Nat.mul_ne_zero (Nat.mul_ne_zero hfp (by omega)) (by omega)
  have hO := fun v => over1_tr v (dg (f0 * cut.length * tn)) (Dg_dg _) (by omega) (by rw [nv_dg]; exact hp3)
  simp only [nv_dg] at hG1 hG2 hO
  clear hk hE hf0 hfp hp3 hl2 hl3
  obtain ⟨f1, hf1⟩ : ∃ f1, f1 = f0 * cut.length := ⟨_, rfl⟩
  simp only [← hf1] at hG1 hG2 hO ⊢
  obtain ⟨f2, hf2⟩ : ∃ f2, f2 = f1 * tn := ⟨_, rfl⟩
  simp only [← hf2] at hG2 hO ⊢
  obtain ⟨q, hq⟩ : ∃ q, q = mkRat 1 f2 := ⟨_, rfl⟩
  simp only [← hq] at hO ⊢
  clear hq hf1 hf2
  unfold FQ at hO
  refine Tr.enter env _ Tryz.func14 (by kernel_rfl) rfl Tryz.ntmps14 rfl (by repeat (first | exact has00 | refine has01 ?_)) fun w0 => ?_
  repeat' first|(refine gca ?_; first|(refine ca hck ?_; rintro _ _ ⟨rfl, rfl⟩)|(refine ca hF ?_; rintro _ _ ⟨o, rfl, ho2, rfl⟩))|refine bx fun b => ?_|refine al fun b2 => ?_|refine lda ?_|(refine wo ?_; first|(refine ao ?_; first|refine oa ?_)|refine oa ?_|refine ld ?_|refine lnm ?_|refine gy ?_|(refine gsi (fun hB => ?_) (fun hB => ?_) <;> try (exfalso; omega)))|(refine gc ?_; first|refine cf ?_|(refine ci (fun hB => ?_) (fun hB => ?_) <;> try (exfalso; omega)))|refine sq ?_|refine rg ?_|refine xc ?_|refine nl ?_|refine sk ?_
  refine rs (fun w => w.heap[b]? = some (.cells [I tn, cv, ov].toArray TAl (0, 0)) ∧ Sl w cv (Is cut)) ?_ (fun w hw => ⟨pt_at (b := b) (cs := [I tn, cv, ov]) (T := TAl) (by (repeat (first | apply List.Mem.head | apply List.Mem.tail)); first | done | fail) hw, vw_sl (hw.h (vw cv (Is cut)) (by (repeat (first | apply List.Mem.head | apply List.Mem.tail)); first | done | fail))⟩)
  refine tka 0 ?_
  refine tka 1 ?_
  refine tkl 2 (cs := [I tn, cv, ov]) (fun w h => h.1) ?_
  refine tke 3 (v := I cut.length) (by rw [Is_len]) (fun w h => R_len (E := env) (xs := Is cut) rfl rfl h.2) ?_
  refine tk 4 (v := Un cut.length) (fun w h => R_ntuk (E := env) (m := cut.length) rfl rfl rfl (by omega)) ?_
  refine tka 6 ?_
  refine tkl 7 (cs := [I tn, cv, ov]) (fun w h => h.1) ?_
  refine tk 8 (v := Un tn) (fun w h => R_ntuk (E := env) (m := tn) rfl rfl rfl (by omega)) ?_
  refine t1 5 ?_
  refine ca (hG1 o) ?_
  rintro u1 _ ⟨hu1, rfl⟩
  refine nl ?_
  refine te (fun w hw => ⟨pt_at (b := b) (cs := [I tn, cv, ov]) (T := TAl) (by (repeat (first | apply List.Mem.head | apply List.Mem.tail)); first | done | fail) hw, vw_sl (hw.h (vw cv (Is cut)) (by (repeat (first | apply List.Mem.head | apply List.Mem.tail)); first | done | fail))⟩) ?_
  refine t1 9 ?_
  refine ca (hG2 u1) ?_
  rintro u2 _ ⟨hu2, rfl⟩
  refine nl ?_
  refine te (fun w hw => ⟨pt_at (b := b) (cs := [I tn, cv, ov]) (T := TAl) (by (repeat (first | apply List.Mem.head | apply List.Mem.tail)); first | done | fail) hw, vw_sl (hw.h (vw cv (Is cut)) (by (repeat (first | apply List.Mem.head | apply List.Mem.tail)); first | done | fail))⟩) ?_
  refine t1 10 ?_
  refine ca (hO u2) ?_
  rintro _ _ ⟨vn, vd, rfl, hvn, hvd, rfl⟩
  refine nl ?_
  refine te (fun w hw => ⟨pt_at (b := b) (cs := [I tn, cv, ov]) (T := TAl) (by (repeat (first | apply List.Mem.head | apply List.Mem.tail)); first | done | fail) hw, vw_sl (hw.h (vw cv (Is cut)) (by (repeat (first | apply List.Mem.head | apply List.Mem.tail)); first | done | fail))⟩) ?_
  refine t1 11 ?_
  refine srz ?_
  refine nl ?_
  refine te (fun w hw => ⟨pt_at (b := b) (cs := [I tn, cv, ov]) (T := TAl) (by (repeat (first | apply List.Mem.head | apply List.Mem.tail)); first | done | fail) hw, vw_sl (hw.h (vw cv (Is cut)) (by (repeat (first | apply List.Mem.head | apply List.Mem.tail)); first | done | fail))⟩) ?_
  refine tka 12 ?_
  refine t0 ?_
  repeat' first|refine xc ?_|refine rt ?_
  exact rca (cs := [.bool (decide (q.num < 0)), vn, vd]) (vs := [.bool (decide (q.num < 0)), vn, vd]) (T := TRt) ⟨vn, vd, rfl, hvn, hvd, rfl⟩
theorem ChaW_tr (s : Value) (t : List Int) (k d : Int) : Tr Tryz.prog 16 [s, I k, I d] [vw s (Is t)] [] (FW (chaW t k d)) := by
  have hck := SoCheck_tr s t k
  by_cases hk : solE t k = 0
  rotate_left
  · unfold chaW
    rw [if_neg hk]
    rw [(solE_cases t k).resolve_left hk] at hck
    refine Tr.mono (R := fun u D => u = tup2 rv0 (I 13) ∧ D = [own T64 nS (Us []), own T64 nS (Us [])]) ?_ fun u D h => FW.of0 h
    refine Tr.enter env _ Tryz.func16 (by kernel_rfl) rfl Tryz.ntmps16 rfl (by repeat (first | exact has00 | refine has01 ?_)) fun w0 => ?_
    repeat' first|(refine gca ?_; first|(refine ca hck ?_; rintro _ _ ⟨rfl, rfl⟩))|refine al fun b2 => ?_|refine bdm ?_|refine srz ?_|(refine wo ?_; first|(refine ao ?_; first|refine oa ?_)|refine oa ?_)|(refine gc ?_; first|refine ct ?_)|refine sq ?_|refine rg ?_|refine xc ?_|refine nl ?_|refine bk ?_|refine rt ?_
    refine TX.im (own_nil T64 _) (TX.im (own_nil T64 _) ?_)
    exact rca (cs := [.bool false, nS, nS]) (vs := [.bool false, nS, nS]) (T := TRt) ⟨rfl, rfl⟩
  rw [hk] at hck
  obtain ⟨⟨k1, k2⟩, ⟨t1, t2⟩, hw, hpos⟩ := solE_zero hk
  by_cases hd : d < 1 ∨ t.length < d
  · unfold chaW
    rw [if_pos hk, if_pos hd]
    clear hk hpos
    refine Tr.mono (R := fun u D => u = tup2 rv0 (I 3) ∧ D = [own T64 nS (Us []), own T64 nS (Us [])]) ?_ fun u D h => FW.of0 h
    refine Tr.enter env _ Tryz.func16 (by kernel_rfl) rfl Tryz.ntmps16 rfl (by repeat (first | exact has00 | refine has01 ?_)) fun w0 => ?_
    repeat' first|(refine gca ?_; first|(refine ca hck ?_; rintro _ _ ⟨rfl, rfl⟩))|refine al fun b2 => ?_|refine bdm ?_|refine srz ?_|(refine wo ?_; first|(refine ao ?_; first|refine oa ?_)|refine oa ?_|refine lnm ?_|refine gy ?_|refine gn ?_|(refine gsi (fun hB => ?_) (fun hB => ?_) <;> try (exfalso; omega)))|(refine gc ?_; first|refine ct ?_|refine cf ?_|(refine ci (fun hB => ?_) (fun hB => ?_) <;> try (exfalso; omega)))|refine sq ?_|refine rg ?_|refine xc ?_|refine nl ?_|refine bk ?_|refine rt ?_
    all_goals
      refine TX.im (own_nil T64 _) (TX.im (own_nil T64 _) ?_)
      exact rca (cs := [.bool false, nS, nS]) (vs := [.bool false, nS, nS]) (T := TRt) ⟨rfl, rfl⟩
  rw [show chaW t k d = (rqf (mkRat (t.getD (d - 1).toNat 0) (chs k.toNat d.toNat * t.sum.toNat)), 0) by unfold chaW; rw [if_pos hk, if_neg hd]]
  obtain ⟨kn, rfl⟩ : ∃ kn : Nat, k = kn := ⟨k.toNat, by omega⟩
  obtain ⟨dn, rfl⟩ : ∃ dn : Nat, d = dn := ⟨d.toNat, by omega⟩
  have hT := SoTotal_tr s t ⟨by omega, by omega⟩ hw
  have hsb := sum_wOk hw
  have hsp : 0 < t.sum := sum_posT hw hpos
  obtain ⟨tn, htn⟩ : ∃ tn : Nat, t.sum = tn := ⟨t.sum.toNat, by omega⟩
  rw [htn] at hT hsb hsp ⊢
  have hwb := hw (t.getD ((dn : Int) - 1).toNat 0) (mem_getD.2 ⟨_, by omega, rfl⟩)
  obtain ⟨wn, hwn⟩ : ∃ wn : Nat, t.getD ((dn : Int) - 1).toNat 0 = wn := ⟨(t.getD ((dn : Int) - 1).toNat 0).toNat, by omega⟩
  rw [hwn] at hwb ⊢
  simp only [Int.toNat_natCast]
  have hF := Choose_tr kn dn (by omega) (by omega)
  have hfl := chs_len kn dn
  have hfp := chs_pos (n := kn) (k := dn) (by omega)
  obtain ⟨f0, hf0⟩ : ∃ f0, f0 = chs kn dn := ⟨_, rfl⟩
  rw [← hf0] at hF hfl hfp ⊢
  have hG1 := fun v => NGrow_tr v (dg f0) tn (Dg_dg _) (by omega) (by omega)
  have hl2 := dg_grow_len (x := tn) hfl (by omega)
  have hp2 : f0 * tn ≠ 0 := Nat.mul_ne_zero hfp (by omega)
  have hw1 := dg_len1 (n := wn) (by omega)
  have hM := fun o => IMake_tr false o (dg wn) (Dg_dg wn) (by omega)
  have hs : sg false wn = (wn : Int) := rfl
  have hR := fun o dv => FMake_tr (wn : Int) o dv (dg (f0 * tn)) (Dg_dg _) (by unfold dz; rw [Int.natAbs_natCast]; omega) (by omega) (by rw [nv_dg]; exact hp2)
  simp only [nv_dg, hs] at hG1 hM hR
  unfold IR at hM
  unfold dz at hR
  simp only [Int.natAbs_natCast] at hM hR
  unfold FQ2 at hR
  clear hk hpos hf0 hfp hp2 hl2 hs hw
  obtain ⟨f1, hf1⟩ : ∃ f1, f1 = f0 * tn := ⟨_, rfl⟩
  simp only [← hf1] at hG1 hR ⊢
  obtain ⟨q, hq⟩ : ∃ q, q = mkRat (wn : Int) f1 := ⟨_, rfl⟩
  simp only [← hq] at hR ⊢
  clear hq hf1
  refine Tr.enter env _ Tryz.func16 (by kernel_rfl) rfl Tryz.ntmps16 rfl (by repeat (first | exact has00 | refine has01 ?_)) fun w0 => ?_
  repeat' first|(refine gca ?_; first|(refine ca hck ?_; rintro _ _ ⟨rfl, rfl⟩)|(refine ca hF ?_; rintro _ _ ⟨o, rfl, ho, rfl⟩)|(refine ca (Of_tr wn (by omega)) ?_; rintro o1 _ ⟨ho1, rfl⟩)|(refine ca (hM o1) ?_; rintro _ _ ⟨o2, rfl, ho2, rfl⟩)|(refine ca hT ?_; rintro _ _ ⟨rfl, rfl⟩)|(refine ca (hG1 o) ?_; rintro u1 _ ⟨hu1, rfl⟩)|(refine ca (hR o2 u1) ?_; rintro _ _ ⟨vn, vd, rfl, hvn, hvd, rfl⟩))|refine al fun b2 => ?_|(refine lie hwn ?_)|(refine ntu (m := (wn : Int)) ?_; rw [Int.toNat_natCast])|(refine ntu (m := (tn : Int)) ?_; rw [Int.toNat_natCast])|refine srz ?_|(refine wo ?_; first|(refine ao ?_; first|refine aw ?_|refine oa ?_)|refine oa ?_|refine lnm ?_|refine ixm ?_|refine gy ?_|(refine gsi (fun hB => ?_) (fun hB => ?_) <;> try (exfalso; omega)))|(refine gc ?_; first|refine cf ?_|(refine ci (fun hB => ?_) (fun hB => ?_) <;> try (exfalso; omega)))|refine sq ?_|refine rg ?_|refine xc ?_|refine nl ?_|refine sk ?_|refine bk ?_|refine rt ?_|refine xb ?_
  exact rca (cs := [.bool (decide (q.num < 0)), vn, vd]) (vs := [.bool (decide (q.num < 0)), vn, vd]) (T := TRt) ⟨vn, vd, rfl, hvn, hvd, rfl⟩
end Go.Art
set_option linter.unusedSimpArgs false
set_option linter.unusedVariables false
namespace Go.Art
open Go Go.Proofs Go.RowKit
attribute [local irreducible] Fit pt own ro vw mpc lpt vels rels mow lrc dfr
theorem SameInts_tr (a b : Value) (xs ys : List Int) : Tr Tryz.prog 21 [a, b] [vw a (Is xs), vw b (Is ys)] [] fun v D => v = .bool (decide (xs = ys)) ∧ D = [] := by
  refine Tr.enter env _ Tryz.func21 (by kernel_rfl) rfl Tryz.ntmps21 rfl (by repeat (first | exact has00 | refine has01 ?_)) fun w0 => ?_
  refine TC.leni (l := xs) fun hl => ?_
  repeat' first|(refine wo ?_; first|(refine ao ?_; first|refine oa ?_)|refine oa ?_|refine lnm ?_)|(refine gc ?_; first|(refine cn (fun hB => ?_) (fun hB => ?_) <;> try (exfalso; omega)))|refine sq ?_|refine rg ?_|refine xc ?_|refine nl ?_|refine sk ?_|refine bk ?_|refine rt ?_
  · refine r1 ⟨?_, rfl⟩
    rw [decide_eq_false]; intro e; subst e; omega
  · refine TC.loop (ι := Nat) (fun k => [(5, I k)]) (fun _ => []) (fun k => k ≤ xs.length ∧ ∀ j, j < k → xs.getD j 0 = ys.getD j 0) (fun k => xs.length - k) 0 [0, 1] ⟨by omega, by omega⟩ ?_
    rintro k ⟨hk, heq⟩
    repeat' first|(refine wo ?_; first|(refine ao ?_; first|refine aw ?_|refine oa ?_)|refine oa ?_|refine lnm ?_)|(refine gc ?_; first|(refine ci (fun hB => ?_) (fun hB => ?_) <;> try (exfalso; omega))|(refine cn (fun hB => ?_) (fun hB => ?_) <;> try (exfalso; omega)))|refine sq ?_|refine rg ?_|refine xc ?_|refine nl ?_|refine sk ?_|refine bk ?_|refine xe ?_|refine rt ?_|refine xb ?_|refine rq ?_|refine nq ?_|(refine wq ?_; first|(refine qao ?_; first|refine qa ?_)|refine qa ?_|refine qixmn ?_|refine qli ?_)
    · refine r1 ⟨?_, rfl⟩
      rw [decide_eq_false]; intro e; exact hB (by rw [e])
    · refine lp (k + 1) ⟨by omega, fun j hj => ?_⟩
      by_cases hjk : j < k
      · exact heq j hjk
      · obtain rfl : j = k := by omega
        assumption
    · refine r1 ⟨?_, rfl⟩
      rw [decide_eq_true]
      exact eq_of_getD (by omega) (fun j hj => heq j (by omega))

end Go.Art
set_option linter.unusedSimpArgs false
set_option linter.unusedVariables false
namespace Go.Art
open Go Go.Proofs Go.RowKit
theorem eq_of_getDN {xs ys : List Nat} (hl : xs.length = ys.length) (h : ∀ j, j < xs.length → xs.getD j 0 = ys.getD j 0) : xs = ys := by
  refine List.ext_getElem hl fun i h1 h2 => ?_
  have := h i h1
  simpa [List.getD_eq_getElem?_getD, h1, h2] using this
attribute [local irreducible] Fit pt own ro vw mpc lpt vels rels mow lrc dfr
attribute [local irreducible] lmp lme mit velg relg
theorem SameNat_tr (a b : Value) (xs ys : List Nat) : Tr Tryz.prog 61 [a, b] [vw a (Us xs), vw b (Us ys)] [] fun v D => v = .bool (decide (xs = ys)) ∧ D = [] := by
  refine Tr.enter env _ Tryz.func61 (by kernel_rfl) rfl Tryz.ntmps61 rfl (by repeat (first | exact has00 | refine has01 ?_)) fun w0 => ?_
  refine TC.lenu (l := xs) fun hl => ?_
  repeat' first|(refine wo ?_; first|(refine ao ?_; first|refine oa ?_)|refine oa ?_|refine lnm ?_)|(refine gc ?_; first|(refine cn (fun hB => ?_) (fun hB => ?_) <;> try (exfalso; omega)))|refine sq ?_|refine rg ?_|refine xc ?_|refine nl ?_|refine sk ?_|refine bk ?_|refine rt ?_
  · refine r1 ⟨?_, rfl⟩
    rw [decide_eq_false]; intro e; subst e; omega
  · refine TC.loop (ι := Nat) (fun k => [(5, I k)]) (fun _ => []) (fun k => k ≤ xs.length ∧ ∀ j, j < k → xs.getD j 0 = ys.getD j 0) (fun k => xs.length - k) 0 [0, 1] ⟨by omega, by omega⟩ ?_
    rintro k ⟨hk, heq⟩
    repeat' first|(refine wo ?_; first|(refine ao ?_; first|refine aw ?_|refine oa ?_)|refine oa ?_|refine lnm ?_)|(refine gc ?_; first|(refine ci (fun hB => ?_) (fun hB => ?_) <;> try (exfalso; omega))|(refine cn (fun hB => ?_) (fun hB => ?_) <;> try (exfalso; omega)))|refine sq ?_|refine rg ?_|refine xc ?_|refine nl ?_|refine sk ?_|refine bk ?_|refine xe ?_|refine rt ?_|refine xb ?_|refine rq ?_|refine nq ?_|(refine wq ?_; first|(refine qao ?_; first|refine qa ?_)|refine qlu ?_|refine qa ?_|refine qixmn ?_)
    · refine r1 ⟨?_, rfl⟩
      rw [decide_eq_false]; intro e; exact hB (by rw [e])
    · refine lp (k + 1) ⟨by omega, fun j hj => ?_⟩
      by_cases hjk : j < k
      · exact heq j hjk
      · obtain rfl : j = k := by omega
        omega
    · refine r1 ⟨?_, rfl⟩
      rw [decide_eq_true]
      exact eq_of_getDN (by omega) (fun j hj => heq j (by omega))
theorem SameWhole_tr (b1 b2 : Bool) (o1 o2 : Value) (l1 l2 : List Nat) : Tr Tryz.prog 60 [.agg #[.bool b1, o1], .agg #[.bool b2, o2]] [vw o1 (Us l1), vw o2 (Us l2)] [] fun v D => v = .bool (decide (b1 = b2 ∧ l1 = l2)) ∧ D = [] := by
  refine Tr.enter env _ Tryz.func60 (by kernel_rfl) rfl Tryz.ntmps60 rfl (by repeat (first | exact has00 | refine has01 ?_)) fun w0 => ?_
  repeat' first|(refine gca ?_; first|(refine ca (SameNat_tr o1 o2 l1 l2) ?_; rintro _ _ ⟨rfl, rfl⟩))|refine bx fun q => ?_|(refine wo ?_; first|(refine ao ?_; first|refine ibe ?_)|refine oa ?_|refine ld ?_|refine gy ?_|refine gn ?_|(refine gsi (fun hB => ?_) (fun hB => ?_) <;> try (exfalso; omega)))|refine sq ?_|refine rg ?_|refine xc ?_|refine nl ?_|refine rt ?_
  · have e : b1 = b2 := by simpa using hB
    refine r1 ⟨?_, rfl⟩
    congr 1; exact decide_eq_decide.2 ⟨fun h => ⟨e, h⟩, fun h => h.2⟩
  · have e : ¬ b1 = b2 := by simpa using hB
    refine r1 ⟨?_, rfl⟩
    rw [decide_eq_false fun h => e h.1]
theorem SameRatio_tr (t1 t2 : Fr3) (n1 d1 n2 d2 : Value) : Tr Tryz.prog 18 [.agg #[.bool t1.1, n1, d1], .agg #[.bool t2.1, n2, d2]] [vw n1 (Us t1.2.1), vw d1 (Us t1.2.2), vw n2 (Us t2.2.1), vw d2 (Us t2.2.2)] []
    fun v D => v = .bool (decide (t1 = t2)) ∧ D = [] := by
  obtain ⟨b1, x1, y1⟩ := t1
  obtain ⟨b2, x2, y2⟩ := t2
  dsimp only
  refine Tr.enter env _ Tryz.func18 (by kernel_rfl) rfl Tryz.ntmps18 rfl (by repeat (first | exact has00 | refine has01 ?_)) fun w0 => ?_
  repeat' first|(refine gca ?_; first|(refine ca (SameWhole_tr b1 b2 n1 n2 x1 x2) ?_; rintro _ _ ⟨rfl, rfl⟩)|(refine ca (SameNat_tr d1 d2 y1 y2) ?_; rintro _ _ ⟨rfl, rfl⟩))|refine bx fun q => ?_|refine lda ?_|(refine wo ?_; first|refine oa ?_|refine ld ?_|refine gy ?_|refine gn ?_|(refine gsi (fun hB => ?_) (fun hB => ?_) <;> try (exfalso; omega)))|refine sq ?_|refine rg ?_|refine xc ?_|refine nl ?_|refine rt ?_
  · refine r1 ⟨?_, rfl⟩
    congr 1; refine decide_eq_decide.2 ⟨fun h => by rw [hB.1, hB.2, h], fun h => by injection h with _ h; injection h⟩
  · refine r1 ⟨?_, rfl⟩
    rw [decide_eq_false fun h => hB (by injection h with h1 h; injection h with h2 _; exact ⟨h1, h2⟩)]
theorem LongAlias_tr (tot m : Int) (cv ov : Value) (cut oth : List Int) : Tr Tryz.prog 9 [.agg #[I tot, cv, ov], I m] [vw cv (Is cut), vw ov (Is oth)] [] fun v D => v = .bool (decide (m < cut.length ∨ m < oth.length)) ∧ D = [] := by
  refine Tr.enter env _ Tryz.func9 (by kernel_rfl) rfl Tryz.ntmps9 rfl (by repeat (first | exact has00 | refine has01 ?_)) fun w0 => ?_
  repeat' first|refine bx fun q => ?_|(refine wo ?_; first|(refine ao ?_; first|refine oa ?_)|refine oa ?_|refine ld ?_|refine lnm ?_|refine gy ?_|refine gn ?_|(refine gsi (fun hB => ?_) (fun hB => ?_) <;> try (exfalso; omega)))|refine sq ?_|refine rg ?_|refine xc ?_|refine nl ?_|refine rt ?_
  · refine r1 ⟨?_, rfl⟩
    rw [decide_eq_true (.inl hB)]
  · refine r1 ⟨?_, rfl⟩
    congr 1; exact decide_eq_decide.2 ⟨.inr, fun h => h.resolve_left hB⟩
end Go.Art
set_option linter.unusedSimpArgs false
set_option linter.unusedVariables false
namespace Go.Art
open Go Go.Proofs Go.RowKit
theorem srt_id {xs : List Int} (h : xs.Pairwise (· ≤ ·)) : srt xs = xs := ((srt_perm xs)).eq_of_pairwise (fun a b _ _ h1 h2 => by omega) (srt_sorted xs) h
theorem pickO_of {k d : Int} {x : Lw} {l : List Int} (h : (ordO k d x).1 = (l, 0)) (hs : l.Pairwise (· ≤ ·)) : pickO k d x = (l, 0) := by
  unfold pickO; rw [h, srt_id hs]
theorem setW_of {tot : Int} {cut oth : List Int} {k : Int} {x : Lw} {at1 : Int} {x2 : Lw} {l : List Int} (h1 : rwE tot cut oth k = 0) (h2 : (plcW tot cut oth x).1 = (at1, 0)) (h3 : (plcW tot cut oth x).2.1 = x2) (h4 : (ordO k (at1 + 1) x2).1 = (l, 0)) (hs : l.Pairwise (· ≤ ·)) : (setW tot cut oth k x).1 = (l, 0) := by
  unfold setW
  rw [if_pos h1, h2, if_pos rfl, h3]
  exact pickO_of h4 hs
theorem few1 : (setW 4 [2, 4] [1, 1] 3 (.inr ([0, 1, 2], false))).1 = ([2], 0) := setW_of (at1 := 0) (x2 := .inr ([2], false)) (by decide) (by decide) (by kernel_rfl) (by decide) (by simp)
theorem few2 : (setW 4 [2, 4] [1, 1] 3 (.inr ([0, 2, 0, 1], false))).1 = ([0, 2], 0) := setW_of (at1 := 1) (x2 := .inr ([0, 1], false)) (by decide) (by decide) (by kernel_rfl) (by decide) (by simp)
theorem mea1 : meaW 4 [2, 4] [1, 1] 3 2 = (rqf (mkRat 1 48), 0) := by
  rw [meaW_ok (by decide) (by decide)]; rfl
theorem cha1 : chaW [1, 3] 3 1 = (rqf (mkRat 1 12), 0) := by
  unfold chaW; rw [if_pos (by decide), if_neg (by decide)]; rfl
attribute [local irreducible] Fit pt own ro vw mpc lpt vels rels mow lrc dfr
attribute [local irreducible] lmp lme mit velg relg
theorem few_tr : Tr Tryz.prog 35 [] [] [] fun v D => ∃ c o, v = .agg #[I 4, c, o] ∧ c.oneCell' = true ∧ o.oneCell' = true ∧ D = [own TLI c (Is [2, 4]), own TLI o (Is [1, 1])] := by
  refine Tr.enter env _ Tryz.func35 (by kernel_rfl) rfl Tryz.ntmps35 rfl (by repeat (first | exact has00 | refine has01 ?_)) fun w0 => ?_
  repeat' first|refine al fun q => ?_|refine slz fun v hv => ?_|refine bdz ?_|refine srz ?_|refine sq ?_|refine rg ?_|refine xc ?_|refine nl ?_|refine rt ?_
  rename_i c hc
  exact rca1 (cs := [I 4, c, v]) (vs := [I 4, c, v]) (T := TAl) ⟨c, v, rfl, hc, hv, rfl⟩
theorem draws_tr (k e : Int) (lv wv : Value) (l want : List Int) (hl : l.length ≤ 1000) : Tr Tryz.prog 36 [I k, lv, I e, wv] [vw lv (Is l), vw wv (Is want)] []
    fun v D => v = .bool (decide ((setW 4 [2, 4] [1, 1] k (.inr (l, false))).1 = (want, e))) ∧ D = [] := by
  have hS := fun b r sv c o hc ho => SetW_tr 4 k c o [2, 4] [1, 1] b r sv (.inr (l, false)) (okL_row l false) hc ho
  generalize setW 4 [2, 4] [1, 1] k (.inr (l, false)) = sw at *
  obtain ⟨⟨s, f⟩, x2, u2⟩ := sw
  dsimp only at hS ⊢
  refine Tr.enter env _ Tryz.func36 (by kernel_rfl) rfl Tryz.ntmps36 rfl (by repeat (first | exact has00 | refine has01 ?_)) fun w0 => ?_
  repeat' first|(refine gca ?_; first|(refine ca few_tr ?_; rintro _ _ ⟨c, o, rfl, hc, ho, rfl⟩)|(refine ca (LRow_tr lv l (by omega)) ?_; rintro _ _ ⟨b, r, sv, rfl, rfl⟩)|(refine ca (hS b r sv c o hc ho) ?_; rintro _ _ ⟨so, sv2, rfl, rfl⟩)|(refine ca (SameInts_tr so wv s want) ?_; rintro _ _ ⟨rfl, rfl⟩))|(refine wo ?_; first|(refine ao ?_; first|refine oa ?_)|refine oa ?_|refine gy ?_|refine gn ?_|(refine gsi (fun hB => ?_) (fun hB => ?_) <;> try (exfalso; omega)))|refine sq ?_|refine rg ?_|refine xc ?_|refine nl ?_|refine rt ?_
  · refine r1 ⟨?_, rfl⟩
    congr 1; exact decide_eq_decide.2 ⟨fun h => by rw [h, hB], fun h => by injection h⟩
  · refine r1 ⟨?_, rfl⟩
    rw [decide_eq_false fun h => hB (by injection h)]
theorem is_tr (t : Fr3) (e : Int) (n1 d1 : Value) (x y : Nat) (hx : x < 9223372036854775808) (hy : y < 9223372036854775808) (hy0 : y ≠ 0) : Tr Tryz.prog 37 [.agg #[.bool t.1, n1, d1], I e, I x, I y] [vw n1 (Us t.2.1), vw d1 (Us t.2.2)] []
    fun v D => v = .bool (decide (e = 0 ∧ t = rqf (mkRat x y))) ∧ D = [] := by
  have hP := FPair_tr x y hx hy hy0
  unfold FQ2 at hP
  have hl : 0 < (dg (mkRat (x : Int) y).den).length := by have := dg_len_pos (mkRat (x : Int) y).den_nz; omega
  generalize mkRat (x : Int) y = q at *
  refine Tr.enter env _ Tryz.func37 (by kernel_rfl) rfl Tryz.ntmps37 rfl (by repeat (first | exact has00 | refine has01 ?_)) fun w0 => ?_
  repeat' first|(refine gca ?_; first|(refine ca hP ?_; rintro _ _ ⟨vn, vd, rfl, hvn, hvd, rfl⟩)|(refine ca (SameRatio_tr t (rqf q) n1 d1 vn vd) ?_; rintro _ _ ⟨rfl, rfl⟩))|refine bx fun b1 => ?_|refine al fun b2 => ?_|refine lda ?_|refine srz ?_|(refine wo ?_; first|(refine ao ?_; first|refine oa ?_)|refine oa ?_|refine ld ?_|refine lnm ?_|refine gy ?_|refine gn ?_|(refine gsi (fun hB => ?_) (fun hB => ?_) <;> try (exfalso; omega)))|refine sq ?_|refine rg ?_|refine xc ?_|refine nl ?_|refine rt ?_
  · refine r1 ⟨?_, rfl⟩
    congr 1; exact decide_eq_decide.2 ⟨fun h => ⟨by assumption, h⟩, fun h => h.2⟩
  · refine r1 ⟨?_, rfl⟩
    rw [decide_eq_false fun h => absurd h.1 (by assumption)]
theorem awake_tr : Tr Tryz.prog 11 [] [] [] fun v D => v = .bool true ∧ D = [] := by
  have hM := fun c o hc ho => MeaW_tr 4 3 2 c o [2, 4] [1, 1] hc ho
  have hC := fun s => ChaW_tr s [1, 3] 3 1
  simp only [mea1] at hM
  simp only [cha1] at hC
  unfold FW at hM hC
  dsimp only at hM hC
  have hI1 := fun n1 d1 => is_tr (rqf (mkRat 1 48)) 0 n1 d1 1 48 (by decide) (by decide) (by decide)
  have hI2 := fun n1 d1 => is_tr (rqf (mkRat 1 12)) 0 n1 d1 1 12 (by decide) (by decide) (by decide)
  simp only [show ((1 : Nat) : Int) = 1 from rfl, and_self, decide_true] at hI1 hI2
  have hD1 := fun lv wv => draws_tr 3 0 lv wv [0, 1, 2] [2] (by decide)
  have hD2 := fun lv wv => draws_tr 3 0 lv wv [0, 2, 0, 1] [0, 2] (by decide)
  rw [few1] at hD1
  rw [few2] at hD2
  simp only [decide_true] at hD1 hD2
  generalize mkRat 1 48 = q1 at *
  generalize mkRat 1 12 = q2 at *
  refine Tr.enter env _ Tryz.func11 (by kernel_rfl) rfl Tryz.ntmps11 rfl (by repeat (first | exact has00 | refine has01 ?_)) fun w0 => ?_
  repeat' first|(refine gca ?_; first|(refine ca few_tr ?_; rintro _ _ ⟨c, o, rfl, hc, ho, rfl⟩)|(refine ca (hM c o hc ho) ?_; rintro _ _ ⟨n1, d1, rfl, hn1, hd1, rfl⟩)|(refine ca (hC _) ?_; rintro _ _ ⟨n2, d2, rfl, hn2, hd2, rfl⟩)|(refine ca (hD1 _ _) ?_; rintro _ _ ⟨rfl, rfl⟩)|(refine ca (hD2 _ _) ?_; rintro _ _ ⟨rfl, rfl⟩)|(refine ca (hI1 n1 d1) ?_; rintro _ _ ⟨rfl, rfl⟩)|(refine ca (hI2 n2 d2) ?_; rintro _ _ ⟨rfl, rfl⟩))|refine slz fun v hv => ?_|refine al fun b1 => ?_|refine srz ?_|refine lda ?_|(refine wo ?_; first|refine oa ?_|refine gy ?_)|refine sq ?_|refine rg ?_|refine xc ?_|refine nl ?_|refine rt ?_
  exact r1 ⟨rfl, rfl⟩
end Go.Art
set_option linter.unusedSimpArgs false
set_option linter.unusedVariables false
namespace Go.Art
open Go Go.Proofs Go.RowKit
attribute [local irreducible] Fit pt own ro vw mpc lpt vels rels mow lrc dfr
end Go.Art
set_option linter.unusedSimpArgs false
set_option linter.unusedVariables false
namespace Go.Art
open Go Go.Proofs Go.RowKit
attribute [local irreducible] Fit pt own ro vw mpc lpt vels rels mow lrc dfr
theorem OverInts_tr (a : Value) (xs : List Int) : Tr Tryz.prog 31 [a] [] [own 3 a (Is xs)] fun v D => D = [] := by
  refine Tr.enter env _ Tryz.func31 (by kernel_rfl) rfl Tryz.ntmps31 rfl (by repeat (first | exact has00 | refine has01 ?_)) fun w0 => ?_
  refine TC.leni (l := xs) fun hl => ?_
  repeat' first|(refine wo ?_; first|refine oa ?_)|refine sq ?_|refine rg ?_|refine xc ?_|refine nl ?_|refine bk ?_
  refine TC.loop (ι := Nat × List Int) (fun k => [(2, I k.1)]) (fun k => [own 3 a (Is k.2)]) (fun k => k.2.length = xs.length ∧ k.1 ≤ xs.length) (fun k => xs.length - k.1) (0, xs) [0] ⟨rfl, by simp⟩ ?_
  rintro ⟨k, ys⟩ ⟨hl, hk⟩
  dsimp only at hl hk ⊢
  repeat' first|(refine wo ?_; first|(refine ao ?_; first|refine aw ?_|refine oa ?_)|refine oa ?_|refine lnm ?_|refine ixmn ?_|refine soi ?_)|(refine gc ?_; first|(refine ci (fun hB => ?_) (fun hB => ?_) <;> try (exfalso; omega)))|refine sq ?_|refine rg ?_|refine xc ?_|refine nl ?_|refine sk ?_|refine bk ?_|refine xe ?_|refine xb ?_
  · exact lp (k + 1, ys.set k (-77)) ⟨by simp [hl], by dsimp only; omega⟩
  · exact e0 rfl
end Go.Art
set_option linter.unusedSimpArgs false
set_option linter.unusedVariables false
namespace Go.Art
open Go Go.Proofs Go.RowKit
def loH (r : Nat) (x : Lw) (used : Int) : List Value :=
  match x with
  | .inl _ => [.iface TpS (ptr r), I used, .bool false]
  | .inr (_, br) => [.iface TpR (ptr r), I used, .bool br]
def rloH (sv : Value) (x : Lw) (used : Int) : List Value :=
  match x with
  | .inl st => [nS, .bool true, U st, I used, .bool false]
  | .inr (_, br) => [sv, .bool false, w0u, I used, .bool br]
section
variable {P : Program} {E : Env P} {n : Sh} {X : Cx} {s : List K} {fr : Fr} {A : List Ch} {ops : Array Oper} {rest : List Oper} {d : Nat} {ty t : TypeId} {pos : String} {after : Array Edge} {x : Operand} {dt : TypeDesc} {sz by_ : Nat} {z : Value} {cs vs : List Value} {b j : Nat} {T : TypeId}
end
attribute [local irreducible] Fit pt own ro vw mpc lpt vels rels mow lrc dfr
attribute [local irreducible] lmp lme mit velg relg
theorem farK_tr (k : Int) : Tr Tryz.prog 10 [I k] [] [] fun v D => v = .bool (decide (300 < k ∧ k ≤ 65536)) ∧ D = [] := by
  refine Tr.enter env _ Tryz.func10 (by kernel_rfl) rfl Tryz.ntmps10 rfl (by repeat (first | exact has00 | refine has01 ?_)) fun w0 => ?_
  repeat' first|(refine wo ?_; first|(refine ao ?_; first|refine oa ?_)|refine oa ?_|refine gy ?_|refine gn ?_|(refine gsi (fun hB => ?_) (fun hB => ?_) <;> try (exfalso; omega)))|refine sq ?_|refine rg ?_|refine xc ?_|refine nl ?_|refine rt ?_
  · refine r1 ⟨?_, rfl⟩
    congr 1; exact decide_eq_decide.2 ⟨fun h => ⟨hB, h⟩, fun h => h.2⟩
  · refine r1 ⟨?_, rfl⟩
    rw [decide_eq_false fun h => hB h.1]
theorem CopyIntsV_tr (a : Value) (xs : List Int) (hb : xs.length ≤ 17592186044416) : Tr Tryz.prog 13 [a] [vw a (Is xs)] [] fun v D => v.oneCell' = true ∧ D = [own TLI v (Is xs)] := by
  refine Tr.enter env _ Tryz.func13 (by kernel_rfl) rfl Tryz.ntmps13 rfl (by repeat (first | exact has00 | refine has01 ?_)) fun w0 => ?_
  repeat' first|(refine sl0 fun o => ?_)|(refine api (l := []) (news := xs) (fun o => ?_); refine TO.one (v := o) (xs := Is ([] ++ xs)) fun ho => ?_)|(refine wo ?_; first|refine oa ?_)|refine sq ?_|refine rg ?_|refine xc ?_|refine nl ?_|refine rt ?_
  exact r1 ⟨ho, rfl⟩
theorem CopyAlias_tr (tot : Int) (cv ov : Value) (cut oth : List Int) (h1 : cut.length ≤ 17592186044416) (h2 : oth.length ≤ 17592186044416) (hc : cv.oneCell' = true) (ho : ov.oneCell' = true) : Tr Tryz.prog 12 [.agg #[I tot, cv, ov]] [vw cv (Is cut), vw ov (Is oth)] []
    fun v D => ∃ c o, v = .agg #[I tot, c, o] ∧ c.oneCell' = true ∧ o.oneCell' = true ∧ D = [own TLI c (Is cut), own TLI o (Is oth)] := by
  refine Tr.enter env _ Tryz.func12 (by kernel_rfl) rfl Tryz.ntmps12 rfl (by repeat (first | exact has00 | refine has01 ?_)) fun w0 => ?_
  repeat' first|refine bx fun q => ?_|refine al fun q2 => ?_|refine sq ?_|refine rg ?_|refine xc ?_|refine nl ?_
  refine rs (fun _ => True) ?_ (fun _ _ => trivial)
  refine tka 0 ?_
  refine tka 3 ?_
  refine t2 1 4 ?_ ?_
  · refine ld ?_
    refine nl ?_
    refine te (fun _ _ => trivial) ?_
    refine t2 2 4 ?_ ?_
    · refine ca (CopyIntsV_tr cv cut h1) ?_
      rintro c _ ⟨hc1, rfl⟩
      refine nl ?_
      refine te (fun _ _ => trivial) ?_
      refine t1 4 ?_
      refine ld ?_
      refine nl ?_
      refine te (fun _ _ => trivial) ?_
      refine tka 6 ?_
      refine t1 5 ?_
      refine ca (CopyIntsV_tr ov oth h2) ?_
      rintro o _ ⟨ho1, rfl⟩
      refine nl ?_
      refine te (fun _ _ => trivial) ?_
      refine t1 7 ?_
      refine sr ?_
      refine nl ?_
      refine te (fun _ _ => trivial) ?_
      refine tka 8 ?_
      refine t1 9 ?_
      refine sr ?_
      refine nl ?_
      refine te (fun _ _ => trivial) ?_
      refine t0 ?_
      repeat' first|refine lda ?_|refine srz ?_|refine sq ?_|refine rg ?_|refine xc ?_|refine nl ?_|refine rt ?_
      exact rca1 (cs := [I tot, c, o]) (vs := [I tot, c, o]) (T := TAl) ⟨c, o, rfl, hc1, ho1, rfl⟩
    · refine ld ?_
      refine nl ?_
      refine te (fun _ _ => trivial) ?_
      refine t1 2 ?_
      refine ca (CopyIntsV_tr cv cut h1) ?_
      rintro c _ ⟨hc1, rfl⟩
      refine nl ?_
      refine te (fun _ _ => trivial) ?_
      refine tka 6 ?_
      refine t1 5 ?_
      refine ca (CopyIntsV_tr ov oth h2) ?_
      rintro o _ ⟨ho1, rfl⟩
      refine nl ?_
      refine te (fun _ _ => trivial) ?_
      refine t1 7 ?_
      refine sr ?_
      refine nl ?_
      refine te (fun _ _ => trivial) ?_
      refine tka 8 ?_
      refine t1 9 ?_
      refine sr ?_
      refine nl ?_
      refine te (fun _ _ => trivial) ?_
      refine t0 ?_
      repeat' first|refine lda ?_|refine srz ?_|refine sq ?_|refine rg ?_|refine xc ?_|refine nl ?_|refine rt ?_
      exact rca1 (cs := [I tot, c, o]) (vs := [I tot, c, o]) (T := TAl) ⟨c, o, rfl, hc1, ho1, rfl⟩
  · refine ld ?_
    refine nl ?_
    refine te (fun _ _ => trivial) ?_
    refine t1 1 ?_
    refine ld ?_
    refine nl ?_
    refine te (fun _ _ => trivial) ?_
    refine t1 2 ?_
    refine ca (CopyIntsV_tr cv cut h1) ?_
    rintro c _ ⟨hc1, rfl⟩
    refine nl ?_
    refine te (fun _ _ => trivial) ?_
    refine tka 6 ?_
    refine t1 5 ?_
    refine ca (CopyIntsV_tr ov oth h2) ?_
    rintro o _ ⟨ho1, rfl⟩
    refine nl ?_
    refine te (fun _ _ => trivial) ?_
    refine t1 7 ?_
    refine sr ?_
    refine nl ?_
    refine te (fun _ _ => trivial) ?_
    refine tka 8 ?_
    refine t1 9 ?_
    refine sr ?_
    refine nl ?_
    refine te (fun _ _ => trivial) ?_
    refine t0 ?_
    repeat' first|refine lda ?_|refine srz ?_|refine sq ?_|refine rg ?_|refine xc ?_|refine nl ?_|refine rt ?_
    exact rca1 (cs := [I tot, c, o]) (vs := [I tot, c, o]) (T := TAl) ⟨c, o, rfl, hc1, ho1, rfl⟩
theorem SameAlias_tr (t1 t2 : Int) (c1 o1 c2 o2 : Value) (x1 y1 x2 y2 : List Int) : Tr Tryz.prog 20 [.agg #[I t1, c1, o1], .agg #[I t2, c2, o2]] [vw c1 (Is x1), vw o1 (Is y1), vw c2 (Is x2), vw o2 (Is y2)] []
    fun v D => v = .bool (decide (t1 = t2 ∧ x1 = x2 ∧ y1 = y2)) ∧ D = [] := by
  refine Tr.enter env _ Tryz.func20 (by kernel_rfl) rfl Tryz.ntmps20 rfl (by repeat (first | exact has00 | refine has01 ?_)) fun w0 => ?_
  repeat' first|(refine gca ?_; first|(refine ca (SameInts_tr c1 c2 x1 x2) ?_; rintro _ _ ⟨rfl, rfl⟩)|(refine ca (SameInts_tr o1 o2 y1 y2) ?_; rintro _ _ ⟨rfl, rfl⟩))|refine bx fun q => ?_|(refine wo ?_; first|(refine ao ?_; first|refine oa ?_)|refine oa ?_|refine ld ?_|refine gy ?_|refine gn ?_|(refine gsi (fun hB => ?_) (fun hB => ?_) <;> try (exfalso; omega)))|refine sq ?_|refine rg ?_|refine xc ?_|refine nl ?_|refine rt ?_
  · refine r1 ⟨?_, rfl⟩
    congr 1; exact decide_eq_decide.2 ⟨fun h => ⟨by assumption, by assumption, h⟩, fun h => h.2.2⟩
  · refine r1 ⟨?_, rfl⟩
    rw [decide_eq_false fun h => hB h.2.1]
  · refine r1 ⟨?_, rfl⟩
    rw [decide_eq_false fun h => hB h.1]
theorem SameIntsT_tr (a b : Value) (xs : List Int) : Tr Tryz.prog 21 [a, b] [vw a (Is xs), vw b (Is xs)] [] fun v D => v = .bool true ∧ D = [] :=
  (SameInts_tr a b xs xs).mono fun v D h => by rw [decide_eq_true rfl] at h; exact h
theorem SameAliasT_tr (t1 : Int) (c1 o1 c2 o2 : Value) (x1 y1 : List Int) : Tr Tryz.prog 20 [.agg #[I t1, c1, o1], .agg #[I t1, c2, o2]] [vw c1 (Is x1), vw o1 (Is y1), vw c2 (Is x1), vw o2 (Is y1)] []
    fun v D => v = .bool true ∧ D = [] := (SameAlias_tr t1 t1 c1 o1 c2 o2 x1 y1 x1 y1).mono fun v D h => by rw [decide_eq_true ⟨rfl, rfl, rfl⟩] at h; exact h
end Go.Art
set_option linter.unusedSimpArgs false
set_option linter.unusedVariables false
namespace Go.Art
open Go Go.Proofs Go.RowKit
attribute [local irreducible] Fit pt own ro vw mpc lpt vels rels mow lrc dfr
attribute [local irreducible] lmp lme mit velg relg bnd owl dfrl
theorem SameRowsT_tr (v u : Value) (hs hs2 : List Value) (ls : List (List Int)) (hl : hs.length = ls.length) (hl2 : hs2.length = ls.length) : Tr Tryz.prog 34 [v, u] [vw v hs, velg I hs ls, vw u hs2, velg I hs2 ls] [] fun w D => w = .bool true ∧ D = [] := by
  refine Tr.enter env _ Tryz.func34 (by kernel_rfl) rfl Tryz.ntmps34 rfl (by repeat (first | exact has00 | refine has01 ?_)) fun w0 => ?_
  refine TC.fact (fun w hw => vw_len (has_vw (F := [vw v hs, velg I hs ls, vw u hs2, velg I hs2 ls] ++ []) (v := v) (xs := hs) (by (repeat (first | apply List.Mem.head | apply List.Mem.tail)); first | done | fail)) w hw) fun hll => ?_
  repeat' first|(refine wo ?_; first|(refine ao ?_; first|refine oa ?_)|refine oa ?_|refine ln ?_)|refine sq ?_|refine rg ?_|refine xc ?_|refine nl ?_|refine bk ?_
  refine TC.loop (ι := Nat) (fun i => [(6, I i), (5, .bool true)]) (fun _ => []) (fun i => i ≤ ls.length) (fun i => ls.length - i) 0 [0, 1] (Nat.zero_le _) ?_ (hs := by rw [hl, hl2, show decide ((ls.length : Int) = ls.length) = true from decide_eq_true rfl]; (repeat (refine Sub.cons rfl (by first | rfl | go_num) ?_)); exact Sub.nil)
  rintro i hi
  by_cases hlt : i < ls.length
  · have hg1 : hs[i]? = some (hs.getD i nS) := by rw [List.getD_eq_getElem?_getD, List.getElem?_eq_getElem (by omega)]; rfl
    have hg2 : hs2[i]? = some (hs2.getD i nS) := by rw [List.getD_eq_getElem?_getD, List.getElem?_eq_getElem (by omega)]; rfl
    have hS := SameIntsT_tr (hs.getD i nS) (hs2.getD i nS) (ls.getD i [])
    repeat' first|refine qle (xs := hs) ?_ (hj := hg1)|refine qle (xs := hs2) ?_ (hj := hg2)|refine qca hS (v := .bool true) (fun _ _ h => h) ?_ (hp := has1 (has_elg (g := I) (hs := hs) (ls := ls) (by first | (apply has_vw; (repeat (first | apply List.Mem.head | apply List.Mem.tail)); first | done | fail) | (apply has_own; (repeat (first | apply List.Mem.head | apply List.Mem.tail)); first | done | fail) | (apply has_ro; (repeat (first | apply List.Mem.head | apply List.Mem.tail)); first | done | fail) | apply has_nil | ((with_reducible apply has_el); (focus (first | (apply has_vels; (repeat (first | apply List.Mem.head | apply List.Mem.tail)); first | done | fail) | (apply has_rels; (repeat (first | apply List.Mem.head | apply List.Mem.tail)); first | done | fail))); omega) | (apply has_pt; (repeat (first | apply List.Mem.head | apply List.Mem.tail)); first | done | fail) | (apply has_lpt; (repeat (first | apply List.Mem.head | apply List.Mem.tail)); first | done | fail) | (apply has_vels; (repeat (first | apply List.Mem.head | apply List.Mem.tail)); first | done | fail) | (apply has_rels; (repeat (first | apply List.Mem.head | apply List.Mem.tail)); first | done | fail) | with_reducible assumption | ((with_reducible apply has_elg); (focus (first | (apply has_velg; (repeat (first | apply List.Mem.head | apply List.Mem.tail)); first | done | fail) | (apply has_relg; (repeat (first | apply List.Mem.head | apply List.Mem.tail)); first | done | fail))); omega) | (apply has_velg; (repeat (first | apply List.Mem.head | apply List.Mem.tail)); first | done | fail) | (apply has_relg; (repeat (first | apply List.Mem.head | apply List.Mem.tail)); first | done | fail) | (apply has_vwf; (repeat (first | apply List.Mem.head | apply List.Mem.tail)); first | done | fail)) hlt) (has1 (has_elg (g := I) (hs := hs2) (ls := ls) (by first | (apply has_vw; (repeat (first | apply List.Mem.head | apply List.Mem.tail)); first | done | fail) | (apply has_own; (repeat (first | apply List.Mem.head | apply List.Mem.tail)); first | done | fail) | (apply has_ro; (repeat (first | apply List.Mem.head | apply List.Mem.tail)); first | done | fail) | apply has_nil | ((with_reducible apply has_el); (focus (first | (apply has_vels; (repeat (first | apply List.Mem.head | apply List.Mem.tail)); first | done | fail) | (apply has_rels; (repeat (first | apply List.Mem.head | apply List.Mem.tail)); first | done | fail))); omega) | (apply has_pt; (repeat (first | apply List.Mem.head | apply List.Mem.tail)); first | done | fail) | (apply has_lpt; (repeat (first | apply List.Mem.head | apply List.Mem.tail)); first | done | fail) | (apply has_vels; (repeat (first | apply List.Mem.head | apply List.Mem.tail)); first | done | fail) | (apply has_rels; (repeat (first | apply List.Mem.head | apply List.Mem.tail)); first | done | fail) | with_reducible assumption | ((with_reducible apply has_elg); (focus (first | (apply has_velg; (repeat (first | apply List.Mem.head | apply List.Mem.tail)); first | done | fail) | (apply has_relg; (repeat (first | apply List.Mem.head | apply List.Mem.tail)); first | done | fail))); omega) | (apply has_velg; (repeat (first | apply List.Mem.head | apply List.Mem.tail)); first | done | fail) | (apply has_relg; (repeat (first | apply List.Mem.head | apply List.Mem.tail)); first | done | fail) | (apply has_vwf; (repeat (first | apply List.Mem.head | apply List.Mem.tail)); first | done | fail)) hlt) has0))|(refine wo ?_; first|(refine ao ?_; first|refine aw ?_|refine oa ?_)|refine oa ?_|refine ln ?_|refine gy ?_)|(refine gc ?_; first|(refine ci (fun hB => ?_) (fun hB => ?_) <;> try (exfalso; omega)))|refine sq ?_|refine rg ?_|refine xc ?_|refine nl ?_|refine sk ?_|refine bk ?_|refine xb ?_|refine rq ?_|refine nq ?_|(refine wq ?_; first|refine qa ?_|refine qixn ?_)
    exact lp (i + 1) hlt
  · obtain rfl : i = ls.length := by omega
    repeat' first|(refine wo ?_; first|(refine ao ?_; first|refine oa ?_)|refine oa ?_|refine ln ?_|refine gy ?_)|(refine gc ?_; first|(refine ci (fun hB => ?_) (fun hB => ?_) <;> try (exfalso; omega)))|refine sq ?_|refine rg ?_|refine xc ?_|refine nl ?_|refine xe ?_|refine rt ?_
    exact r1 ⟨rfl, rfl⟩
theorem RowLists_tr (tot k : Int) (cv ov : Value) (cut oth : List Int) (hc : cv.oneCell' = true) (ho : ov.oneCell' = true) : Tr Tryz.prog 5 [.agg #[I tot, cv, ov], I k] [vw cv (Is cut), vw ov (Is oth)] [] fun v D => v = .bool true ∧ D = [] := by
  have hA := LongAlias_tr tot 12 cv ov cut oth
  have hF := farK_tr k
  by_cases hg : ((12 : Int) < cut.length ∨ (12 : Int) < oth.length) ∨ (300 < k ∧ k ≤ 65536)
  · refine Tr.enter env _ Tryz.func5 (by kernel_rfl) rfl Tryz.ntmps5 rfl (by repeat (first | exact has00 | refine has01 ?_)) fun w0 => ?_
    repeat' first|(refine gca ?_; first|(refine ca hA ?_; rintro _ _ ⟨rfl, rfl⟩)|(refine ca hF ?_; rintro _ _ ⟨rfl, rfl⟩)|(refine ca awake_tr ?_; rintro _ _ ⟨rfl, rfl⟩))|refine bx fun q => ?_|refine lda ?_|(refine wo ?_; first|refine oa ?_|refine gy ?_|refine gn ?_|(refine gsi (fun hB => ?_) (fun hB => ?_) <;> try (exfalso; omega)))|(refine gc ?_; first|refine ct ?_|(refine ci (fun hB => ?_) (fun hB => ?_) <;> try (exfalso; omega)))|refine sq ?_|refine rg ?_|refine xc ?_|refine nl ?_|refine rt ?_
    all_goals exact r1 ⟨rfl, rfl⟩
  have hR1 := fun c o hc1 ho1 => Rows_tr tot k c o cut oth hc1 ho1
  have hR2 := RRows_tr tot k cv ov cut oth hc ho
  generalize rowsW tot cut oth k = w1 at *
  obtain ⟨L, e⟩ := w1
  dsimp only at hR1 hR2
  have hSA := fun c o => SameAliasT_tr tot c o cv ov cut oth
  have hCA := CopyAlias_tr tot cv ov cut oth (by omega) (by omega) hc ho
  refine Tr.enter env _ Tryz.func5 (by kernel_rfl) rfl Tryz.ntmps5 rfl (by repeat (first | exact has00 | refine has01 ?_)) fun w0 => ?_
  repeat' first|(refine gca ?_; first|(refine ca hA ?_; rintro _ _ ⟨rfl, rfl⟩)|(refine ca hF ?_; rintro _ _ ⟨rfl, rfl⟩)|(refine ca hCA ?_; rintro _ _ ⟨c, o, rfl, hc1, ho1, rfl⟩)|(refine ca (hR1 c o hc1 ho1) ?_; rintro _ _ ⟨v1, hs1, rfl, hv1, hl1, rfl⟩)|(refine ca hR2 ?_; rintro _ _ ⟨v2, hs2, rfl, hv2, hl2, rfl⟩)|(refine ca (SameRowsT_tr v1 v2 hs1 hs2 L hl1 hl2) ?_ (hp := has1 (by first | (apply has_vw; (repeat (first | apply List.Mem.head | apply List.Mem.tail)); first | done | fail) | (apply has_own; (repeat (first | apply List.Mem.head | apply List.Mem.tail)); first | done | fail) | (apply has_ro; (repeat (first | apply List.Mem.head | apply List.Mem.tail)); first | done | fail) | apply has_nil | ((with_reducible apply has_el); (focus (first | (apply has_vels; (repeat (first | apply List.Mem.head | apply List.Mem.tail)); first | done | fail) | (apply has_rels; (repeat (first | apply List.Mem.head | apply List.Mem.tail)); first | done | fail))); omega) | (apply has_pt; (repeat (first | apply List.Mem.head | apply List.Mem.tail)); first | done | fail) | (apply has_lpt; (repeat (first | apply List.Mem.head | apply List.Mem.tail)); first | done | fail) | (apply has_vels; (repeat (first | apply List.Mem.head | apply List.Mem.tail)); first | done | fail) | (apply has_rels; (repeat (first | apply List.Mem.head | apply List.Mem.tail)); first | done | fail) | with_reducible assumption | ((with_reducible apply has_elg); (focus (first | (apply has_velg; (repeat (first | apply List.Mem.head | apply List.Mem.tail)); first | done | fail) | (apply has_relg; (repeat (first | apply List.Mem.head | apply List.Mem.tail)); first | done | fail))); omega) | (apply has_velg; (repeat (first | apply List.Mem.head | apply List.Mem.tail)); first | done | fail) | (apply has_relg; (repeat (first | apply List.Mem.head | apply List.Mem.tail)); first | done | fail) | (apply has_vwf; (repeat (first | apply List.Mem.head | apply List.Mem.tail)); first | done | fail)) (has1 (has_owl (e := TLI) hl1 (by (repeat (first | apply List.Mem.head | apply List.Mem.tail)); first | done | fail)) (has1 (by first | (apply has_vw; (repeat (first | apply List.Mem.head | apply List.Mem.tail)); first | done | fail) | (apply has_own; (repeat (first | apply List.Mem.head | apply List.Mem.tail)); first | done | fail) | (apply has_ro; (repeat (first | apply List.Mem.head | apply List.Mem.tail)); first | done | fail) | apply has_nil | ((with_reducible apply has_el); (focus (first | (apply has_vels; (repeat (first | apply List.Mem.head | apply List.Mem.tail)); first | done | fail) | (apply has_rels; (repeat (first | apply List.Mem.head | apply List.Mem.tail)); first | done | fail))); omega) | (apply has_pt; (repeat (first | apply List.Mem.head | apply List.Mem.tail)); first | done | fail) | (apply has_lpt; (repeat (first | apply List.Mem.head | apply List.Mem.tail)); first | done | fail) | (apply has_vels; (repeat (first | apply List.Mem.head | apply List.Mem.tail)); first | done | fail) | (apply has_rels; (repeat (first | apply List.Mem.head | apply List.Mem.tail)); first | done | fail) | with_reducible assumption | ((with_reducible apply has_elg); (focus (first | (apply has_velg; (repeat (first | apply List.Mem.head | apply List.Mem.tail)); first | done | fail) | (apply has_relg; (repeat (first | apply List.Mem.head | apply List.Mem.tail)); first | done | fail))); omega) | (apply has_velg; (repeat (first | apply List.Mem.head | apply List.Mem.tail)); first | done | fail) | (apply has_relg; (repeat (first | apply List.Mem.head | apply List.Mem.tail)); first | done | fail) | (apply has_vwf; (repeat (first | apply List.Mem.head | apply List.Mem.tail)); first | done | fail)) (has1 (has_owl (e := TLI) hl2 (by (repeat (first | apply List.Mem.head | apply List.Mem.tail)); first | done | fail)) has0)))); rintro _ _ ⟨rfl, rfl⟩))|refine bx fun q => ?_|refine al fun q2 => ?_|refine lda ?_|refine srz ?_|(refine wo ?_; first|(refine ao ?_; first|refine oa ?_)|refine oa ?_|refine gy ?_|(refine gsi (fun hB => ?_) (fun hB => ?_) <;> try (exfalso; omega)))|(refine gc ?_; first|(refine ci (fun hB => ?_) (fun hB => ?_) <;> try (exfalso; omega)))|refine sq ?_|refine rg ?_|refine xc ?_|refine nl ?_|refine sk ?_|refine bk ?_
  refine TC.fact (fun w hw => vw_len (has_own (e := TLs) (v := v1) (xs := hs1) (by (repeat (first | apply List.Mem.head | apply List.Mem.tail)); first | done | fail)) w hw) fun hml => ?_
  refine TC.loop (ι := Nat) (fun i => [(11, I i)]) (fun i => [own TLs v1 hs1, owl TLI I (hs1.drop i) (L.drop i)]) (fun i => i ≤ L.length) (fun i => L.length - i) 0 [2, 5, 6, 10] (Nat.zero_le _) ?_
  rintro i hi
  by_cases hlt : i < L.length
  · have hg1 : hs1[i]? = some (hs1.getD i nS) := by rw [List.getD_eq_getElem?_getD, List.getElem?_eq_getElem (by omega)]; rfl
    rw [drop_getD hlt [], drop_getD (l := hs1) (by omega) nS]
    refine TC.im (owl_pop (e := TLI) (g := I) (h := hs1.getD i nS) (l := L.getD i []) (hs := hs1.drop (i + 1)) (ls := L.drop (i + 1)) (by first | apply Fit.all | ((repeat (first | (apply Fit.nilN; (repeat (first | apply nrm_nil | apply nrm_cons)); try apply nrm_rfl) | (apply Fit.cons; focus ((repeat (first | apply Tk.here | apply Tk.there)); first | done | fail)))); first | done | fail))) ?_
    repeat' first|(refine gca ?_; first|(refine ca (OverInts_tr (hs1.getD i nS) (L.getD i [])) ?_; rintro _ _ rfl))|refine le (xs := hs1) ?_ (hj := hg1)|(refine can (OverInts_tr (hs1.getD i nS) (L.getD i [])) ?_; rintro _ _ rfl)|(refine wo ?_; first|(refine ao ?_; first|refine aw ?_|refine oa ?_)|refine oa ?_|refine ln ?_|refine ixn ?_)|(refine gc ?_; first|(refine ci (fun hB => ?_) (fun hB => ?_) <;> try (exfalso; omega)))|refine sq ?_|refine rg ?_|refine xc ?_|refine nl ?_|refine sk ?_|refine bk ?_|refine xb ?_
    exact lp (i + 1) hlt
  · obtain rfl : i = L.length := by omega
    repeat' first|(refine gca ?_; first|(refine ca (hSA c o) ?_; rintro _ _ ⟨rfl, rfl⟩)|(refine ca awake_tr ?_; rintro _ _ ⟨rfl, rfl⟩))|refine lda ?_|(refine wo ?_; first|(refine ao ?_; first|refine oa ?_)|refine oa ?_|refine ln ?_|refine gy ?_|(refine gsi (fun hB => ?_) (fun hB => ?_) <;> try (exfalso; omega)))|(refine gc ?_; first|(refine ci (fun hB => ?_) (fun hB => ?_) <;> try (exfalso; omega)))|refine sq ?_|refine rg ?_|refine xc ?_|refine nl ?_|refine xe ?_|refine rt ?_
    all_goals exact r1 ⟨rfl, rfl⟩
end Go.Art
set_option linter.unusedSimpArgs false
set_option linter.unusedVariables false
namespace Go.Art
open Go Go.RowKit

def adr (v : Value) (m : Nat) : Addr := (addrAt v 0).add m
def SlW (w : World) (v : Value) (n : Nat) (xs : List Value) : Prop :=
  ∃ a cap, v = .slice a n cap ∧ n ≤ cap ∧ cap ≤ maxLen ∧ (0 < n → ∃ x, a = some x) ∧ ∀ i u, xs[i]? = some u → ∃ x, a = some x ∧ w.cell? (x.add i) = some u
theorem add_block (x : Addr) (i : Nat) : (x.add i).block = x.block := by unfold Addr.add; split <;> rfl
def vwf (v : Value) (n : Nat) (xs : List Value) : Ch where
  wr := fun _ => False
  rd := fun _ => False
  bd := fun x => xs ≠ [] ∧ v.ownBlock = some x
  P := fun w => SlW w v n xs
  loc := fun {w w'} h hb => by
    obtain ⟨a, cap, rfl, h1, h2, h0, h3⟩ := h
    refine ⟨a, cap, rfl, h1, h2, h0, fun i u hi => ?_⟩
    obtain ⟨x, rfl, hx⟩ := h3 i u hi
    exact ⟨x, rfl, (World.cell?_of_block (by rw [add_block]; exact hb _ (.inr (.inr ⟨by rintro rfl; simp at hi, rfl⟩)))).trans hx⟩
  lt := fun {w b} h hb => by
    rcases hb with hb | hb | ⟨h4, h5⟩
    · exact hb.elim
    · exact hb.elim
    · obtain ⟨a, cap, rfl, h1, h2, h0, h3⟩ := h
      cases xs with
      | nil => exact absurd rfl h4
      | cons u r =>
        obtain ⟨x, rfl, hx⟩ := h3 0 u rfl
        have := World.block_lt_of_cell? w _ hx
        rw [add_block] at this
        simp only [Value.ownBlock, Option.some.injEq] at h5
        rw [← h5]; exact this
instance (v : Value) (n : Nat) (xs : List Value) : Lent (vwf v n xs) := ⟨fun _ => ⟨fun h => h, fun h => h⟩⟩
section
variable {P : Program} {E : Env P} {n : Sh} {X : Cx} {s : List K} {fr : Fr} {A A' : List Ch} {ops : Array Oper} {rest : List Oper} {d m N sz by_ : Nat} {ty t el : TypeId} {pos : String} {after : Array Edge} {v u z : Value} {x y : Operand} {xs vs : List Value} {dt : TypeDesc} {k1 : IntKind} {w : World} {fs : Array Field} {f : Nat} {fld : Field}
end
end Go.Art
set_option linter.unusedSimpArgs false
set_option linter.unusedVariables false
namespace Go.Art
open Go Go.RowKit
section
variable {H : Type} {enc : TypeId × Value → H} {P : Program} {w : World} {base fuel : Nat} {t e : TypeId} {k : IntKind} {cs : List Value} {x : DataW H × List MemPlace}
theorem Env.cells (E : Env P) {z : Value} {s b : Nat} (h : lk E.inf t = some (z, s, b)) : P.cellsOf t = s := by
  obtain ⟨i, h1, _, h2, _⟩ := E.info h
  simp [Program.cellsOf, h1, h2]
theorem leaf_int (E : Env P) (h : DataW.trod enc P w base (fun _ => true) true fuel t cs = some x) (ht : lk E.und t = some (.int k) := by rfl) : ∃ n, cs = [.int k n] ∧ (Lit.int k n).wf = true := by
  obtain ⟨n, h1, _, h2⟩ := DataW.trod_int (E.un ht) h
  exact ⟨n, h1, h2⟩
theorem leaf_field (E : Env P) {fs : Array Field} (h : DataW.trod enc P w base (fun _ => true) true fuel t cs = some x) (ht : lk E.und t = some (.struct fs) := by rfl) {i : Nat} {f : Field} {z : Value} {s b : Nat} (hf : fs[i]? = some f) (he : lk E.inf f.type = some (z, s, b)) :
    ∃ n y, DataW.trod enc P w base (fun _ => true) true n f.type ((cs.drop f.offset).take s) = some y := by
  obtain ⟨xs, n, _, _, _, hl, hx⟩ := DataW.trod_struct (E.un ht) h
  have h1 := hx i f hf
  rw [E.cells he] at h1
  have : i < xs.length := by rw [hl]; exact (Array.getElem?_eq_some_iff.1 hf).1
  exact ⟨n, xs[i], by rw [h1, List.getElem?_eq_getElem this]⟩
theorem leaf_len (E : Env P) {fs : Array Field} (h : DataW.trod enc P w base (fun _ => true) true fuel t cs = some x) (ht : lk E.und t = some (.struct fs) := by rfl) {z : Value} {s b : Nat} (he : lk E.inf t = some (z, s, b)) : cs.length = s := by
  obtain ⟨xs, n, _, _, h1, _⟩ := DataW.trod_struct (E.un ht) h
  rw [h1, E.cells he]
theorem leaf_row (E : Env P) (h : DataW.trod enc P w base (fun _ => true) true fuel t cs = some x) {z : Value} {b : Nat} (ht : lk E.und t = some (.slice e) := by rfl) (he : lk E.und e = some (.int k) := by rfl) (hc : lk E.inf e = some (z, 1, b) := by rfl) :
    ∃ (v : Value) (l : List Int), cs = [v] ∧ Sl w v (l.map (.int k)) ∧ (∀ n ∈ l, (Lit.int k n).wf = true) ∧ v.oneCell' = true := by
  rcases Go.ChangeShapes.open_ints (E.un ht) (E.un he) (E.cells hc) h with ⟨rfl, _⟩ | ⟨a, len, cap, zs, rfl, _, hl, hm, hz, _, hcell, hw⟩
  · exact ⟨_, [], rfl, Sl.nil w, by simp, rfl⟩
  · simp only [if_true] at hz
    refine ⟨_, zs.take len, rfl, ⟨some a, cap, by simp; omega, by simp; omega, hm, fun i u hi => ⟨a, rfl, ?_⟩⟩, fun n hn => hw n (List.mem_of_mem_take hn), rfl⟩
    have hlt : i < len ∧ i < zs.length := by
      have := (List.getElem?_eq_some_iff.1 hi).1
      simp at this; omega
    rw [hcell i hlt.2]
    simp [hlt.1, hlt.2] at hi
    rw [← hi]; simp [List.getD_eq_getElem?_getD, hlt.2]
theorem wide_agg (E : Env P) {fs : Array Field} {r : Reach} {v : Value} (h : Value.okWide P w r base t v) (ht : lk E.und t = some (.struct fs) := by rfl) : ∃ cs, v = .agg cs := by
  unfold Value.okWide at h
  rw [E.un ht] at h
  obtain ⟨cs, rfl, _⟩ := h
  exact ⟨cs, rfl⟩
end
end Go.Art
set_option linter.unusedSimpArgs false
set_option linter.unusedVariables false
namespace Go.Art
open Go Go.Proofs Go.RowKit
def InAl (w : World) (v : Value) : Prop :=
  ∃ (tot : Int) (cv ov : Value) (cut oth : List Int), v = .agg #[I tot, cv, ov] ∧ cv.oneCell' = true ∧ ov.oneCell' = true ∧ Sl w cv (Is cut) ∧ Sl w ov (Is oth)
set_option maxRecDepth 20000 in
theorem inAl_of {H : Type} {enc : TypeId × Value → H} {w : World} {r : Reach} {base : Nat} {v : Value} {d : DataW H} {ps : List MemPlace} (hv : Value.okWide Tryz.prog w r base 24 v)
    (h : DataW.Trod enc Tryz.prog w 0 (fun _ => true) true 24 v d ps) : InAl w v := by
  obtain ⟨cs, rfl⟩ := wide_agg env hv
  obtain ⟨fuel, h⟩ := h
  have h : DataW.trod enc Tryz.prog w 0 (fun _ => true) true fuel 24 cs.toList = some (d, ps) := h
  have hl := leaf_len env h rfl rfl
  have hc : cs = cs.toList.toArray := by simp
  rw [hc]
  generalize cs.toList = l at *
  match l, hl with
  | [c0, c1, c2], _ =>
    obtain ⟨_, _, g0⟩ := leaf_field env h (i := 0) rfl rfl rfl
    obtain ⟨_, _, g1⟩ := leaf_field env h (i := 1) rfl rfl rfl
    obtain ⟨_, _, g2⟩ := leaf_field env h (i := 2) rfl rfl rfl
    obtain ⟨tot, e0, b0⟩ := leaf_int env g0
    obtain ⟨cv, cut, e1, s1, b1, o1⟩ := leaf_row env g1
    obtain ⟨ov, oth, e2, s2, b2, o2⟩ := leaf_row env g2
    injection e0 with e0; injection e1 with e1; injection e2 with e2
    subst e0 e1 e2
    exact ⟨tot, c1, c2, cut, oth, rfl, o1, o2, s1, s2⟩
end Go.Art
set_option linter.unusedSimpArgs false
set_option linter.unusedVariables false
namespace Go.Art
open Go Go.RowKit

structure SatL (A : List Ch) (w : World) : Prop where
  s : Sat A w
  l : ∀ c ∈ A, ∀ b, ¬ c.wr b
theorem SatL.nil (w : World) : SatL [] w := ⟨Sat.nil w, fun _ h => nomatch h⟩
theorem SatL.cons {c : Ch} {A : List Ch} {w : World} [hc : Lent c] (h : c.P w) (k : SatL A w) : SatL (c :: A) w :=
  ⟨Sat.cons.2 ⟨h, fun a ha => ⟨fun b hb => absurd hb (hc.lent b).1, fun b hb => absurd hb (k.l a ha b)⟩, k.s⟩, fun x hx b => by rcases List.mem_cons.1 hx with rfl | hx; exact (hc.lent b).1; exact k.l x hx b⟩

structure IsMat (k : IntKind) (w : World) (v : Value) (hs : List Value) (ls : List (List Int)) : Prop where
  sl : Sl w v hs
  len : hs.length = ls.length
  el : ∀ i, i < ls.length → Sl w (hs.getD i nS) ((ls.getD i []).map (.int k)) ∧ ∀ n ∈ ls.getD i [], (Lit.int k n).wf = true
theorem getD_map_range {α : Type} (f : Nat → α) (n i : Nat) (z : α) (h : i < n) : ((List.range n).map f).getD i z = f i := by simp [List.getD_eq_getElem?_getD, h]
theorem isMat_of {H : Type} {enc : TypeId × Value → H} {P : Program} {w : World} {base fuel : Nat} {t e q : TypeId} {k : IntKind} {a : Option Addr} {len cap : Nat} {x : DataW H × List MemPlace} (ht : P.underlying t = some (.slice e)) (he : P.underlying e = some (.slice q)) (hq : P.underlying q = some (.int k))
    (ce : P.cellsOf e = 1) (cq : P.cellsOf q = 1) (h : DataW.trod enc P w base (fun _ => true) true fuel t [.slice a len cap] = some x) : ∃ hs ls, IsMat k w (.slice a len cap) hs ls := by
  rcases Deep.open_int_rows ht he hq ce cq h with ⟨hcs, _⟩ | ⟨ad, l, c, A, L, C, Z, hcs, _, hl, hm, _, hr⟩
  · injection hcs with hcs; injection hcs with h1 h2 h3
    subst h1 h2 h3
    exact ⟨[], [], Sl.nil w, rfl, fun i hi => by simp at hi⟩
  · injection hcs with hcs; injection hcs with h1 h2 h3
    subst h1 h2 h3
    refine ⟨(List.range len).map fun r => .slice (A r) (L r) (C r), (List.range len).map fun r => (Z r).take (L r), ?_, by simp, fun i hi => ?_⟩
    · refine ⟨some ad, cap, by simp, by simpa using hl, hm, fun i u hi => ⟨ad, rfl, ?_⟩⟩
      simp only [List.getElem?_map, Option.map_eq_some_iff] at hi
      obtain ⟨r, hr1, rfl⟩ := hi
      have : i < len := by
        have := (List.getElem?_eq_some_iff.1 hr1).1
        simpa using this
      rw [List.getElem?_range this] at hr1; cases hr1
      exact (hr i (by omega)).1
    · have hi' : i < len := by simpa using hi
      obtain ⟨_, h4, h5, h6, h7, h8, h9⟩ := hr i (by omega)
      rw [getD_map_range _ _ _ _ hi', getD_map_range _ _ _ _ hi']
      refine ⟨?_, fun n hn => h7 n (List.mem_of_mem_take hn)⟩
      cases hA : A i with
      | none =>
        have hc := h8 hA
        have hz : Z i = [] := List.eq_nil_of_length_eq_zero (by omega)
        have h0 : L i = 0 := by omega
        rw [hz, hc, h0]; exact Sl.nil w
      | some a' =>
        refine ⟨some a', C i, by simp; omega, by simp; omega, h5, fun j u hj => ⟨a', rfl, ?_⟩⟩
        simp only [List.getElem?_map, Option.map_eq_some_iff] at hj
        obtain ⟨z, hz1, rfl⟩ := hj
        rw [List.getElem?_take] at hz1
        split at hz1
        · rw [(h9 a' hA).2 j (by omega)]
          simp [List.getD_eq_getElem?_getD, hz1]
        · cases hz1
end Go.Art
set_option linter.unusedSimpArgs false
set_option linter.unusedVariables false
namespace Go.Art
open Go Go.Proofs Go.RowKit
theorem RowLists_law {w : World} {a : Value} (k : Int) (ha : InAl w a) : Fn Tryz.prog 5 [a, I k] w fun v w' => v = .bool true ∧ Ext w w' := by
  obtain ⟨tot, cv, ov, cut, oth, rfl, o1, o2, s1, s2⟩ := ha
  exact (RowLists_tr tot k cv ov cut oth o1 o2).law (SatL.cons s1 (SatL.cons s2 (SatL.nil w))).s
end Go.Art
