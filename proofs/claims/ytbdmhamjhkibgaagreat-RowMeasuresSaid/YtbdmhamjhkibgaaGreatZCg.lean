/- Texts put together: Gc Zi KSame Qr Zj Qs KCopy KOver Qx Zk Ac Oi Oj Rd Zl. Conditions: none. -/
import Derived.Test.YtbdmhamjhkibgaaGreatZCf
set_option linter.unusedSimpArgs false
set_option linter.unusedVariables false
namespace Go.Art
open Go Go.Proofs Go.RowKit
attribute [local irreducible] Fit pt own ro vw mpc lpt vels rels mow lrc dfr
theorem RSoCheck_tr (s : Value) (t : List Int) (k : Int) : Tr Tryz.prog 55 [s, I k] [vw s (Is t)] [] fun v D => v = I (solE t k) ∧ D = [] := by
  by_cases hg : k < 1 ∨ 65536 < k ∨ t.length < 1 ∨ k < t.length
  · rw [show solE t k = 13 from if_pos hg]
    refine Tr.enter env _ Tryz.func55 (by kernel_rfl) rfl Tryz.ntmps55 rfl (by repeat (first | exact has00 | refine has01 ?_)) fun w0 => ?_
    refine TC.leni (l := t) fun htl => ?_
    repeat' first|(refine wo ?_; first|(refine ao ?_; first|refine oa ?_)|refine oa ?_|refine lnm ?_|refine gy ?_|refine gn ?_|(refine gsi (fun hB => ?_) (fun hB => ?_) <;> try (exfalso; omega)))|(refine gc ?_; first|refine ct ?_|(refine ci (fun hB => ?_) (fun hB => ?_) <;> try (exfalso; omega)))|refine sq ?_|refine rg ?_|refine xc ?_|refine nl ?_|refine rt ?_
    all_goals first | exact r1 ⟨rfl, rfl⟩ | (exfalso; omega)
  rw [show solE t k = if t.all wOk && t.any wPos then 0 else 13 from if_neg hg]
  refine Tr.enter env _ Tryz.func55 (by kernel_rfl) rfl Tryz.ntmps55 rfl (by repeat (first | exact has00 | refine has01 ?_)) fun w0 => ?_
  refine TC.leni (l := t) fun htl => ?_
  repeat' first|(refine wo ?_; first|(refine ao ?_; first|refine oa ?_)|refine oa ?_|refine lnm ?_|refine gy ?_|(refine gsi (fun hB => ?_) (fun hB => ?_) <;> try (exfalso; omega)))|(refine gc ?_; first|(refine ci (fun hB => ?_) (fun hB => ?_) <;> try (exfalso; omega)))|refine sq ?_|refine rg ?_|refine xc ?_|refine nl ?_|refine sk ?_|refine bk ?_
  refine TC.loop (ι := Nat × Bool) (fun i => [(6, I i.1), (5, .bool i.2)]) (fun _ => []) (fun i => i.1 ≤ t.length ∧ (t.take i.1).all wOk = true ∧ i.2 = (t.take i.1).any wPos) (fun i => t.length - i.1) (0, false) [0, 1] ⟨by simp, rfl, rfl⟩ ?_
  rintro ⟨i, so⟩ ⟨h1, h2, h3⟩
  dsimp only at h1 h2 h3 ⊢
  by_cases hi : i < t.length
  · have ha := take_all (p := wOk) hi
    have hb := take_any (p := wPos) hi
    have hc := all_of_take (p := wOk) hi
    generalize hy : t.getD i 0 = y at *
    repeat' first|refine lie hy ?_|(refine wo ?_; first|(refine ao ?_; first|refine aw ?_|refine oa ?_)|refine oa ?_|refine lnm ?_|refine ixmn ?_|refine gy ?_|refine gn ?_|(refine gsi (fun hB => ?_) (fun hB => ?_) <;> try (exfalso; omega))|(refine gs (fun hB => ?_) (fun hB => ?_) <;> try (exfalso; omega)))|(refine gc ?_; first|refine ct ?_|(refine ci (fun hB => ?_) (fun hB => ?_) <;> try (exfalso; omega)))|refine sq ?_|refine rg ?_|refine xc ?_|refine nl ?_|refine sk ?_|refine bk ?_|refine rt ?_|refine xb ?_
    · refine r1 ⟨?_, rfl⟩
      rw [hc (by simp [wOk]; omega)]; rfl
    · refine r1 ⟨?_, rfl⟩
      rw [hc (by simp [wOk]; omega)]; rfl
    · have hw : wOk y = true := by simp [wOk]; omega
      exact lp (i + 1, true) ⟨by dsimp only; omega, by dsimp only; rw [ha, h2, hw]; rfl, by dsimp only; rw [hb, ← h3, hB]; rfl⟩
    · have hw : wOk y = true := by simp [wOk]; omega
      exact lp (i + 1, decide (0 < y)) ⟨by dsimp only; omega, by dsimp only; rw [ha, h2, hw]; rfl, by dsimp only; rw [hb, ← h3, hB]; rfl⟩
  · obtain rfl : i = t.length := by omega
    rw [List.take_length] at h2 h3
    repeat' first|(refine wo ?_; first|(refine ao ?_; first|refine oa ?_)|refine oa ?_|refine lnm ?_)|(refine gc ?_; first|(refine ci (fun hB => ?_) (fun hB => ?_) <;> try (exfalso; omega))|(refine cb (fun hB => ?_) (fun hB => ?_) <;> try (exfalso; omega)))|refine sq ?_|refine rg ?_|refine xc ?_|refine nl ?_|refine sk ?_|refine xe ?_|refine rt ?_
    · refine r1 ⟨?_, rfl⟩
      rw [h2, ← h3, show so = false by simpa using hB]; rfl
    · refine r1 ⟨?_, rfl⟩
      rw [h2, ← h3, show so = true by simpa using hB]; rfl
end Go.Art
set_option linter.unusedSimpArgs false
set_option linter.unusedVariables false
namespace Go.Art
open Go Go.Proofs Go.RowKit
attribute [local irreducible] Fit pt own ro vw mpc lpt vels rels mow lrc dfr
attribute [local irreducible] lmp lme mit velg relg bnd owl
theorem RChaW_tr (s : Value) (t : List Int) (k d : Int) : Tr Tryz.prog 17 [s, I k, I d] [vw s (Is t)] [] (FW (chaW t k d)) := by
  have hck := RSoCheck_tr s t k
  by_cases hk : solE t k = 0
  rotate_left
  · unfold chaW
    rw [if_neg hk]
    rw [(solE_cases t k).resolve_left hk] at hck
    refine Tr.mono (R := fun u D => u = tup2 rv0 (I 13) ∧ D = [own T64 nS (Us []), own T64 nS (Us [])]) ?_ fun u D h => FW.of0 h
    refine Tr.enter env _ Tryz.func17 (by kernel_rfl) rfl Tryz.ntmps17 rfl (by repeat (first | exact has00 | refine has01 ?_)) fun w0 => ?_
    repeat' first|(refine gca ?_; first|(refine ca hck ?_; rintro _ _ ⟨rfl, rfl⟩))|refine al fun b2 => ?_|refine bdm ?_|refine srz ?_|(refine wo ?_; first|(refine ao ?_; first|refine oa ?_)|refine oa ?_)|(refine gc ?_; first|refine ct ?_)|refine sq ?_|refine rg ?_|refine xc ?_|refine nl ?_|refine rt ?_
    refine TX.im (own_nil T64 _) (TX.im (own_nil T64 _) ?_)
    exact rca (cs := [.bool false, nS, nS]) (vs := [.bool false, nS, nS]) (T := TRt) ⟨rfl, rfl⟩
  rw [hk] at hck
  obtain ⟨⟨k1, k2⟩, ⟨t1, t2⟩, hw, hpos⟩ := solE_zero hk
  by_cases hd : d < 1 ∨ t.length < d
  · unfold chaW
    rw [if_pos hk, if_pos hd]
    clear hk hpos
    refine Tr.mono (R := fun u D => u = tup2 rv0 (I 3) ∧ D = [own T64 nS (Us []), own T64 nS (Us [])]) ?_ fun u D h => FW.of0 h
    refine Tr.enter env _ Tryz.func17 (by kernel_rfl) rfl Tryz.ntmps17 rfl (by repeat (first | exact has00 | refine has01 ?_)) fun w0 => ?_
    repeat' first|(refine gca ?_; first|(refine ca hck ?_; rintro _ _ ⟨rfl, rfl⟩))|refine al fun b2 => ?_|refine bdm ?_|refine srz ?_|(refine wo ?_; first|(refine ao ?_; first|refine oa ?_)|refine oa ?_|refine lnm ?_|refine gy ?_|refine gn ?_|(refine gsi (fun hB => ?_) (fun hB => ?_) <;> try (exfalso; omega)))|(refine gc ?_; first|refine ct ?_|refine cf ?_|(refine ci (fun hB => ?_) (fun hB => ?_) <;> try (exfalso; omega)))|refine sq ?_|refine rg ?_|refine xc ?_|refine nl ?_|refine sk ?_|refine rt ?_
    all_goals
      refine TX.im (own_nil T64 _) (TX.im (own_nil T64 _) ?_)
      exact rca (cs := [.bool false, nS, nS]) (vs := [.bool false, nS, nS]) (T := TRt) ⟨rfl, rfl⟩
  rw [show chaW t k d = (rqf (mkRat (t.getD (d - 1).toNat 0) (chs k.toNat d.toNat * t.sum.toNat)), 0) by unfold chaW; rw [if_pos hk, if_neg hd]]
  obtain ⟨kn, rfl⟩ : ∃ kn : Nat, k = kn := ⟨k.toNat, by omega⟩
  obtain ⟨dn, rfl⟩ : ∃ dn : Nat, d = dn := ⟨d.toNat, by omega⟩
  have hT := RSoTotal_tr s t ⟨by omega, by omega⟩ hw
  have hsb := sum_wOk hw
  have hsp : 0 < t.sum := sum_posT hw hpos
  obtain ⟨tn, htn⟩ : ∃ tn : Nat, t.sum = tn := ⟨t.sum.toNat, by omega⟩
  rw [htn] at hT hsb hsp ⊢
  have hwb := hw (t.getD ((dn : Int) - 1).toNat 0) (mem_getD.2 ⟨_, by omega, rfl⟩)
  obtain ⟨wn, hwn⟩ : ∃ wn : Nat, t.getD ((dn : Int) - 1).toNat 0 = wn := ⟨(t.getD ((dn : Int) - 1).toNat 0).toNat, by omega⟩
  rw [hwn] at hwb ⊢
  simp only [Int.toNat_natCast]
  have hF := RChoose_tr kn dn (by omega) (by omega)
  have hfl := chs_len kn dn
  have hfp := chs_pos (n := kn) (k := dn) (by omega)
  obtain ⟨f0, hf0⟩ : ∃ f0, f0 = chs kn dn := ⟨_, rfl⟩
  rw [← hf0] at hF hfl hfp ⊢
  have hG1 := fun v => RGrow_tr v (dg f0) tn (Dg_dg _) (by omega) (by omega)
  have hl2 := dg_grow_len (x := tn) hfl (by omega)
  have hp2 : f0 * tn ≠ 0 := Nat.mul_ne_zero hfp (by omega)
  have hw1 := dg_len1 (n := wn) (by omega)
  have hM := RIOf_tr wn (by omega)
  have hR := fun o dv => RFMake_tr (wn : Int) o dv (dg (f0 * tn)) (Dg_dg _) (by unfold dz; rw [Int.natAbs_natCast]; omega) (by omega) (by rw [nv_dg]; exact hp2)
  simp only [nv_dg] at hG1 hR
  unfold IR at hM
  unfold dz at hR
  simp only [Int.natAbs_natCast] at hM hR
  unfold FQ2 at hR
  clear hk hpos hf0 hfp hp2 hl2 hw
  obtain ⟨f1, hf1⟩ : ∃ f1, f1 = f0 * tn := ⟨_, rfl⟩
  simp only [← hf1] at hG1 hR ⊢
  obtain ⟨q, hq⟩ : ∃ q, q = mkRat (wn : Int) f1 := ⟨_, rfl⟩
  simp only [← hq] at hR ⊢
  clear hq hf1
  refine Tr.enter env _ Tryz.func17 (by kernel_rfl) rfl Tryz.ntmps17 rfl (by repeat (first | exact has00 | refine has01 ?_)) fun w0 => ?_
  repeat' first|(refine gca ?_; first|(refine ca hck ?_; rintro _ _ ⟨rfl, rfl⟩)|(refine ca hF ?_; rintro _ _ ⟨o, rfl, ho, rfl⟩)|(refine ca hM ?_; rintro _ _ ⟨o2, rfl, ho2, rfl⟩)|(refine ca hT ?_; rintro _ _ ⟨rfl, rfl⟩)|(refine ca (hG1 o) ?_; rintro u1 _ ⟨hu1, rfl⟩)|(refine ca (hR o2 u1) ?_; rintro _ _ ⟨vn, vd, rfl, hvn, hvd, rfl⟩))|refine al fun b2 => ?_|(refine lie hwn ?_)|(refine ntu (m := (tn : Int)) ?_; rw [Int.toNat_natCast])|refine srz ?_|(refine wo ?_; first|(refine ao ?_; first|refine aw ?_|refine oa ?_)|refine oa ?_|refine lnm ?_|refine ixm ?_|refine gy ?_|(refine gsi (fun hB => ?_) (fun hB => ?_) <;> try (exfalso; omega)))|(refine gc ?_; first|refine cf ?_|(refine ci (fun hB => ?_) (fun hB => ?_) <;> try (exfalso; omega)))|refine sq ?_|refine rg ?_|refine xc ?_|refine nl ?_|refine sk ?_|refine rt ?_
  exact rca (cs := [.bool (decide (q.num < 0)), vn, vd]) (vs := [.bool (decide (q.num < 0)), vn, vd]) (T := TRt) ⟨vn, vd, rfl, hvn, hvd, rfl⟩
end Go.Art
set_option linter.unusedSimpArgs false
set_option linter.unusedVariables false
namespace Go.Art
open Go Go.Proofs Go.RowKit
attribute [local irreducible] Fit pt own ro vw mpc lpt vels rels mow lrc dfr
theorem SameInts_tr (a b : Value) (xs ys : List Int) : Tr Tryz.prog 21 [a, b] [vw a (Is xs), vw b (Is ys)] [] fun v D => v = .bool (decide (xs = ys)) ∧ D = [] := by
  refine Tr.enter env _ Tryz.func21 (by kernel_rfl) rfl Tryz.ntmps21 rfl (by repeat (first | exact has00 | refine has01 ?_)) fun w0 => ?_
  refine TC.leni (l := xs) fun hl => ?_
  repeat' first|(refine wo ?_; first|(refine ao ?_; first|refine oa ?_)|refine oa ?_|refine lnm ?_)|(refine gc ?_; first|(refine cn (fun hB => ?_) (fun hB => ?_) <;> try (exfalso; omega)))|refine sq ?_|refine rg ?_|refine xc ?_|refine nl ?_|refine sk ?_|refine bk ?_|refine rt ?_
  · refine r1 ⟨?_, rfl⟩
    rw [decide_eq_false]; intro e; subst e; omega
  · refine TC.loop (ι := Nat) (fun k => [(5, I k)]) (fun _ => []) (fun k => k ≤ xs.length ∧ ∀ j, j < k → xs.getD j 0 = ys.getD j 0) (fun k => xs.length - k) 0 [0, 1] ⟨by omega, by omega⟩ ?_
    rintro k ⟨hk, heq⟩
    repeat' first|(refine wo ?_; first|(refine ao ?_; first|refine aw ?_|refine oa ?_)|refine oa ?_|refine lnm ?_)|(refine gc ?_; first|(refine ci (fun hB => ?_) (fun hB => ?_) <;> try (exfalso; omega))|(refine cn (fun hB => ?_) (fun hB => ?_) <;> try (exfalso; omega)))|refine sq ?_|refine rg ?_|refine xc ?_|refine nl ?_|refine sk ?_|refine bk ?_|refine xe ?_|refine rt ?_|refine xb ?_|refine rq ?_|refine nq ?_|(refine wq ?_; first|(refine qao ?_; first|refine qa ?_)|refine qa ?_|refine qixmn ?_|refine qli ?_)
    · refine r1 ⟨?_, rfl⟩
      rw [decide_eq_false]; intro e; exact hB (by rw [e])
    · refine lp (k + 1) ⟨by omega, fun j hj => ?_⟩
      by_cases hjk : j < k
      · exact heq j hjk
      · obtain rfl : j = k := by omega
        assumption
    · refine r1 ⟨?_, rfl⟩
      rw [decide_eq_true]
      exact eq_of_getD (by omega) (fun j hj => heq j (by omega))

end Go.Art
set_option linter.unusedSimpArgs false
set_option linter.unusedVariables false
namespace Go.Art
open Go Go.Proofs Go.RowKit
theorem eq_of_getDN {xs ys : List Nat} (hl : xs.length = ys.length) (h : ∀ j, j < xs.length → xs.getD j 0 = ys.getD j 0) : xs = ys := by
  refine List.ext_getElem hl fun i h1 h2 => ?_
  have := h i h1
  simpa [List.getD_eq_getElem?_getD, h1, h2] using this
attribute [local irreducible] Fit pt own ro vw mpc lpt vels rels mow lrc dfr
attribute [local irreducible] lmp lme mit velg relg
theorem SameNat_tr (a b : Value) (xs ys : List Nat) : Tr Tryz.prog 61 [a, b] [vw a (Us xs), vw b (Us ys)] [] fun v D => v = .bool (decide (xs = ys)) ∧ D = [] := by
  refine Tr.enter env _ Tryz.func61 (by kernel_rfl) rfl Tryz.ntmps61 rfl (by repeat (first | exact has00 | refine has01 ?_)) fun w0 => ?_
  refine TC.lenu (l := xs) fun hl => ?_
  repeat' first|(refine wo ?_; first|(refine ao ?_; first|refine oa ?_)|refine oa ?_|refine lnm ?_)|(refine gc ?_; first|(refine cn (fun hB => ?_) (fun hB => ?_) <;> try (exfalso; omega)))|refine sq ?_|refine rg ?_|refine xc ?_|refine nl ?_|refine sk ?_|refine bk ?_|refine rt ?_
  · refine r1 ⟨?_, rfl⟩
    rw [decide_eq_false]; intro e; subst e; omega
  · refine TC.loop (ι := Nat) (fun k => [(5, I k)]) (fun _ => []) (fun k => k ≤ xs.length ∧ ∀ j, j < k → xs.getD j 0 = ys.getD j 0) (fun k => xs.length - k) 0 [0, 1] ⟨by omega, by omega⟩ ?_
    rintro k ⟨hk, heq⟩
    repeat' first|(refine wo ?_; first|(refine ao ?_; first|refine aw ?_|refine oa ?_)|refine oa ?_|refine lnm ?_)|(refine gc ?_; first|(refine ci (fun hB => ?_) (fun hB => ?_) <;> try (exfalso; omega))|(refine cn (fun hB => ?_) (fun hB => ?_) <;> try (exfalso; omega)))|refine sq ?_|refine rg ?_|refine xc ?_|refine nl ?_|refine sk ?_|refine bk ?_|refine xe ?_|refine rt ?_|refine xb ?_|refine rq ?_|refine nq ?_|(refine wq ?_; first|(refine qao ?_; first|refine qa ?_)|refine qlu ?_|refine qa ?_|refine qixmn ?_)
    · refine r1 ⟨?_, rfl⟩
      rw [decide_eq_false]; intro e; exact hB (by rw [e])
    · refine lp (k + 1) ⟨by omega, fun j hj => ?_⟩
      by_cases hjk : j < k
      · exact heq j hjk
      · obtain rfl : j = k := by omega
        omega
    · refine r1 ⟨?_, rfl⟩
      rw [decide_eq_true]
      exact eq_of_getDN (by omega) (fun j hj => heq j (by omega))
theorem SameWhole_tr (b1 b2 : Bool) (o1 o2 : Value) (l1 l2 : List Nat) : Tr Tryz.prog 60 [.agg #[.bool b1, o1], .agg #[.bool b2, o2]] [vw o1 (Us l1), vw o2 (Us l2)] [] fun v D => v = .bool (decide (b1 = b2 ∧ l1 = l2)) ∧ D = [] := by
  refine Tr.enter env _ Tryz.func60 (by kernel_rfl) rfl Tryz.ntmps60 rfl (by repeat (first | exact has00 | refine has01 ?_)) fun w0 => ?_
  repeat' first|(refine gca ?_; first|(refine ca (SameNat_tr o1 o2 l1 l2) ?_; rintro _ _ ⟨rfl, rfl⟩))|refine bx fun q => ?_|(refine wo ?_; first|(refine ao ?_; first|refine ibe ?_)|refine oa ?_|refine ld ?_|refine gy ?_|refine gn ?_|(refine gsi (fun hB => ?_) (fun hB => ?_) <;> try (exfalso; omega)))|refine sq ?_|refine rg ?_|refine xc ?_|refine nl ?_|refine rt ?_
  · have e : b1 = b2 := by simpa using hB
    refine r1 ⟨?_, rfl⟩
    congr 1; exact decide_eq_decide.2 ⟨fun h => ⟨e, h⟩, fun h => h.2⟩
  · have e : ¬ b1 = b2 := by simpa using hB
    refine r1 ⟨?_, rfl⟩
    rw [decide_eq_false fun h => e h.1]
theorem SameRatio_tr (t1 t2 : Fr3) (n1 d1 n2 d2 : Value) : Tr Tryz.prog 18 [.agg #[.bool t1.1, n1, d1], .agg #[.bool t2.1, n2, d2]] [vw n1 (Us t1.2.1), vw d1 (Us t1.2.2), vw n2 (Us t2.2.1), vw d2 (Us t2.2.2)] []
    fun v D => v = .bool (decide (t1 = t2)) ∧ D = [] := by
  obtain ⟨b1, x1, y1⟩ := t1
  obtain ⟨b2, x2, y2⟩ := t2
  dsimp only
  refine Tr.enter env _ Tryz.func18 (by kernel_rfl) rfl Tryz.ntmps18 rfl (by repeat (first | exact has00 | refine has01 ?_)) fun w0 => ?_
  repeat' first|(refine gca ?_; first|(refine ca (SameWhole_tr b1 b2 n1 n2 x1 x2) ?_; rintro _ _ ⟨rfl, rfl⟩)|(refine ca (SameNat_tr d1 d2 y1 y2) ?_; rintro _ _ ⟨rfl, rfl⟩))|refine bx fun q => ?_|refine lda ?_|(refine wo ?_; first|refine oa ?_|refine ld ?_|refine gy ?_|refine gn ?_|(refine gsi (fun hB => ?_) (fun hB => ?_) <;> try (exfalso; omega)))|refine sq ?_|refine rg ?_|refine xc ?_|refine nl ?_|refine rt ?_
  · refine r1 ⟨?_, rfl⟩
    congr 1; refine decide_eq_decide.2 ⟨fun h => by rw [hB.1, hB.2, h], fun h => by injection h with _ h; injection h⟩
  · refine r1 ⟨?_, rfl⟩
    rw [decide_eq_false fun h => hB (by injection h with h1 h; injection h with h2 _; exact ⟨h1, h2⟩)]
theorem LongAlias_tr (tot m : Int) (cv ov : Value) (cut oth : List Int) : Tr Tryz.prog 9 [.agg #[I tot, cv, ov], I m] [vw cv (Is cut), vw ov (Is oth)] [] fun v D => v = .bool (decide (m < cut.length ∨ m < oth.length)) ∧ D = [] := by
  refine Tr.enter env _ Tryz.func9 (by kernel_rfl) rfl Tryz.ntmps9 rfl (by repeat (first | exact has00 | refine has01 ?_)) fun w0 => ?_
  repeat' first|refine bx fun q => ?_|(refine wo ?_; first|(refine ao ?_; first|refine oa ?_)|refine oa ?_|refine ld ?_|refine lnm ?_|refine gy ?_|refine gn ?_|(refine gsi (fun hB => ?_) (fun hB => ?_) <;> try (exfalso; omega)))|refine sq ?_|refine rg ?_|refine xc ?_|refine nl ?_|refine rt ?_
  · refine r1 ⟨?_, rfl⟩
    rw [decide_eq_true (.inl hB)]
  · refine r1 ⟨?_, rfl⟩
    congr 1; exact decide_eq_decide.2 ⟨.inr, fun h => h.resolve_left hB⟩
end Go.Art
set_option linter.unusedSimpArgs false
set_option linter.unusedVariables false
namespace Go.Art
open Go Go.Proofs Go.RowKit
theorem R_nxor {P : Program} {n : Sh} {fr : Fr} {w : World} {t t' ty : TypeId} {x y : Operand} {a b : Nat} (hx : ev fr x = some (Un a)) (hy : ev fr y = some (Un b)) (ha : a < 18446744073709551616) (hb : b < 18446744073709551616) : OpV P n fr (.binOp .xor t x y t') ty w (Un (a ^^^ b)) w := R_bin hx hy (by
  show Result.ok (Value.int .u64 (IntKind.u64.wrap ((BitVec.ofInt 64 (a : Int) ^^^ BitVec.ofInt 64 (b : Int)).toNat : Int))) w = _
  have hx : a ^^^ b < 2 ^ 64 := Nat.xor_lt_two_pow (by omega) (by omega)
  rw [BitVec.toNat_xor, bv64 ha, bv64 hb, wrapN _ (a ^^^ b) (by omega)])
attribute [local irreducible] Fit pt own ro vw mpc lpt vels rels mow lrc dfr
attribute [local irreducible] lmp lme mit velg relg
theorem OverNat_tr (v : Value) (l : List Nat) (hd : Dg l) : Tr Tryz.prog 62 [v] [] [own T64 v (Us l)] fun _ D => D = [] := by
  refine Tr.enter env _ Tryz.func62 (by kernel_rfl) rfl Tryz.ntmps62 rfl (by repeat (first | exact has00 | refine has01 ?_)) fun w0 => ?_
  refine TC.lenu (v := v) (l := l) fun hll => ?_
  repeat' first|(refine wo ?_; first|refine oa ?_)|refine sq ?_|refine rg ?_|refine xc ?_|refine nl ?_|refine bk ?_
  refine TC.loop (ι := Nat × List Nat) (fun g => [(2, I g.1)]) (fun g => [own T64 v (Us g.2)]) (fun g => g.1 ≤ l.length ∧ g.2.length = l.length ∧ Dg g.2) (fun g => l.length - g.1) (0, l) [0] ⟨Nat.zero_le _, rfl, hd⟩ ?_
  rintro ⟨i, m⟩ ⟨hi, hm, hdm⟩
  dsimp only at hi hm hdm ⊢
  by_cases hlt : i < l.length
  · have hx := hdm.getD i
    have hr : m.getD i 0 ^^^ 2779096485 < 18446744073709551616 := by
      have := Nat.xor_lt_two_pow (n := 64) (show m.getD i 0 < 2 ^ 64 from hx) (show 2779096485 < 2 ^ 64 by decide)
      exact Nat.lt_of_lt_of_eq this rfl
    repeat' first|(refine nao ?_; refine TO.val (v := Un (m.getD i 0 ^^^ 2779096485)) (fun _ _ => R_nxor (a := m.getD i 0) (b := 2779096485) rfl rfl hx (by decide)) ?_)|(refine wo ?_; first|(refine ao ?_; first|refine aw ?_|refine oa ?_)|refine lu ?_|refine sou ?_|refine oa ?_|refine lnm ?_|refine ixmn ?_)|(refine gc ?_; first|(refine ci (fun hB => ?_) (fun hB => ?_) <;> try (exfalso; omega)))|refine sq ?_|refine rg ?_|refine xc ?_|refine nl ?_|refine sk ?_|refine bk ?_|refine xb ?_
    exact lp (i + 1, m.set i (m.getD i 0 ^^^ 2779096485)) ⟨hlt, by dsimp only; rw [List.length_set]; exact hm, hdm.set hr⟩
  · obtain rfl : i = l.length := by omega
    repeat' first|(refine wo ?_; first|(refine ao ?_; first|refine oa ?_)|refine oa ?_|refine lnm ?_)|(refine gc ?_; first|(refine ci (fun hB => ?_) (fun hB => ?_) <;> try (exfalso; omega)))|refine sq ?_|refine rg ?_|refine xc ?_|refine nl ?_|refine xe ?_
    exact e0 rfl
theorem OverRatio_tr (t : Fr3) (n1 d1 : Value) (h1 : Dg t.2.1) (h2 : Dg t.2.2) : Tr Tryz.prog 19 [.agg #[.bool t.1, n1, d1]] [] [own T64 n1 (Us t.2.1), own T64 d1 (Us t.2.2)] fun _ D => D = [] := by
  refine Tr.enter env _ Tryz.func19 (by kernel_rfl) rfl Tryz.ntmps19 rfl (by repeat (first | exact has00 | refine has01 ?_)) fun w0 => ?_
  repeat' first|(refine gca ?_; first|(refine ca (OverNat_tr n1 t.2.1 h1) ?_; rintro _ _ rfl)|(refine ca (OverNat_tr d1 t.2.2 h2) ?_; rintro _ _ rfl))|refine bx fun q => ?_|(refine wo ?_; first|refine oa ?_|refine ld ?_)|refine sq ?_|refine rg ?_|refine xc ?_|refine nl ?_
  exact e0 rfl
theorem SameRatioT_tr (t : Fr3) (n1 d1 n2 d2 : Value) : Tr Tryz.prog 18 [.agg #[.bool t.1, n1, d1], .agg #[.bool t.1, n2, d2]] [vw n1 (Us t.2.1), vw d1 (Us t.2.2), vw n2 (Us t.2.1), vw d2 (Us t.2.2)] []
    fun v D => v = .bool true ∧ D = [] := (SameRatio_tr t t n1 d1 n2 d2).mono fun v D h => by rw [decide_eq_true rfl] at h; exact h
end Go.Art
set_option linter.unusedSimpArgs false
set_option linter.unusedVariables false
namespace Go.Art
open Go Go.Proofs Go.RowKit
theorem srt_id {xs : List Int} (h : xs.Pairwise (· ≤ ·)) : srt xs = xs := ((srt_perm xs)).eq_of_pairwise (fun a b _ _ h1 h2 => by omega) (srt_sorted xs) h
theorem pickO_of {k d : Int} {x : Lw} {l : List Int} (h : (ordO k d x).1 = (l, 0)) (hs : l.Pairwise (· ≤ ·)) : pickO k d x = (l, 0) := by
  unfold pickO; rw [h, srt_id hs]
theorem setW_of {tot : Int} {cut oth : List Int} {k : Int} {x : Lw} {at1 : Int} {x2 : Lw} {l : List Int} (h1 : rwE tot cut oth k = 0) (h2 : (plcW tot cut oth x).1 = (at1, 0)) (h3 : (plcW tot cut oth x).2.1 = x2) (h4 : (ordO k (at1 + 1) x2).1 = (l, 0)) (hs : l.Pairwise (· ≤ ·)) : (setW tot cut oth k x).1 = (l, 0) := by
  unfold setW
  rw [if_pos h1, h2, if_pos rfl, h3]
  exact pickO_of h4 hs
theorem few1 : (setW 4 [2, 4] [1, 1] 3 (.inr ([0, 1, 2], false))).1 = ([2], 0) := setW_of (at1 := 0) (x2 := .inr ([2], false)) (by decide) (by decide) (by kernel_rfl) (by decide) (by simp)
theorem few2 : (setW 4 [2, 4] [1, 1] 3 (.inr ([0, 2, 0, 1], false))).1 = ([0, 2], 0) := setW_of (at1 := 1) (x2 := .inr ([0, 1], false)) (by decide) (by decide) (by kernel_rfl) (by decide) (by simp)
theorem mea1 : meaW 4 [2, 4] [1, 1] 3 2 = (rqf (mkRat 1 48), 0) := by
  rw [meaW_ok (by decide) (by decide)]; rfl
theorem cha1 : chaW [1, 3] 3 1 = (rqf (mkRat 1 12), 0) := by
  unfold chaW; rw [if_pos (by decide), if_neg (by decide)]; rfl
attribute [local irreducible] Fit pt own ro vw mpc lpt vels rels mow lrc dfr
attribute [local irreducible] lmp lme mit velg relg
theorem few_tr : Tr Tryz.prog 35 [] [] [] fun v D => ∃ c o, v = .agg #[I 4, c, o] ∧ c.oneCell' = true ∧ o.oneCell' = true ∧ D = [own TLI c (Is [2, 4]), own TLI o (Is [1, 1])] := by
  refine Tr.enter env _ Tryz.func35 (by kernel_rfl) rfl Tryz.ntmps35 rfl (by repeat (first | exact has00 | refine has01 ?_)) fun w0 => ?_
  repeat' first|refine al fun q => ?_|refine slz fun v hv => ?_|refine bdz ?_|refine srz ?_|refine sq ?_|refine rg ?_|refine xc ?_|refine nl ?_|refine rt ?_
  rename_i c hc
  exact rca1 (cs := [I 4, c, v]) (vs := [I 4, c, v]) (T := TAl) ⟨c, v, rfl, hc, hv, rfl⟩
theorem draws_tr (k e : Int) (lv wv : Value) (l want : List Int) (hl : l.length ≤ 1000) : Tr Tryz.prog 36 [I k, lv, I e, wv] [vw lv (Is l), vw wv (Is want)] []
    fun v D => v = .bool (decide ((setW 4 [2, 4] [1, 1] k (.inr (l, false))).1 = (want, e))) ∧ D = [] := by
  have hS := fun b r sv c o hc ho => SetW_tr 4 k c o [2, 4] [1, 1] b r sv (.inr (l, false)) (okL_row l false) hc ho
  generalize setW 4 [2, 4] [1, 1] k (.inr (l, false)) = sw at *
  obtain ⟨⟨s, f⟩, x2, u2⟩ := sw
  dsimp only at hS ⊢
  refine Tr.enter env _ Tryz.func36 (by kernel_rfl) rfl Tryz.ntmps36 rfl (by repeat (first | exact has00 | refine has01 ?_)) fun w0 => ?_
  repeat' first|(refine gca ?_; first|(refine ca few_tr ?_; rintro _ _ ⟨c, o, rfl, hc, ho, rfl⟩)|(refine ca (LRow_tr lv l (by omega)) ?_; rintro _ _ ⟨b, r, sv, rfl, rfl⟩)|(refine ca (hS b r sv c o hc ho) ?_; rintro _ _ ⟨so, sv2, rfl, rfl⟩)|(refine ca (SameInts_tr so wv s want) ?_; rintro _ _ ⟨rfl, rfl⟩))|(refine wo ?_; first|(refine ao ?_; first|refine oa ?_)|refine oa ?_|refine gy ?_|refine gn ?_|(refine gsi (fun hB => ?_) (fun hB => ?_) <;> try (exfalso; omega)))|refine sq ?_|refine rg ?_|refine xc ?_|refine nl ?_|refine rt ?_
  · refine r1 ⟨?_, rfl⟩
    congr 1; exact decide_eq_decide.2 ⟨fun h => by rw [h, hB], fun h => by injection h⟩
  · refine r1 ⟨?_, rfl⟩
    rw [decide_eq_false fun h => hB (by injection h)]
theorem is_tr (t : Fr3) (e : Int) (n1 d1 : Value) (x y : Nat) (hx : x < 9223372036854775808) (hy : y < 9223372036854775808) (hy0 : y ≠ 0) : Tr Tryz.prog 37 [.agg #[.bool t.1, n1, d1], I e, I x, I y] [vw n1 (Us t.2.1), vw d1 (Us t.2.2)] []
    fun v D => v = .bool (decide (e = 0 ∧ t = rqf (mkRat x y))) ∧ D = [] := by
  have hP := FPair_tr x y hx hy hy0
  unfold FQ2 at hP
  have hl : 0 < (dg (mkRat (x : Int) y).den).length := by have := dg_len_pos (mkRat (x : Int) y).den_nz; omega
  generalize mkRat (x : Int) y = q at *
  refine Tr.enter env _ Tryz.func37 (by kernel_rfl) rfl Tryz.ntmps37 rfl (by repeat (first | exact has00 | refine has01 ?_)) fun w0 => ?_
  repeat' first|(refine gca ?_; first|(refine ca hP ?_; rintro _ _ ⟨vn, vd, rfl, hvn, hvd, rfl⟩)|(refine ca (SameRatio_tr t (rqf q) n1 d1 vn vd) ?_; rintro _ _ ⟨rfl, rfl⟩))|refine bx fun b1 => ?_|refine al fun b2 => ?_|refine lda ?_|refine srz ?_|(refine wo ?_; first|(refine ao ?_; first|refine oa ?_)|refine oa ?_|refine ld ?_|refine lnm ?_|refine gy ?_|refine gn ?_|(refine gsi (fun hB => ?_) (fun hB => ?_) <;> try (exfalso; omega)))|refine sq ?_|refine rg ?_|refine xc ?_|refine nl ?_|refine rt ?_
  · refine r1 ⟨?_, rfl⟩
    congr 1; exact decide_eq_decide.2 ⟨fun h => ⟨by assumption, h⟩, fun h => h.2⟩
  · refine r1 ⟨?_, rfl⟩
    rw [decide_eq_false fun h => absurd h.1 (by assumption)]
theorem awake_tr : Tr Tryz.prog 11 [] [] [] fun v D => v = .bool true ∧ D = [] := by
  have hM := fun c o hc ho => MeaW_tr 4 3 2 c o [2, 4] [1, 1] hc ho
  have hC := fun s => ChaW_tr s [1, 3] 3 1
  simp only [mea1] at hM
  simp only [cha1] at hC
  unfold FW at hM hC
  dsimp only at hM hC
  have hI1 := fun n1 d1 => is_tr (rqf (mkRat 1 48)) 0 n1 d1 1 48 (by decide) (by decide) (by decide)
  have hI2 := fun n1 d1 => is_tr (rqf (mkRat 1 12)) 0 n1 d1 1 12 (by decide) (by decide) (by decide)
  simp only [show ((1 : Nat) : Int) = 1 from rfl, and_self, decide_true] at hI1 hI2
  have hD1 := fun lv wv => draws_tr 3 0 lv wv [0, 1, 2] [2] (by decide)
  have hD2 := fun lv wv => draws_tr 3 0 lv wv [0, 2, 0, 1] [0, 2] (by decide)
  rw [few1] at hD1
  rw [few2] at hD2
  simp only [decide_true] at hD1 hD2
  generalize mkRat 1 48 = q1 at *
  generalize mkRat 1 12 = q2 at *
  refine Tr.enter env _ Tryz.func11 (by kernel_rfl) rfl Tryz.ntmps11 rfl (by repeat (first | exact has00 | refine has01 ?_)) fun w0 => ?_
  repeat' first|(refine gca ?_; first|(refine ca few_tr ?_; rintro _ _ ⟨c, o, rfl, hc, ho, rfl⟩)|(refine ca (hM c o hc ho) ?_; rintro _ _ ⟨n1, d1, rfl, hn1, hd1, rfl⟩)|(refine ca (hC _) ?_; rintro _ _ ⟨n2, d2, rfl, hn2, hd2, rfl⟩)|(refine ca (hD1 _ _) ?_; rintro _ _ ⟨rfl, rfl⟩)|(refine ca (hD2 _ _) ?_; rintro _ _ ⟨rfl, rfl⟩)|(refine ca (hI1 n1 d1) ?_; rintro _ _ ⟨rfl, rfl⟩)|(refine ca (hI2 n2 d2) ?_; rintro _ _ ⟨rfl, rfl⟩))|refine slz fun v hv => ?_|refine al fun b1 => ?_|refine srz ?_|refine lda ?_|(refine wo ?_; first|refine oa ?_|refine gy ?_)|refine sq ?_|refine rg ?_|refine xc ?_|refine nl ?_|refine rt ?_
  exact r1 ⟨rfl, rfl⟩
end Go.Art
set_option linter.unusedSimpArgs false
set_option linter.unusedVariables false
namespace Go.Art
open Go Go.Proofs Go.RowKit
attribute [local irreducible] Fit pt own ro vw mpc lpt vels rels mow lrc dfr
end Go.Art
set_option linter.unusedSimpArgs false
set_option linter.unusedVariables false
namespace Go.Art
open Go Go.Proofs Go.RowKit
attribute [local irreducible] Fit pt own ro vw mpc lpt vels rels mow lrc dfr
end Go.Art
set_option linter.unusedSimpArgs false
set_option linter.unusedVariables false
namespace Go.Art
open Go Go.Proofs Go.RowKit
def loH (r : Nat) (x : Lw) (used : Int) : List Value :=
  match x with
  | .inl _ => [.iface TpS (ptr r), I used, .bool false]
  | .inr (_, br) => [.iface TpR (ptr r), I used, .bool br]
def rloH (sv : Value) (x : Lw) (used : Int) : List Value :=
  match x with
  | .inl st => [nS, .bool true, U st, I used, .bool false]
  | .inr (_, br) => [sv, .bool false, w0u, I used, .bool br]
section
variable {P : Program} {E : Env P} {n : Sh} {X : Cx} {s : List K} {fr : Fr} {A : List Ch} {ops : Array Oper} {rest : List Oper} {d : Nat} {ty t : TypeId} {pos : String} {after : Array Edge} {x : Operand} {dt : TypeDesc} {sz by_ : Nat} {z : Value} {cs vs : List Value} {b j : Nat} {T : TypeId}
end
attribute [local irreducible] Fit pt own ro vw mpc lpt vels rels mow lrc dfr
attribute [local irreducible] lmp lme mit velg relg
theorem farK_tr (k : Int) : Tr Tryz.prog 10 [I k] [] [] fun v D => v = .bool (decide (300 < k ∧ k ≤ 65536)) ∧ D = [] := by
  refine Tr.enter env _ Tryz.func10 (by kernel_rfl) rfl Tryz.ntmps10 rfl (by repeat (first | exact has00 | refine has01 ?_)) fun w0 => ?_
  repeat' first|(refine wo ?_; first|(refine ao ?_; first|refine oa ?_)|refine oa ?_|refine gy ?_|refine gn ?_|(refine gsi (fun hB => ?_) (fun hB => ?_) <;> try (exfalso; omega)))|refine sq ?_|refine rg ?_|refine xc ?_|refine nl ?_|refine rt ?_
  · refine r1 ⟨?_, rfl⟩
    congr 1; exact decide_eq_decide.2 ⟨fun h => ⟨hB, h⟩, fun h => h.2⟩
  · refine r1 ⟨?_, rfl⟩
    rw [decide_eq_false fun h => hB h.1]
theorem CopyIntsV_tr (a : Value) (xs : List Int) (hb : xs.length ≤ 17592186044416) : Tr Tryz.prog 13 [a] [vw a (Is xs)] [] fun v D => v.oneCell' = true ∧ D = [own TLI v (Is xs)] := by
  refine Tr.enter env _ Tryz.func13 (by kernel_rfl) rfl Tryz.ntmps13 rfl (by repeat (first | exact has00 | refine has01 ?_)) fun w0 => ?_
  repeat' first|(refine sl0 fun o => ?_)|(refine api (l := []) (news := xs) (fun o => ?_); refine TO.one (v := o) (xs := Is ([] ++ xs)) fun ho => ?_)|(refine wo ?_; first|refine oa ?_)|refine sq ?_|refine rg ?_|refine xc ?_|refine nl ?_|refine rt ?_
  exact r1 ⟨ho, rfl⟩
theorem CopyAlias_tr (tot : Int) (cv ov : Value) (cut oth : List Int) (h1 : cut.length ≤ 17592186044416) (h2 : oth.length ≤ 17592186044416) (hc : cv.oneCell' = true) (ho : ov.oneCell' = true) : Tr Tryz.prog 12 [.agg #[I tot, cv, ov]] [vw cv (Is cut), vw ov (Is oth)] []
    fun v D => ∃ c o, v = .agg #[I tot, c, o] ∧ c.oneCell' = true ∧ o.oneCell' = true ∧ D = [own TLI c (Is cut), own TLI o (Is oth)] := by
  refine Tr.enter env _ Tryz.func12 (by kernel_rfl) rfl Tryz.ntmps12 rfl (by repeat (first | exact has00 | refine has01 ?_)) fun w0 => ?_
  repeat' first|refine bx fun q => ?_|refine al fun q2 => ?_|refine sq ?_|refine rg ?_|refine xc ?_|refine nl ?_
  refine rs (fun _ => True) ?_ (fun _ _ => trivial)
  refine tka 0 ?_
  refine tka 3 ?_
  refine t2 1 4 ?_ ?_
  · refine ld ?_
    refine nl ?_
    refine te (fun _ _ => trivial) ?_
    refine t2 2 4 ?_ ?_
    · refine ca (CopyIntsV_tr cv cut h1) ?_
      rintro c _ ⟨hc1, rfl⟩
      refine nl ?_
      refine te (fun _ _ => trivial) ?_
      refine t1 4 ?_
      refine ld ?_
      refine nl ?_
      refine te (fun _ _ => trivial) ?_
      refine tka 6 ?_
      refine t1 5 ?_
      refine ca (CopyIntsV_tr ov oth h2) ?_
      rintro o _ ⟨ho1, rfl⟩
      refine nl ?_
      refine te (fun _ _ => trivial) ?_
      refine t1 7 ?_
      refine sr ?_
      refine nl ?_
      refine te (fun _ _ => trivial) ?_
      refine tka 8 ?_
      refine t1 9 ?_
      refine sr ?_
      refine nl ?_
      refine te (fun _ _ => trivial) ?_
      refine t0 ?_
      repeat' first|refine lda ?_|refine srz ?_|refine sq ?_|refine rg ?_|refine xc ?_|refine nl ?_|refine rt ?_
      exact rca1 (cs := [I tot, c, o]) (vs := [I tot, c, o]) (T := TAl) ⟨c, o, rfl, hc1, ho1, rfl⟩
    · refine ld ?_
      refine nl ?_
      refine te (fun _ _ => trivial) ?_
      refine t1 2 ?_
      refine ca (CopyIntsV_tr cv cut h1) ?_
      rintro c _ ⟨hc1, rfl⟩
      refine nl ?_
      refine te (fun _ _ => trivial) ?_
      refine tka 6 ?_
      refine t1 5 ?_
      refine ca (CopyIntsV_tr ov oth h2) ?_
      rintro o _ ⟨ho1, rfl⟩
      refine nl ?_
      refine te (fun _ _ => trivial) ?_
      refine t1 7 ?_
      refine sr ?_
      refine nl ?_
      refine te (fun _ _ => trivial) ?_
      refine tka 8 ?_
      refine t1 9 ?_
      refine sr ?_
      refine nl ?_
      refine te (fun _ _ => trivial) ?_
      refine t0 ?_
      repeat' first|refine lda ?_|refine srz ?_|refine sq ?_|refine rg ?_|refine xc ?_|refine nl ?_|refine rt ?_
      exact rca1 (cs := [I tot, c, o]) (vs := [I tot, c, o]) (T := TAl) ⟨c, o, rfl, hc1, ho1, rfl⟩
  · refine ld ?_
    refine nl ?_
    refine te (fun _ _ => trivial) ?_
    refine t1 1 ?_
    refine ld ?_
    refine nl ?_
    refine te (fun _ _ => trivial) ?_
    refine t1 2 ?_
    refine ca (CopyIntsV_tr cv cut h1) ?_
    rintro c _ ⟨hc1, rfl⟩
    refine nl ?_
    refine te (fun _ _ => trivial) ?_
    refine tka 6 ?_
    refine t1 5 ?_
    refine ca (CopyIntsV_tr ov oth h2) ?_
    rintro o _ ⟨ho1, rfl⟩
    refine nl ?_
    refine te (fun _ _ => trivial) ?_
    refine t1 7 ?_
    refine sr ?_
    refine nl ?_
    refine te (fun _ _ => trivial) ?_
    refine tka 8 ?_
    refine t1 9 ?_
    refine sr ?_
    refine nl ?_
    refine te (fun _ _ => trivial) ?_
    refine t0 ?_
    repeat' first|refine lda ?_|refine srz ?_|refine sq ?_|refine rg ?_|refine xc ?_|refine nl ?_|refine rt ?_
    exact rca1 (cs := [I tot, c, o]) (vs := [I tot, c, o]) (T := TAl) ⟨c, o, rfl, hc1, ho1, rfl⟩
theorem SameAlias_tr (t1 t2 : Int) (c1 o1 c2 o2 : Value) (x1 y1 x2 y2 : List Int) : Tr Tryz.prog 20 [.agg #[I t1, c1, o1], .agg #[I t2, c2, o2]] [vw c1 (Is x1), vw o1 (Is y1), vw c2 (Is x2), vw o2 (Is y2)] []
    fun v D => v = .bool (decide (t1 = t2 ∧ x1 = x2 ∧ y1 = y2)) ∧ D = [] := by
  refine Tr.enter env _ Tryz.func20 (by kernel_rfl) rfl Tryz.ntmps20 rfl (by repeat (first | exact has00 | refine has01 ?_)) fun w0 => ?_
  repeat' first|(refine gca ?_; first|(refine ca (SameInts_tr c1 c2 x1 x2) ?_; rintro _ _ ⟨rfl, rfl⟩)|(refine ca (SameInts_tr o1 o2 y1 y2) ?_; rintro _ _ ⟨rfl, rfl⟩))|refine bx fun q => ?_|(refine wo ?_; first|(refine ao ?_; first|refine oa ?_)|refine oa ?_|refine ld ?_|refine gy ?_|refine gn ?_|(refine gsi (fun hB => ?_) (fun hB => ?_) <;> try (exfalso; omega)))|refine sq ?_|refine rg ?_|refine xc ?_|refine nl ?_|refine rt ?_
  · refine r1 ⟨?_, rfl⟩
    congr 1; exact decide_eq_decide.2 ⟨fun h => ⟨by assumption, by assumption, h⟩, fun h => h.2.2⟩
  · refine r1 ⟨?_, rfl⟩
    rw [decide_eq_false fun h => hB h.2.1]
  · refine r1 ⟨?_, rfl⟩
    rw [decide_eq_false fun h => hB h.1]
theorem SameIntsT_tr (a b : Value) (xs : List Int) : Tr Tryz.prog 21 [a, b] [vw a (Is xs), vw b (Is xs)] [] fun v D => v = .bool true ∧ D = [] :=
  (SameInts_tr a b xs xs).mono fun v D h => by rw [decide_eq_true rfl] at h; exact h
theorem SameAliasT_tr (t1 : Int) (c1 o1 c2 o2 : Value) (x1 y1 : List Int) : Tr Tryz.prog 20 [.agg #[I t1, c1, o1], .agg #[I t1, c2, o2]] [vw c1 (Is x1), vw o1 (Is y1), vw c2 (Is x1), vw o2 (Is y1)] []
    fun v D => v = .bool true ∧ D = [] := (SameAlias_tr t1 t1 c1 o1 c2 o2 x1 y1 x1 y1).mono fun v D h => by rw [decide_eq_true ⟨rfl, rfl, rfl⟩] at h; exact h
end Go.Art
set_option linter.unusedSimpArgs false
set_option linter.unusedVariables false
namespace Go.Art
open Go Go.Proofs Go.RowKit
theorem rqf_dg (q : Rat) : Dg (rqf q).2.1 ∧ Dg (rqf q).2.2 := ⟨Dg_dg _, Dg_dg _⟩
theorem meaW_dg (tot : Int) (cut oth : List Int) (k d : Int) : Dg (meaW tot cut oth k d).1.2.1 ∧ Dg (meaW tot cut oth k d).1.2.2 := by
  unfold meaW
  split
  · split
    · exact ⟨Dg.nil, Dg.nil⟩
    · exact rqf_dg _
  · exact ⟨Dg.nil, Dg.nil⟩
theorem chaW_dg (t : List Int) (k d : Int) : Dg (chaW t k d).1.2.1 ∧ Dg (chaW t k d).1.2.2 := by
  unfold chaW
  split
  · split
    · exact ⟨Dg.nil, Dg.nil⟩
    · exact rqf_dg _
  · exact ⟨Dg.nil, Dg.nil⟩
attribute [local irreducible] Fit pt own ro vw mpc lpt vels rels mow lrc dfr
attribute [local irreducible] lmp lme mit velg relg bnd owl
theorem RowMeasures_tr (tot k d : Int) (cv ov tv : Value) (cut oth t : List Int) (hc : cv.oneCell' = true) (ho : ov.oneCell' = true) : Tr Tryz.prog 3 [.agg #[I tot, cv, ov], tv, I k, I d] [vw cv (Is cut), vw ov (Is oth), vw tv (Is t)] [] fun v D => v = .bool true ∧ D = [] := by
  have hA := LongAlias_tr tot 30 cv ov cut oth
  have hF := farK_tr k
  by_cases hg : ((30 : Int) < cut.length ∨ (30 : Int) < oth.length) ∨ 30 < t.length ∨ (300 < k ∧ k ≤ 65536)
  · refine Tr.enter env _ Tryz.func3 (by kernel_rfl) rfl Tryz.ntmps3 rfl (by repeat (first | exact has00 | refine has01 ?_)) fun w0 => ?_
    refine TC.leni (v := tv) (l := t) fun hll => ?_
    repeat' first|(refine gca ?_; first|(refine ca hA ?_; rintro _ _ ⟨rfl, rfl⟩)|(refine ca hF ?_; rintro _ _ ⟨rfl, rfl⟩)|(refine ca awake_tr ?_; rintro _ _ ⟨rfl, rfl⟩))|refine bx fun q => ?_|refine lda ?_|(refine wo ?_; first|(refine ao ?_; first|refine oa ?_)|refine oa ?_|refine lnm ?_|refine gy ?_|refine gn ?_|(refine gsi (fun hB => ?_) (fun hB => ?_) <;> try (exfalso; omega)))|(refine gc ?_; first|refine ct ?_|(refine ci (fun hB => ?_) (fun hB => ?_) <;> try (exfalso; omega)))|refine sq ?_|refine rg ?_|refine xc ?_|refine nl ?_|refine rt ?_
    all_goals exact r1 ⟨rfl, rfl⟩
  have hM1 := fun c o hc1 ho1 => MeaW_tr tot k d c o cut oth hc1 ho1
  have hM2 := RMeaW_tr tot k d cv ov cut oth hc ho
  have hC1 := fun b => ChaW_tr b t k d
  have hC2 := RChaW_tr tv t k d
  obtain ⟨m1, m2⟩ := meaW_dg tot cut oth k d
  obtain ⟨m3, m4⟩ := chaW_dg t k d
  generalize meaW tot cut oth k d = w1 at *
  generalize chaW t k d = w2 at *
  obtain ⟨t1, e1⟩ := w1
  obtain ⟨t2, e2⟩ := w2
  unfold FW at hM1 hM2 hC1 hC2
  dsimp only at hM1 hM2 hC1 hC2 m1 m2 m3 m4
  have hSA := fun c o => SameAliasT_tr tot c o cv ov cut oth
  have hCA := CopyAlias_tr tot cv ov cut oth (by omega) (by omega) hc ho
  have hCI := CopyIntsV_tr tv t (by omega)
  refine Tr.enter env _ Tryz.func3 (by kernel_rfl) rfl Tryz.ntmps3 rfl (by repeat (first | exact has00 | refine has01 ?_)) fun w0 => ?_
  repeat' first|(refine gca ?_; first|(refine ca hA ?_; rintro _ _ ⟨rfl, rfl⟩)|(refine ca hF ?_; rintro _ _ ⟨rfl, rfl⟩)|(refine ca awake_tr ?_; rintro _ _ ⟨rfl, rfl⟩)|(refine ca hCA ?_; rintro _ _ ⟨c, o, rfl, hc1, ho1, rfl⟩)|(refine ca hCI ?_; rintro bv _ ⟨hbv, rfl⟩)|(refine ca (hM1 c o hc1 ho1) ?_; rintro _ _ ⟨n1, d1, rfl, hn1, hd1, rfl⟩)|(refine ca hM2 ?_; rintro _ _ ⟨n2, d2, rfl, hn2, hd2, rfl⟩)|(refine ca (hC1 bv) ?_; rintro _ _ ⟨n3, d3, rfl, hn3, hd3, rfl⟩)|(refine ca hC2 ?_; rintro _ _ ⟨n4, d4, rfl, hn4, hd4, rfl⟩)|(refine ca (SameRatioT_tr t1 n1 d1 n2 d2) ?_; rintro _ _ ⟨rfl, rfl⟩)|(refine ca (SameRatioT_tr t2 n3 d3 n4 d4) ?_; rintro _ _ ⟨rfl, rfl⟩)|(refine ca (OverRatio_tr t1 n1 d1 m1 m2) ?_; rintro _ _ rfl)|(refine ca (OverRatio_tr t2 n3 d3 m3 m4) ?_; rintro _ _ rfl)|(refine ca (hSA c o) ?_; rintro _ _ ⟨rfl, rfl⟩)|(refine ca (SameIntsT_tr bv tv t) ?_; rintro _ _ ⟨rfl, rfl⟩))|refine bx fun q => ?_|refine al fun q2 => ?_|refine lda ?_|refine srz ?_|(refine wo ?_; first|(refine ao ?_; first|refine oa ?_)|refine oa ?_|refine lnm ?_|refine gy ?_|(refine gsi (fun hB => ?_) (fun hB => ?_) <;> try (exfalso; omega)))|(refine gc ?_; first|(refine ci (fun hB => ?_) (fun hB => ?_) <;> try (exfalso; omega)))|refine sq ?_|refine rg ?_|refine xc ?_|refine nl ?_|refine sk ?_|refine rt ?_
  all_goals exact r1 ⟨rfl, rfl⟩
end Go.Art
set_option linter.unusedSimpArgs false
set_option linter.unusedVariables false
namespace Go.Art
open Go Go.RowKit

def adr (v : Value) (m : Nat) : Addr := (addrAt v 0).add m
def SlW (w : World) (v : Value) (n : Nat) (xs : List Value) : Prop :=
  ∃ a cap, v = .slice a n cap ∧ n ≤ cap ∧ cap ≤ maxLen ∧ (0 < n → ∃ x, a = some x) ∧ ∀ i u, xs[i]? = some u → ∃ x, a = some x ∧ w.cell? (x.add i) = some u
theorem add_block (x : Addr) (i : Nat) : (x.add i).block = x.block := by unfold Addr.add; split <;> rfl
def vwf (v : Value) (n : Nat) (xs : List Value) : Ch where
  wr := fun _ => False
  rd := fun _ => False
  bd := fun x => xs ≠ [] ∧ v.ownBlock = some x
  P := fun w => SlW w v n xs
  loc := fun {w w'} h hb => by
    obtain ⟨a, cap, rfl, h1, h2, h0, h3⟩ := h
    refine ⟨a, cap, rfl, h1, h2, h0, fun i u hi => ?_⟩
    obtain ⟨x, rfl, hx⟩ := h3 i u hi
    exact ⟨x, rfl, (World.cell?_of_block (by rw [add_block]; exact hb _ (.inr (.inr ⟨by rintro rfl; simp at hi, rfl⟩)))).trans hx⟩
  lt := fun {w b} h hb => by
    rcases hb with hb | hb | ⟨h4, h5⟩
    · exact hb.elim
    · exact hb.elim
    · obtain ⟨a, cap, rfl, h1, h2, h0, h3⟩ := h
      cases xs with
      | nil => exact absurd rfl h4
      | cons u r =>
        obtain ⟨x, rfl, hx⟩ := h3 0 u rfl
        have := World.block_lt_of_cell? w _ hx
        rw [add_block] at this
        simp only [Value.ownBlock, Option.some.injEq] at h5
        rw [← h5]; exact this
instance (v : Value) (n : Nat) (xs : List Value) : Lent (vwf v n xs) := ⟨fun _ => ⟨fun h => h, fun h => h⟩⟩
section
variable {P : Program} {E : Env P} {n : Sh} {X : Cx} {s : List K} {fr : Fr} {A A' : List Ch} {ops : Array Oper} {rest : List Oper} {d m N sz by_ : Nat} {ty t el : TypeId} {pos : String} {after : Array Edge} {v u z : Value} {x y : Operand} {xs vs : List Value} {dt : TypeDesc} {k1 : IntKind} {w : World} {fs : Array Field} {f : Nat} {fld : Field}
end
end Go.Art
set_option linter.unusedSimpArgs false
set_option linter.unusedVariables false
namespace Go.Art
open Go Go.RowKit
section
variable {H : Type} {enc : TypeId × Value → H} {P : Program} {w : World} {base fuel : Nat} {t e : TypeId} {k : IntKind} {cs : List Value} {x : DataW H × List MemPlace}
theorem Env.cells (E : Env P) {z : Value} {s b : Nat} (h : lk E.inf t = some (z, s, b)) : P.cellsOf t = s := by
  obtain ⟨i, h1, _, h2, _⟩ := E.info h
  simp [Program.cellsOf, h1, h2]
theorem leaf_int (E : Env P) (h : DataW.trod enc P w base (fun _ => true) true fuel t cs = some x) (ht : lk E.und t = some (.int k) := by rfl) : ∃ n, cs = [.int k n] ∧ (Lit.int k n).wf = true := by
  obtain ⟨n, h1, _, h2⟩ := DataW.trod_int (E.un ht) h
  exact ⟨n, h1, h2⟩
theorem leaf_field (E : Env P) {fs : Array Field} (h : DataW.trod enc P w base (fun _ => true) true fuel t cs = some x) (ht : lk E.und t = some (.struct fs) := by rfl) {i : Nat} {f : Field} {z : Value} {s b : Nat} (hf : fs[i]? = some f) (he : lk E.inf f.type = some (z, s, b)) :
    ∃ n y, DataW.trod enc P w base (fun _ => true) true n f.type ((cs.drop f.offset).take s) = some y := by
  obtain ⟨xs, n, _, _, _, hl, hx⟩ := DataW.trod_struct (E.un ht) h
  have h1 := hx i f hf
  rw [E.cells he] at h1
  have : i < xs.length := by rw [hl]; exact (Array.getElem?_eq_some_iff.1 hf).1
  exact ⟨n, xs[i], by rw [h1, List.getElem?_eq_getElem this]⟩
theorem leaf_len (E : Env P) {fs : Array Field} (h : DataW.trod enc P w base (fun _ => true) true fuel t cs = some x) (ht : lk E.und t = some (.struct fs) := by rfl) {z : Value} {s b : Nat} (he : lk E.inf t = some (z, s, b)) : cs.length = s := by
  obtain ⟨xs, n, _, _, h1, _⟩ := DataW.trod_struct (E.un ht) h
  rw [h1, E.cells he]
theorem leaf_row (E : Env P) (h : DataW.trod enc P w base (fun _ => true) true fuel t cs = some x) {z : Value} {b : Nat} (ht : lk E.und t = some (.slice e) := by rfl) (he : lk E.und e = some (.int k) := by rfl) (hc : lk E.inf e = some (z, 1, b) := by rfl) :
    ∃ (v : Value) (l : List Int), cs = [v] ∧ Sl w v (l.map (.int k)) ∧ (∀ n ∈ l, (Lit.int k n).wf = true) ∧ v.oneCell' = true := by
  rcases Go.ChangeShapes.open_ints (E.un ht) (E.un he) (E.cells hc) h with ⟨rfl, _⟩ | ⟨a, len, cap, zs, rfl, _, hl, hm, hz, _, hcell, hw⟩
  · exact ⟨_, [], rfl, Sl.nil w, by simp, rfl⟩
  · simp only [if_true] at hz
    refine ⟨_, zs.take len, rfl, ⟨some a, cap, by simp; omega, by simp; omega, hm, fun i u hi => ⟨a, rfl, ?_⟩⟩, fun n hn => hw n (List.mem_of_mem_take hn), rfl⟩
    have hlt : i < len ∧ i < zs.length := by
      have := (List.getElem?_eq_some_iff.1 hi).1
      simp at this; omega
    rw [hcell i hlt.2]
    simp [hlt.1, hlt.2] at hi
    rw [← hi]; simp [List.getD_eq_getElem?_getD, hlt.2]
theorem wide_agg (E : Env P) {fs : Array Field} {r : Reach} {v : Value} (h : Value.okWide P w r base t v) (ht : lk E.und t = some (.struct fs) := by rfl) : ∃ cs, v = .agg cs := by
  unfold Value.okWide at h
  rw [E.un ht] at h
  obtain ⟨cs, rfl, _⟩ := h
  exact ⟨cs, rfl⟩
end
end Go.Art
set_option linter.unusedSimpArgs false
set_option linter.unusedVariables false
namespace Go.Art
open Go Go.Proofs Go.RowKit
def InAl (w : World) (v : Value) : Prop :=
  ∃ (tot : Int) (cv ov : Value) (cut oth : List Int), v = .agg #[I tot, cv, ov] ∧ cv.oneCell' = true ∧ ov.oneCell' = true ∧ Sl w cv (Is cut) ∧ Sl w ov (Is oth)
set_option maxRecDepth 20000 in
theorem inAl_of {H : Type} {enc : TypeId × Value → H} {w : World} {r : Reach} {base : Nat} {v : Value} {d : DataW H} {ps : List MemPlace} (hv : Value.okWide Tryz.prog w r base 24 v)
    (h : DataW.Trod enc Tryz.prog w 0 (fun _ => true) true 24 v d ps) : InAl w v := by
  obtain ⟨cs, rfl⟩ := wide_agg env hv
  obtain ⟨fuel, h⟩ := h
  have h : DataW.trod enc Tryz.prog w 0 (fun _ => true) true fuel 24 cs.toList = some (d, ps) := h
  have hl := leaf_len env h rfl rfl
  have hc : cs = cs.toList.toArray := by simp
  rw [hc]
  generalize cs.toList = l at *
  match l, hl with
  | [c0, c1, c2], _ =>
    obtain ⟨_, _, g0⟩ := leaf_field env h (i := 0) rfl rfl rfl
    obtain ⟨_, _, g1⟩ := leaf_field env h (i := 1) rfl rfl rfl
    obtain ⟨_, _, g2⟩ := leaf_field env h (i := 2) rfl rfl rfl
    obtain ⟨tot, e0, b0⟩ := leaf_int env g0
    obtain ⟨cv, cut, e1, s1, b1, o1⟩ := leaf_row env g1
    obtain ⟨ov, oth, e2, s2, b2, o2⟩ := leaf_row env g2
    injection e0 with e0; injection e1 with e1; injection e2 with e2
    subst e0 e1 e2
    exact ⟨tot, c1, c2, cut, oth, rfl, o1, o2, s1, s2⟩
end Go.Art
set_option linter.unusedSimpArgs false
set_option linter.unusedVariables false
namespace Go.Art
open Go Go.RowKit

structure SatL (A : List Ch) (w : World) : Prop where
  s : Sat A w
  l : ∀ c ∈ A, ∀ b, ¬ c.wr b
theorem SatL.nil (w : World) : SatL [] w := ⟨Sat.nil w, fun _ h => nomatch h⟩
theorem SatL.cons {c : Ch} {A : List Ch} {w : World} [hc : Lent c] (h : c.P w) (k : SatL A w) : SatL (c :: A) w :=
  ⟨Sat.cons.2 ⟨h, fun a ha => ⟨fun b hb => absurd hb (hc.lent b).1, fun b hb => absurd hb (k.l a ha b)⟩, k.s⟩, fun x hx b => by rcases List.mem_cons.1 hx with rfl | hx; exact (hc.lent b).1; exact k.l x hx b⟩

structure IsMat (k : IntKind) (w : World) (v : Value) (hs : List Value) (ls : List (List Int)) : Prop where
  sl : Sl w v hs
  len : hs.length = ls.length
  el : ∀ i, i < ls.length → Sl w (hs.getD i nS) ((ls.getD i []).map (.int k)) ∧ ∀ n ∈ ls.getD i [], (Lit.int k n).wf = true
theorem getD_map_range {α : Type} (f : Nat → α) (n i : Nat) (z : α) (h : i < n) : ((List.range n).map f).getD i z = f i := by simp [List.getD_eq_getElem?_getD, h]
theorem isMat_of {H : Type} {enc : TypeId × Value → H} {P : Program} {w : World} {base fuel : Nat} {t e q : TypeId} {k : IntKind} {a : Option Addr} {len cap : Nat} {x : DataW H × List MemPlace} (ht : P.underlying t = some (.slice e)) (he : P.underlying e = some (.slice q)) (hq : P.underlying q = some (.int k))
    (ce : P.cellsOf e = 1) (cq : P.cellsOf q = 1) (h : DataW.trod enc P w base (fun _ => true) true fuel t [.slice a len cap] = some x) : ∃ hs ls, IsMat k w (.slice a len cap) hs ls := by
  rcases Deep.open_int_rows ht he hq ce cq h with ⟨hcs, _⟩ | ⟨ad, l, c, A, L, C, Z, hcs, _, hl, hm, _, hr⟩
  · injection hcs with hcs; injection hcs with h1 h2 h3
    subst h1 h2 h3
    exact ⟨[], [], Sl.nil w, rfl, fun i hi => by simp at hi⟩
  · injection hcs with hcs; injection hcs with h1 h2 h3
    subst h1 h2 h3
    refine ⟨(List.range len).map fun r => .slice (A r) (L r) (C r), (List.range len).map fun r => (Z r).take (L r), ?_, by simp, fun i hi => ?_⟩
    · refine ⟨some ad, cap, by simp, by simpa using hl, hm, fun i u hi => ⟨ad, rfl, ?_⟩⟩
      simp only [List.getElem?_map, Option.map_eq_some_iff] at hi
      obtain ⟨r, hr1, rfl⟩ := hi
      have : i < len := by
        have := (List.getElem?_eq_some_iff.1 hr1).1
        simpa using this
      rw [List.getElem?_range this] at hr1; cases hr1
      exact (hr i (by omega)).1
    · have hi' : i < len := by simpa using hi
      obtain ⟨_, h4, h5, h6, h7, h8, h9⟩ := hr i (by omega)
      rw [getD_map_range _ _ _ _ hi', getD_map_range _ _ _ _ hi']
      refine ⟨?_, fun n hn => h7 n (List.mem_of_mem_take hn)⟩
      cases hA : A i with
      | none =>
        have hc := h8 hA
        have hz : Z i = [] := List.eq_nil_of_length_eq_zero (by omega)
        have h0 : L i = 0 := by omega
        rw [hz, hc, h0]; exact Sl.nil w
      | some a' =>
        refine ⟨some a', C i, by simp; omega, by simp; omega, h5, fun j u hj => ⟨a', rfl, ?_⟩⟩
        simp only [List.getElem?_map, Option.map_eq_some_iff] at hj
        obtain ⟨z, hz1, rfl⟩ := hj
        rw [List.getElem?_take] at hz1
        split at hz1
        · rw [(h9 a' hA).2 j (by omega)]
          simp [List.getD_eq_getElem?_getD, hz1]
        · cases hz1
end Go.Art
set_option linter.unusedSimpArgs false
set_option linter.unusedVariables false
namespace Go.Art
open Go Go.Proofs Go.RowKit
theorem RowMeasures_law {w : World} {a v : Value} {t : List Int} (k d : Int) (ha : InAl w a) (hv : Sl w v (Is t)) : Fn Tryz.prog 3 [a, v, I k, I d] w fun v w' => v = .bool true ∧ Ext w w' := by
  obtain ⟨tot, cv, ov, cut, oth, rfl, o1, o2, s1, s2⟩ := ha
  exact (RowMeasures_tr tot k d cv ov v cut oth t o1 o2).law (SatL.cons s1 (SatL.cons s2 (SatL.cons hv (SatL.nil w)))).s
end Go.Art
