/- Texts put together: Fd Rv Ry. Conditions: none. -/
import Derived.Test.YtbdmhamjhkibgaaGreatZFg
set_option linter.unusedSimpArgs false
set_option linter.unusedVariables false
namespace Go.Art
open Go Go.Proofs Go.RowKit
theorem has_velg_nil {g : Int → Value} {F : List Ch} : Has F (velg g [] []) := ⟨fun _ _ => ⟨rfl, fun i hi => by simp at hi⟩, fun _ h => h, fun _ h => h, fun b hb => by
  rcases hb with hb | hb | ⟨i, hi, _⟩
  · exact hb.elim
  · exact hb.elim
  · simp at hi⟩
theorem has_velg_cons {g : Int → Value} {F : List Ch} {v : Value} {l : List Int} {hs : List Value} {ls : List (List Int)} (h : Has F (vw v (l.map g))) (k : Has F (velg g hs ls)) : Has F (velg g (v :: hs) (l :: ls)) := by
  have hb : ∀ b, (velg g (v :: hs) (l :: ls)).ft b → (vw v (l.map g)).ft b ∨ (velg g hs ls).ft b := fun b hb => by
    rcases hb with hb | hb | ⟨i, hi, h1, h2⟩
    · exact hb.elim
    · exact hb.elim
    · cases i with
      | zero => exact .inl (.inr (.inr ⟨h1, h2⟩))
      | succ i => exact .inr (.inr (.inr ⟨i, by simpa using hi, h1, h2⟩))
  refine ⟨fun w hw => ?_, fun _ h => h, fun _ h => h, fun b hx => ?_⟩
  · obtain ⟨k1, k2⟩ := (k.P w hw : elgP g hs ls w)
    refine ⟨by simp [k1], fun i hi => ?_⟩
    cases i with
    | zero => exact h.P w hw
    | succ i => exact k2 i (by simpa using hi)
  · rcases hb b hx with h1 | h1
    · exact h.ft b h1
    · exact k.ft b h1
theorem has_vfr_nil {F : List Ch} : Has F (vfr [] []) := has_velg_nil
theorem has_vfr_cons {F : List Ch} {v1 v2 : Value} {q : Rat} {hs : List (Value × Value)} {qs : List Rat} (h1 : Has F (vw v1 (Us (dg q.num.natAbs)))) (h2 : Has F (vw v2 (Us (dg q.den)))) (k : Has F (vfr hs qs)) : Has F (vfr ((v1, v2) :: hs) (q :: qs)) := by
  rw [Us_eq] at h1 h2
  exact has_velg_cons h1 (has_velg_cons h2 k)
theorem FB_mk {a D B : Nat} (hD : D ≠ 0) (ha : (dg a).length ≤ B) (hd : (dg D).length ≤ B) : FB (mkRat (a : Int) D) B := by
  refine ⟨?_, ?_⟩
  · rw [mk_abs _ hD, Int.natAbs_natCast]
    exact Nat.le_trans (dg_mono (Nat.div_le_self _ _)) ha
  · rw [mk_den _ hD]
    exact Nat.le_trans (dg_mono (Nat.div_le_self _ _)) hd
theorem FB_mk1 {a D : Nat} (hD : D ≠ 0) (ha : a < 18446744073709551616) (hd : D < 18446744073709551616) : FB (mkRat (a : Int) D) 1 := FB_mk hD (dg_len1 ha) (dg_len1 hd)
attribute [local irreducible] Fit pt own ro vw mpc lpt vels rels mow lrc dfr
attribute [local irreducible] lmp lme mit velg relg bnd owl
theorem FAdd_tr (lv : Value) (qs : List Rat) (hs : List (Value × Value)) (hl : hs.length = qs.length) (hFB : ∀ i, i < qs.length → FB (qs.getD i 0) 8589934592) (hP : ∀ i, i < qs.length → FB ((qs.take i).foldl (· + ·) 0) 8589934592) :
    Tr Tryz.prog 40 [lv] [vwf lv qs.length (rcs qs hs), vfr hs qs] [] (FQ2 (qs.foldl (· + ·) 0) 0) := by
  have hF := fun o ho => Fold_tr (· + ·) 80 0 nS o lv qs hs rfl ho hl (fun i hi => (hFB i hi).le (by decide)) (fun i hi v1 v2 h1 h2 h3 h4 => FSum_tr _ _ v1 v2 _ _ h1 h2 h3 h4 (hP i hi) (hFB i hi))
  have e1 : dg (0 : Rat).num.natAbs = [] := by rw [show (0 : Rat).num.natAbs = 0 from rfl, dg_zero]
  have e2 : dg (0 : Rat).den = [1] := by rw [show (0 : Rat).den = 1 from rfl, dg_pos (by decide)]; rw [show 1 / 18446744073709551616 = 0 from rfl, dg_zero]
  rw [e1, e2] at hF
  unfold FQ2 at hF ⊢
  generalize qs.foldl (· + ·) (0 : Rat) = p at *
  refine Tr.enter env _ Tryz.func40 (by kernel_rfl) rfl Tryz.ntmps40 rfl (by repeat (first | exact has00 | refine has01 ?_)) fun w0 => ?_
  refine TC.im (own_nil T64 _) ?_
  repeat' first|(refine gca ?_; first|(refine ca one_tr ?_; rintro o _ ⟨ho, rfl⟩)|(refine ca (hF o ho) ?_; rintro _ _ ⟨vn, vd, rfl, hvn, hvd, rfl⟩))|refine al fun c => ?_|refine bdm ?_|refine srz ?_|(refine wo ?_; first|refine oa ?_)|refine sq ?_|refine rg ?_|refine xc ?_|refine nl ?_|refine rt ?_
  exact rca (cs := [.bool (decide (p.num < 0)), vn, vd]) (vs := [.bool (decide (p.num < 0)), vn, vd]) (T := TRt) ⟨vn, vd, rfl, hvn, hvd, rfl⟩
theorem FAdd0_tr : Tr Tryz.prog 40 [nS] [] [] (FQ2 0 0) := by
  have h := FAdd_tr nS [] [] rfl (fun i hi => absurd hi (Nat.not_lt_zero _)) (fun i hi => absurd hi (Nat.not_lt_zero _))
  refine ⟨fun w hw => h.run w ?_, has00⟩
  refine Sat.app.2 ⟨?_, hw, fun a ha c hc => nomatch hc⟩
  have g1 : Has [] (vwf nS 0 []) := ⟨fun w _ => ⟨none, 0, rfl, Nat.le_refl _, by unfold maxLen; omega, fun h => absurd h (Nat.lt_irrefl _), fun i u h => by simp at h⟩, fun _ h => h, fun _ h => h, fun b hb => by rcases hb with hb | hb | hb; exact hb.elim; exact hb.elim; exact absurd rfl hb.1⟩
  have := lend (pre := [vwf nS 0 [], vfr [] []]) (A := []) (F := []) (w := w) (Sat.nil w) (has1 g1 (has1 has_vfr_nil has0))
  rw [List.append_nil] at this
  exact this
end Go.Art
set_option linter.unusedSimpArgs false
set_option linter.unusedVariables false
namespace Go.Art
open Go Go.Proofs Go.RowKit
theorem setW_err {tot : Int} {cut oth : List Int} {k : Int} {x : Lw} {at1 e : Int} {x2 : Lw} (h1 : rwE tot cut oth k = 0) (h2 : (plcW tot cut oth x).1 = (at1, 0)) (h3 : (plcW tot cut oth x).2.1 = x2) (h4 : (ordO k (at1 + 1) x2).1 = ([], e)) : (setW tot cut oth k x).1 = ([], e) := by
  unfold setW
  rw [if_pos h1, h2, if_pos rfl, h3]
  unfold pickO
  rw [h4, srt_id .nil]
theorem setW_srt {tot : Int} {cut oth : List Int} {k : Int} {x : Lw} {at1 : Int} {x2 : Lw} {l m : List Int} (h1 : rwE tot cut oth k = 0) (h2 : (plcW tot cut oth x).1 = (at1, 0)) (h3 : (plcW tot cut oth x).2.1 = x2) (h4 : (ordO k (at1 + 1) x2).1 = (l, 0)) (hp : l.Perm m) (hs : m.Pairwise (· ≤ ·)) : (setW tot cut oth k x).1 = (m, 0) := by
  unfold setW
  rw [if_pos h1, h2, if_pos rfl, h3]
  unfold pickO
  rw [h4]
  exact congrArg (·, (0 : Int)) (((srt_perm l).trans hp).eq_of_pairwise (fun a b _ _ h1 h2 => by omega) (srt_sorted l) hs)
theorem few3 : (setW 4 [2, 4] [1, 1] 3 (.inr ([1, 0, 2, 1], false))).1 = ([0, 2], 0) := setW_srt (at1 := 1) (x2 := .inr ([2, 1], false)) (l := [2, 0]) (by decide) (by decide) (by kernel_rfl) (by decide) (List.Perm.swap _ _ _) (by simp)
theorem few4 : (setW 4 [2, 4] [1, 1] 3 (.inr ([0, 1], false))).1 = ([], 12) := setW_err (at1 := 0) (x2 := .inr ([], false)) (by decide) (by decide) (by kernel_rfl) (by decide)
theorem few5 : (setW 4 [2, 4] [1, 1] 1 (.inr ([0, 0], false))).1 = ([], 3) := by decide
theorem mea2 : meaW 4 [2, 4] [1, 1] 3 1 = (rqf (mkRat 1 24), 0) := by
  rw [meaW_ok (by decide) (by decide)]; rfl
theorem mea3 : meaW 4 [2, 4] [1, 1] 3 3 = (rqn, 3) := by
  unfold meaW; rw [if_pos (by decide), if_pos (by decide)]
theorem cha2 : chaW [1, 3] 3 2 = (rqf (mkRat 1 4), 0) := by
  unfold chaW; rw [if_pos (by decide), if_neg (by decide)]; rfl
theorem cha3 : chaW [1, 3] 1 1 = (rqn, 13) := by
  unfold chaW; rw [if_neg (by decide)]
theorem fewL : (allL 4 [2, 4] [1, 1] 3).length = 42 ∧ (allL 4 [2, 4] [1, 1] 3).getD 0 [] = [0, 0, 0] := ⟨by kernel_rfl, by kernel_rfl⟩
theorem rows1 : ∃ L : List (List Int), rowsW 4 [2, 4] [1, 1] 3 = (L, 0) ∧ L.length = 42 ∧ L.getD 0 [] = [0, 0, 0] := by
  refine ⟨allL 4 [2, 4] [1, 1] 3, ?_, fewL.1, fewL.2⟩
  unfold rowsW
  rw [if_pos (by decide), if_neg]
  · rfl
  · rw [show (3 : Int).toNat = 3 from rfl, fewL.1]; decide
attribute [local irreducible] Fit pt own ro vw mpc lpt vels rels mow lrc dfr
attribute [local irreducible] lmp lme mit velg relg bnd owl dfrl
theorem RowKnown_tr : Tr Tryz.prog 6 [] [] [] fun v D => v = .bool true ∧ D = [] := by
  have hM := fun c o hc ho => MeaW_tr 4 3 1 c o [2, 4] [1, 1] hc ho
  have hN := fun c o hc ho => MeaW_tr 4 3 3 c o [2, 4] [1, 1] hc ho
  have hC := fun s => ChaW_tr s [1, 3] 3 2
  have hE := fun s => ChaW_tr s [1, 3] 1 1
  have hR := fun c o hc ho => Rows_tr 4 3 c o [2, 4] [1, 1] hc ho
  obtain ⟨L, hL1, hL2, hL3⟩ := rows1
  simp only [hL1] at hR
  simp only [mea2] at hM
  simp only [mea3] at hN
  simp only [cha2] at hC
  simp only [cha3] at hE
  unfold FW at hM hC hN hE
  dsimp only at hM hC hN hE hR
  have hI1 := fun n1 d1 => is_tr (rqf (mkRat 1 24)) 0 n1 d1 1 24 (by decide) (by decide) (by decide)
  have hI2 := fun n1 d1 => is_tr (rqf (mkRat 1 4)) 0 n1 d1 1 4 (by decide) (by decide) (by decide)
  simp only [show ((1 : Nat) : Int) = 1 from rfl, and_self, decide_true] at hI1 hI2
  have hD1 := fun lv wv => draws_tr 3 0 lv wv [1, 0, 2, 1] [0, 2] (by decide)
  have hD2 := fun lv wv => draws_tr 3 12 lv wv [0, 1] [] (by decide)
  have hD3 := fun lv wv => draws_tr 1 3 lv wv [0, 0] [] (by decide)
  rw [few3] at hD1
  rw [few4] at hD2
  rw [few5] at hD3
  simp only [decide_true] at hD1 hD2 hD3
  generalize mkRat 1 24 = q1 at *
  generalize mkRat 1 4 = q2 at *
  refine Tr.enter env _ Tryz.func6 (by kernel_rfl) rfl Tryz.ntmps6 rfl (by repeat (first | exact has00 | refine has01 ?_)) fun w0 => ?_
  repeat' first|(refine gca ?_; first|(refine ca few_tr ?_; rintro _ _ ⟨c, o, rfl, hc, ho, rfl⟩)|(refine ca (hM c o hc ho) ?_; rintro _ _ ⟨n1, d1, rfl, hn1, hd1, rfl⟩)|(refine ca (hN c o hc ho) ?_; rintro _ _ ⟨n3, d3, rfl, hn3, hd3, rfl⟩)|(refine ca (hR c o hc ho) ?_; rintro _ _ ⟨rv, hs, rfl, hrv, hlr, rfl⟩; have hg0 : hs[0]? = some (hs.getD 0 nS) := (by rw [List.getD_eq_getElem?_getD, List.getElem?_eq_getElem (by omega)]; rfl))|(refine ca (hC _) ?_; rintro _ _ ⟨n2, d2, rfl, hn2, hd2, rfl⟩)|(refine ca (hE _) ?_; rintro _ _ ⟨n4, d4, rfl, hn4, hd4, rfl⟩)|(refine ca (hD1 _ _) ?_; rintro _ _ ⟨rfl, rfl⟩)|(refine ca (hD2 _ _) ?_; rintro _ _ ⟨rfl, rfl⟩)|(refine ca (hD3 _ _) ?_; rintro _ _ ⟨rfl, rfl⟩)|(refine ca (hI1 n1 d1) ?_; rintro _ _ ⟨rfl, rfl⟩)|(refine ca (hI2 n2 d2) ?_; rintro _ _ ⟨rfl, rfl⟩)|(refine ca (SameIntsT_tr (hs.getD 0 nS) _ [0, 0, 0]) ?_ (hp := has1 (by rw [← hL3]; exact has_elg (g := I) (hs := hs) (ls := L) (i := 0) (has_owl (e := TLI) (by omega) (by (repeat (first | apply List.Mem.head | apply List.Mem.tail)); first | done | fail)) (by omega)) (has1 (by first | (apply has_vw; (repeat (first | apply List.Mem.head | apply List.Mem.tail)); first | done | fail) | (apply has_own; (repeat (first | apply List.Mem.head | apply List.Mem.tail)); first | done | fail) | (apply has_ro; (repeat (first | apply List.Mem.head | apply List.Mem.tail)); first | done | fail) | apply has_nil | ((with_reducible apply has_el); (focus (first | (apply has_vels; (repeat (first | apply List.Mem.head | apply List.Mem.tail)); first | done | fail) | (apply has_rels; (repeat (first | apply List.Mem.head | apply List.Mem.tail)); first | done | fail))); omega) | (apply has_pt; (repeat (first | apply List.Mem.head | apply List.Mem.tail)); first | done | fail) | (apply has_lpt; (repeat (first | apply List.Mem.head | apply List.Mem.tail)); first | done | fail) | (apply has_vels; (repeat (first | apply List.Mem.head | apply List.Mem.tail)); first | done | fail) | (apply has_rels; (repeat (first | apply List.Mem.head | apply List.Mem.tail)); first | done | fail) | with_reducible assumption | ((with_reducible apply has_elg); (focus (first | (apply has_velg; (repeat (first | apply List.Mem.head | apply List.Mem.tail)); first | done | fail) | (apply has_relg; (repeat (first | apply List.Mem.head | apply List.Mem.tail)); first | done | fail))); omega) | (apply has_velg; (repeat (first | apply List.Mem.head | apply List.Mem.tail)); first | done | fail) | (apply has_relg; (repeat (first | apply List.Mem.head | apply List.Mem.tail)); first | done | fail) | (apply has_vwf; (repeat (first | apply List.Mem.head | apply List.Mem.tail)); first | done | fail) | (apply has_oww; (repeat (first | apply List.Mem.head | apply List.Mem.tail)); first | done | fail)) has0)); rintro _ _ ⟨rfl, rfl⟩)|(refine ca awake_tr ?_; rintro _ _ ⟨rfl, rfl⟩))|refine slz fun v hv => ?_|refine al fun b1 => ?_|refine srz ?_|refine lda ?_|refine le (xs := hs) (j := 0) ?_ (hj := hg0)|(refine wo ?_; first|(refine ao ?_; first|refine oa ?_)|refine oa ?_|refine ln ?_|refine ix ?_|refine gy ?_|(refine gsn (fun hB => ?_) (fun hB => ?_) <;> try (exfalso; omega)))|(refine gc ?_; first|refine cf ?_)|refine sq ?_|refine rg ?_|refine xc ?_|refine nl ?_|refine sk ?_|refine rt ?_
  exact r1 ⟨rfl, rfl⟩
end Go.Art
set_option linter.unusedSimpArgs false
set_option linter.unusedVariables false
namespace Go.Art
open Go Go.Proofs Go.RowKit
theorem Tr.pre {P : Program} {f : FuncId} {args : List Value} {pre pre' A : List Ch} {R : Value → List Ch → Prop} (h : Tr P f args pre A R) (hp : ∀ c ∈ pre, Has pre' c) (hl : ∀ c ∈ pre', ∀ b, ¬ c.wr b ∧ ¬ c.rd b) : Tr P f args pre' A R :=
  ⟨fun w hw => h.run w (lend (hw.perm List.perm_append_comm) hp), hl⟩
theorem FAdd2_tr (q r : Rat) (lv v1 v2 v3 v4 : Value) (hq : FB q 8589934592) (hr : FB r 8589934592) :
    Tr Tryz.prog 40 [lv] [vwf lv 2 (rrow q (v1, v2) ++ rrow r (v3, v4)), vw v1 (Us (dg q.num.natAbs)), vw v2 (Us (dg q.den)), vw v3 (Us (dg r.num.natAbs)), vw v4 (Us (dg r.den))] [] (FQ2 (q + r) 0) := by
  have h := FAdd_tr lv [q, r] [(v1, v2), (v3, v4)] rfl (fun i hi => by
    match i, hi with
    | 0, _ => exact hq
    | 1, _ => exact hr) (fun i hi => by
    match i, hi with
    | 0, _ => exact ⟨by rw [show (([q, r].take 0).foldl (· + ·) (0 : Rat)).num.natAbs = 0 from rfl, dg_zero]; exact Nat.zero_le _, by rw [show (([q, r].take 0).foldl (· + ·) (0 : Rat)).den = 1 from rfl]; exact Nat.le_trans (dg_len1 (by decide)) (by decide)⟩
    | 1, _ =>
      show FB (0 + q) _
      rw [Rat.zero_add]; exact hq)
  rw [show [q, r].foldl (· + ·) (0 : Rat) = q + r by show 0 + q + r = q + r; rw [Rat.zero_add]] at h
  refine h.pre ?_ (by repeat (first | exact has00 | refine has01 ?_))
  refine has1 (has_vwf (List.Mem.head _)) (has1 (has_vfr_cons (has_vw (by simp)) (has_vw (by simp)) (has_vfr_cons (has_vw (by simp)) (has_vw (by simp)) has_vfr_nil)) has0)
theorem allL_ok {tbl : List Int} {k : Nat} (hk : 1 ≤ k ∧ k ≤ 4) (hz : solE (madeT tbl k) k = 0) :
    rwE (madeT tbl k).sum (alF (madeT tbl k)).cut (alF (madeT tbl k)).oth k = 0 ∧ (alF (madeT tbl k)).cut.length = (madeT tbl k).length ∧ (1 ≤ (madeT tbl k).length ∧ (madeT tbl k).length ≤ k) ∧ 1 ≤ (madeT tbl k).sum ∧ (madeT tbl k).sum ≤ 20 := by
  obtain ⟨z1, z2, z3, z4⟩ := solE_zero hz
  have hp := sum_posT z3 z4
  obtain ⟨h1, h2, _⟩ := alF_ok z3 (by omega) hp
  have hs := madeT_sum (tbl := tbl) (k := k)
  refine ⟨?_, h2, by omega, by omega, by omega⟩
  unfold rwE
  rw [if_pos h1, if_neg (by omega)]
theorem row_pack {tot : Int} {cut oth : List Int} {k : Nat} {l : List Int} (hk : rwE tot cut oth k = 0) (hk4 : k ≤ 4) (h : l ∈ allL tot cut oth k) : ∃ S : List Int, setW tot cut oth k (.inr (l, false)) = ((S, 0), (.inr ([], false), (l.length : Int))) ∧ (S.length + 2 = l.length ∧ l.length ≤ 6) ∧
    meaW tot cut oth k S.length = (rqf (mkRat ((wt k l : Nat) : Int) (cut.length * (tot.toNat * 24))), 0) ∧ wt k l ≤ 24 := by
  obtain ⟨c, x, js, hc, hx, hj, rfl⟩ := allL_row h
  obtain ⟨hE, k1, k2, k3⟩ := rwE_ok hk
  have hb := alE_bnd hE
  have hin := alPick_in hE (c := c) (l := x) (by omega)
  have hjl := endsL_mem _ _ _ _ hj
  have hsl : (srt (ordF 0 (upto k) js)).length = js.length := by rw [(srt_perm _).length_eq, ordF_len]
  simp only [List.length_nil, Nat.zero_add] at hjl
  have hd : js.length ≤ k := by omega
  have hd1 : 1 ≤ js.length := by omega
  refine ⟨srt (ordF 0 (upto k) js), ?_, ?_, ?_, ?_⟩
  · rw [setW_row hk hc hx hj]
    simp only [List.length_cons, Prod.mk.injEq, true_and]
    omega
  · refine ⟨?_, ?_⟩
    · rw [hsl]; simp only [List.length_cons]
    · simp only [List.length_cons]; omega
  · rw [hsl, meaW_ok (d := (js.length : Int)) hk (by omega), Int.toNat_natCast, Int.toNat_natCast, mea_wt (n := cut.length) (T := tot.toNat) (by omega) (by omega) hk4 hd]
    rfl
  · unfold wt
    exact Nat.div_le_self _ _
theorem take_mapsum {α : Type} (f : α → Nat) {l : List α} {i : Nat} (h : i < l.length) (z : α) [Inhabited α] : ((l.take (i + 1)).map f).sum = ((l.take i).map f).sum + f (l.getD i z) := by
  rw [take_succ' h z, List.map_append, List.sum_append]; simp
theorem take_mapsum_le {α : Type} (f : α → Nat) (m : Nat) {l : List α} (h : ∀ x ∈ l, f x ≤ m) (i : Nat) : ((l.take i).map f).sum ≤ l.length * m := by
  have key : ∀ l : List α, (∀ x ∈ l, f x ≤ m) → (l.map f).sum ≤ l.length * m := by
    intro l
    induction l with
    | nil => simp
    | cons a r ih => intro h; have := h a (by simp); have := ih (fun x hx => h x (by simp [hx])); simp only [List.map_cons, List.sum_cons, List.length_cons, Nat.succ_mul]; omega
  refine Nat.le_trans (key _ fun x hx => h x (List.mem_of_mem_take hx)) ?_
  exact Nat.mul_le_mul_right m (by rw [List.length_take]; omega)
structure WhG where
  i : Nat
  vn : Value
  vd : Value
attribute [local irreducible] Fit pt own ro vw mpc lpt vels rels mow lrc dfr
attribute [local irreducible] lmp lme mit velg relg bnd owl madeT
theorem RowWhole_tr (tv : Value) (tbl : List Int) (kk : Int) : Tr Tryz.prog 8 [tv, I kk] [vw tv (Is tbl)] [] fun v D => v = .bool true ∧ D = [] := by
  have hpk : 0 ≤ pick kk 4 ∧ pick kk 4 ≤ 3 := by unfold pick; rw [if_neg (by decide)]; omega
  obtain ⟨k, hk⟩ : ∃ k : Nat, 1 + pick kk 4 = k := ⟨(1 + pick kk 4).toNat, by omega⟩
  have hk4 : 1 ≤ k ∧ k ≤ 4 := by omega
  by_cases hz : solE (madeT tbl k) k = 0
  rotate_left
  · have hM := made_no tv tbl k hk4 hz
    refine Tr.enter env _ Tryz.func8 (by kernel_rfl) rfl Tryz.ntmps8 rfl (by repeat (first | exact has00 | refine has01 ?_)) fun w0 => ?_
    repeat' first|(refine gca ?_; first|(refine ca RowKnown_tr ?_; rintro _ _ ⟨rfl, rfl⟩)|(refine ca (Pick_tr kk 4 (by decide)) ?_; rintro _ _ ⟨rfl, rfl⟩)|(refine ca hM ?_; rintro _ _ ⟨rfl, rfl⟩))|(refine aw (m := 1 + pick kk 4) ?_; rw [hk])|refine al fun c => ?_|refine srz ?_|(refine wo ?_; first|refine oa ?_)|(refine gc ?_; first|refine ct ?_)|refine sq ?_|refine rg ?_|refine xc ?_|refine nl ?_|refine rt ?_
    exact r1 ⟨rfl, rfl⟩
  have hM := made_yes tv tbl k hk4 hz
  obtain ⟨g1, g2, g3, g4⟩ := allL_ok hk4 hz
  generalize (madeT tbl k).sum = tot at *
  generalize (alF (madeT tbl k)).cut = cut at *
  generalize (alF (madeT tbl k)).oth = oth at *
  obtain ⟨hE, _, _, _⟩ := rwE_ok g1
  have hle := all_le hE (k := k) (by omega)
  have hlo := allL_ge hE (k := k) (by omega)
  have hw := all_wt hE (k := k) (by omega)
  have hpk2 := fun l (h : l ∈ allL tot cut oth k) => row_pack g1 hk4.2 h
  obtain ⟨T, hT⟩ : ∃ T : Nat, tot.toNat = T := ⟨_, rfl⟩
  rw [hT] at hle hlo hw
  simp only [hT] at hpk2
  have hD1 : cut.length * (T * 24) ≤ 4 * (20 * 24) := Nat.mul_le_mul (by omega) (Nat.mul_le_mul_right 24 (by omega))
  have hD0 : cut.length * (T * 24) ≠ 0 := Nat.mul_ne_zero (by omega) (by omega)
  have hL0 : 1 ≤ cut.length * T := Nat.mul_pos (by omega) (by omega)
  have hRW : rowsW tot cut oth k = (allL tot cut oth k, 0) := by unfold rowsW; rw [if_pos g1, Int.toNat_natCast, if_neg (by omega)]
  have hR := fun c o hc ho => Rows_tr tot k c o cut oth hc ho
  simp only [hRW] at hR
  have hSet := fun c o hc ho b r sv l => SetW_tr tot k c o cut oth b r sv (.inr (l, false)) (okL_row l false) hc ho
  have hMea := fun c o hc ho (d : Nat) => MeaW_tr tot k d c o cut oth hc ho
  generalize allL tot cut oth k = L at *
  obtain ⟨D, hDD⟩ : ∃ D, D = cut.length * (T * 24) := ⟨_, rfl⟩
  rw [← hDD] at hle hw hD1 hD0
  simp only [← hDD] at hpk2
  have hone : mkRat (((L.map (wt k)).sum : Nat) : Int) D = mkRat 1 1 := by rw [hw, mk_one D hD0]; rfl
  have hsle := take_mapsum_le (wt k) 24 (l := L) (fun l hl => (hpk2 l hl).choose_spec.2.2.2)
  have hzero : (0 : Rat) = mkRat (((L.take 0).map (wt k)).sum : Nat) D := by simp
  clear hw hRW hE hDD hT
  have hP := FPair_tr 1 1 (by decide) (by decide) (by decide)
  rw [show (((1 : Nat) : Int)) = 1 from rfl, ← hone] at hP
  unfold FQ2 at hP
  have hSR := fun n1 d1 n2 d2 => SameRatio_tr (rqf (mkRat (((L.map (wt k)).sum : Nat) : Int) D)) (rqf (mkRat (((L.map (wt k)).sum : Nat) : Int) D)) n1 d1 n2 d2
  simp only [decide_true] at hSR
  have hA0 := FAdd0_tr
  unfold FQ2 at hA0
  rw [hzero] at hA0
  refine Tr.enter env _ Tryz.func8 (by kernel_rfl) rfl Tryz.ntmps8 rfl (by repeat (first | exact has00 | refine has01 ?_)) fun w0 => ?_
  repeat' first|(refine gca ?_; first|(refine ca RowKnown_tr ?_; rintro _ _ ⟨rfl, rfl⟩)|(refine ca (Pick_tr kk 4 (by decide)) ?_; rintro _ _ ⟨rfl, rfl⟩)|(refine ca hM ?_; rintro _ _ ⟨o1, cv, ov, rfl, ho1, hcv, hov, rfl⟩)|(refine ca (hR cv ov hcv hov) ?_; rintro _ _ ⟨rv1, hs, rfl, hrv, hlr, rfl⟩)|(refine ca hA0 ?_; rintro _ _ ⟨vn, vd, rfl, hvn, hvd, rfl⟩))|(refine aw (m := 1 + pick kk 4) ?_; rw [hk])|refine al fun c => ?_|refine srz ?_|refine lda ?_|(refine wo ?_; first|(refine ao ?_; first|refine oa ?_)|refine oa ?_|refine ln ?_|refine gy ?_)|(refine gc ?_; first|refine cf ?_|(refine ci (fun hB => ?_) (fun hB => ?_) <;> try (exfalso; omega)))|refine sq ?_|refine rg ?_|refine xc ?_|refine nl ?_|refine sk ?_|refine bk ?_
  rename_i c7
  have hFB := fun i => FB_mk1 (a := ((L.take i).map (wt k)).sum) hD0 (by have := hsle i; omega) (by omega)
  clear hA0 hR hM hlo
  refine TC.loop (ι := WhG) (fun g => [(13, I g.i)]) (fun g => [pt c (rrow (mkRat (((L.take g.i).map (wt k)).sum : Nat) D) (g.vn, g.vd)) TRt, own T64 g.vn (Us (dg (mkRat (((L.take g.i).map (wt k)).sum : Nat) D).num.natAbs)), own T64 g.vd (Us (dg (mkRat (((L.take g.i).map (wt k)).sum : Nat) D).den))]) (fun g => g.i ≤ L.length ∧ g.vn.oneCell' = true ∧ g.vd.oneCell' = true) (fun g => L.length - g.i) ⟨0, vn, vd⟩ [1, 5, 7, 9, 11] ⟨Nat.zero_le _, hvn, hvd⟩ ?_
  rintro ⟨i, vn, vd⟩ ⟨hi, hvn, hvd⟩
  dsimp only at hi hvn hvd ⊢
  by_cases hlt : i < L.length
  · have hmem : L.getD i [] ∈ L := by rw [List.getD_eq_getElem?_getD, List.getElem?_eq_getElem hlt]; exact List.getElem_mem hlt
    obtain ⟨S, s1, s2, s3, s4⟩ := hpk2 _ hmem
    have hg1 : hs[i]? = some (hs.getD i nS) := by rw [List.getD_eq_getElem?_getD, List.getElem?_eq_getElem (by omega)]; rfl
    have hS1 := fun b r sv => hSet cv ov hcv hov b r sv (L.getD i [])
    have hM1 := hMea cv ov hcv hov S.length
    have hsu := take_mapsum (wt k) hlt []
    have hAdd := fun lv v1 v2 v3 v4 => FAdd2_tr (mkRat (((L.take i).map (wt k)).sum : Nat) D) (mkRat ((wt k (L.getD i []) : Nat) : Int) D) lv v1 v2 v3 v4 ((hFB i).le (by decide)) ((FB_mk1 hD0 (by omega) (by omega)).le (by decide))
    simp only [mk_add _ _ D hD0, ← hsu] at hAdd
    simp only [s1] at hS1
    rw [s3] at hM1
    unfold FW at hM1
    unfold FQ2 at hAdd
    dsimp only at hM1 hS1
    have hH : ∀ F, owl TLI I hs L ∈ F → Has F (vw (hs.getD i nS) (Is (L.getD i []))) := fun F h => has_elg (g := I) (hs := hs) (ls := L) (has_owl (e := TLI) hlr h) hlt
    clear hpk2 hSet hMea hsle hSR hP hone hzero s1 s3
    generalize hrow : L.getD i [] = row at *
    generalize mkRat ((wt k row : Nat) : Int) D = q1 at *
    obtain ⟨q2, hq2⟩ : ∃ q2, q2 = mkRat (((L.take (i + 1)).map (wt k)).sum : Nat) D := ⟨_, rfl⟩
    rw [← hq2] at hAdd
    obtain ⟨q0, hq0⟩ : ∃ q0, q0 = mkRat (((L.take i).map (wt k)).sum : Nat) D := ⟨_, rfl⟩
    rw [← hq0] at hAdd ⊢
    repeat' first|(refine gca ?_; first|(refine ca (LRow_tr (hs.getD i nS) row (by omega)) ?_ (hp := has1 (hH _ (by (repeat (first | apply List.Mem.head | apply List.Mem.tail)); first | done | fail)) has0); rintro _ _ ⟨b, r, sv, rfl, rfl⟩)|(refine ca (hS1 b r sv) ?_; rintro _ _ ⟨so, sv2, rfl, rfl⟩)|(refine ca hM1 ?_; rintro _ _ ⟨mn, md, rfl, hmn, hmd, rfl⟩)|(refine ca (hAdd _ vn vd mn md) ?_ (hp := has1 (has_oww (by (repeat (first | apply List.Mem.head | apply List.Mem.tail)); first | done | fail)) (has1 (by first | (apply has_vw; (repeat (first | apply List.Mem.head | apply List.Mem.tail)); first | done | fail) | (apply has_own; (repeat (first | apply List.Mem.head | apply List.Mem.tail)); first | done | fail) | (apply has_ro; (repeat (first | apply List.Mem.head | apply List.Mem.tail)); first | done | fail) | apply has_nil | ((with_reducible apply has_el); (focus (first | (apply has_vels; (repeat (first | apply List.Mem.head | apply List.Mem.tail)); first | done | fail) | (apply has_rels; (repeat (first | apply List.Mem.head | apply List.Mem.tail)); first | done | fail))); omega) | (apply has_pt; (repeat (first | apply List.Mem.head | apply List.Mem.tail)); first | done | fail) | (apply has_lpt; (repeat (first | apply List.Mem.head | apply List.Mem.tail)); first | done | fail) | (apply has_vels; (repeat (first | apply List.Mem.head | apply List.Mem.tail)); first | done | fail) | (apply has_rels; (repeat (first | apply List.Mem.head | apply List.Mem.tail)); first | done | fail) | with_reducible assumption | ((with_reducible apply has_elg); (focus (first | (apply has_velg; (repeat (first | apply List.Mem.head | apply List.Mem.tail)); first | done | fail) | (apply has_relg; (repeat (first | apply List.Mem.head | apply List.Mem.tail)); first | done | fail))); omega) | (apply has_velg; (repeat (first | apply List.Mem.head | apply List.Mem.tail)); first | done | fail) | (apply has_relg; (repeat (first | apply List.Mem.head | apply List.Mem.tail)); first | done | fail) | (apply has_vwf; (repeat (first | apply List.Mem.head | apply List.Mem.tail)); first | done | fail) | (apply has_oww; (repeat (first | apply List.Mem.head | apply List.Mem.tail)); first | done | fail)) (has1 (by first | (apply has_vw; (repeat (first | apply List.Mem.head | apply List.Mem.tail)); first | done | fail) | (apply has_own; (repeat (first | apply List.Mem.head | apply List.Mem.tail)); first | done | fail) | (apply has_ro; (repeat (first | apply List.Mem.head | apply List.Mem.tail)); first | done | fail) | apply has_nil | ((with_reducible apply has_el); (focus (first | (apply has_vels; (repeat (first | apply List.Mem.head | apply List.Mem.tail)); first | done | fail) | (apply has_rels; (repeat (first | apply List.Mem.head | apply List.Mem.tail)); first | done | fail))); omega) | (apply has_pt; (repeat (first | apply List.Mem.head | apply List.Mem.tail)); first | done | fail) | (apply has_lpt; (repeat (first | apply List.Mem.head | apply List.Mem.tail)); first | done | fail) | (apply has_vels; (repeat (first | apply List.Mem.head | apply List.Mem.tail)); first | done | fail) | (apply has_rels; (repeat (first | apply List.Mem.head | apply List.Mem.tail)); first | done | fail) | with_reducible assumption | ((with_reducible apply has_elg); (focus (first | (apply has_velg; (repeat (first | apply List.Mem.head | apply List.Mem.tail)); first | done | fail) | (apply has_relg; (repeat (first | apply List.Mem.head | apply List.Mem.tail)); first | done | fail))); omega) | (apply has_velg; (repeat (first | apply List.Mem.head | apply List.Mem.tail)); first | done | fail) | (apply has_relg; (repeat (first | apply List.Mem.head | apply List.Mem.tail)); first | done | fail) | (apply has_vwf; (repeat (first | apply List.Mem.head | apply List.Mem.tail)); first | done | fail) | (apply has_oww; (repeat (first | apply List.Mem.head | apply List.Mem.tail)); first | done | fail)) (has1 (by first | (apply has_vw; (repeat (first | apply List.Mem.head | apply List.Mem.tail)); first | done | fail) | (apply has_own; (repeat (first | apply List.Mem.head | apply List.Mem.tail)); first | done | fail) | (apply has_ro; (repeat (first | apply List.Mem.head | apply List.Mem.tail)); first | done | fail) | apply has_nil | ((with_reducible apply has_el); (focus (first | (apply has_vels; (repeat (first | apply List.Mem.head | apply List.Mem.tail)); first | done | fail) | (apply has_rels; (repeat (first | apply List.Mem.head | apply List.Mem.tail)); first | done | fail))); omega) | (apply has_pt; (repeat (first | apply List.Mem.head | apply List.Mem.tail)); first | done | fail) | (apply has_lpt; (repeat (first | apply List.Mem.head | apply List.Mem.tail)); first | done | fail) | (apply has_vels; (repeat (first | apply List.Mem.head | apply List.Mem.tail)); first | done | fail) | (apply has_rels; (repeat (first | apply List.Mem.head | apply List.Mem.tail)); first | done | fail) | with_reducible assumption | ((with_reducible apply has_elg); (focus (first | (apply has_velg; (repeat (first | apply List.Mem.head | apply List.Mem.tail)); first | done | fail) | (apply has_relg; (repeat (first | apply List.Mem.head | apply List.Mem.tail)); first | done | fail))); omega) | (apply has_velg; (repeat (first | apply List.Mem.head | apply List.Mem.tail)); first | done | fail) | (apply has_relg; (repeat (first | apply List.Mem.head | apply List.Mem.tail)); first | done | fail) | (apply has_vwf; (repeat (first | apply List.Mem.head | apply List.Mem.tail)); first | done | fail) | (apply has_oww; (repeat (first | apply List.Mem.head | apply List.Mem.tail)); first | done | fail)) (has1 (by first | (apply has_vw; (repeat (first | apply List.Mem.head | apply List.Mem.tail)); first | done | fail) | (apply has_own; (repeat (first | apply List.Mem.head | apply List.Mem.tail)); first | done | fail) | (apply has_ro; (repeat (first | apply List.Mem.head | apply List.Mem.tail)); first | done | fail) | apply has_nil | ((with_reducible apply has_el); (focus (first | (apply has_vels; (repeat (first | apply List.Mem.head | apply List.Mem.tail)); first | done | fail) | (apply has_rels; (repeat (first | apply List.Mem.head | apply List.Mem.tail)); first | done | fail))); omega) | (apply has_pt; (repeat (first | apply List.Mem.head | apply List.Mem.tail)); first | done | fail) | (apply has_lpt; (repeat (first | apply List.Mem.head | apply List.Mem.tail)); first | done | fail) | (apply has_vels; (repeat (first | apply List.Mem.head | apply List.Mem.tail)); first | done | fail) | (apply has_rels; (repeat (first | apply List.Mem.head | apply List.Mem.tail)); first | done | fail) | with_reducible assumption | ((with_reducible apply has_elg); (focus (first | (apply has_velg; (repeat (first | apply List.Mem.head | apply List.Mem.tail)); first | done | fail) | (apply has_relg; (repeat (first | apply List.Mem.head | apply List.Mem.tail)); first | done | fail))); omega) | (apply has_velg; (repeat (first | apply List.Mem.head | apply List.Mem.tail)); first | done | fail) | (apply has_relg; (repeat (first | apply List.Mem.head | apply List.Mem.tail)); first | done | fail) | (apply has_vwf; (repeat (first | apply List.Mem.head | apply List.Mem.tail)); first | done | fail) | (apply has_oww; (repeat (first | apply List.Mem.head | apply List.Mem.tail)); first | done | fail)) has0))))); rintro _ _ ⟨vn2, vd2, rfl, hvn2, hvd2, rfl⟩))|refine le (xs := hs) ?_ (hj := hg1)|refine qle (xs := hs) ?_ (hj := hg1)|refine al fun c17 => ?_|refine srz ?_ (hj := Nat.le_of_ble_eq_true rfl)|refine lda ?_|refine qlnm (l := row) (g := I) ?_ (hh := hH _ (by (repeat (first | apply List.Mem.head | apply List.Mem.tail)); first | done | fail))|refine qca (Used_tr b r (.inr ([], false)) row.length) (v := I row.length) (fun _ _ h => h) ?_ (hp := has1 (has_lot (by (repeat (first | apply List.Mem.head | apply List.Mem.tail)); first | done | fail)) has0)|refine qca (Left_tr b r sv2 [] false row.length) (v := I 0) (fun _ _ h => h) ?_ (hp := has1 (has_bnd (C := [pt b [.iface TpR (ptr r), I row.length, .bool false] TLo, pt r [sv2] TLr, own TLI sv2 (Is [])]) (by (repeat (first | apply List.Mem.head | apply List.Mem.tail)); first | done | fail) (has_pt (List.Mem.head _))) (has1 (has_bnd (C := [pt b [.iface TpR (ptr r), I row.length, .bool false] TLo, pt r [sv2] TLr, own TLI sv2 (Is [])]) (by (repeat (first | apply List.Mem.head | apply List.Mem.tail)); first | done | fail) (has_pt (List.Mem.tail _ (List.Mem.head _)))) (has1 (has_bnd (C := [pt b [.iface TpR (ptr r), I row.length, .bool false] TLo, pt r [sv2] TLr, own TLI sv2 (Is [])]) (by (repeat (first | apply List.Mem.head | apply List.Mem.tail)); first | done | fail) (has_own (List.Mem.tail _ (List.Mem.tail _ (List.Mem.head _))))) has0)))|refine slws fun g2 => ?_|(refine wo ?_; first|(refine ao ?_; first|refine aw ?_|refine oa ?_)|refine oa ?_|refine lnm ?_|refine ln ?_|refine ixn ?_)|(refine gc ?_; first|refine cf ?_|(refine ci (fun hB => ?_) (fun hB => ?_) <;> try (exfalso; omega)))|refine sq ?_|refine rg ?_|refine xc ?_|refine nl ?_|refine sk ?_|refine bk ?_|refine xb ?_|refine rq ?_|refine nq ?_|(refine wq ?_; first|(refine qao ?_; first|refine qaw ?_|refine qa ?_)|refine qa ?_|refine qlnm ?_|refine qixn ?_|refine qgy ?_|(refine qgsn (fun hB => ?_) (fun hB => ?_) <;> try (exfalso; omega)))
    exact lp ⟨i + 1, vn2, vd2⟩ ⟨hlt, hvn2, hvd2⟩ (hf := by dsimp only; rw [← hq2]; first | apply Fit.all | ((repeat (first | (apply Fit.nilN; (repeat (first | apply nrm_nil | apply nrm_cons)); try apply nrm_rfl) | (apply Fit.cons; focus ((repeat (first | apply Tk.here | apply Tk.there)); first | done | fail)))); first | done | fail))
  · obtain rfl : i = L.length := by omega
    rw [List.take_length]
    generalize mkRat (((L.map (wt k)).sum : Nat) : Int) D = q0 at *
    repeat' first|(refine gca ?_; first|(refine ca hP ?_; rintro _ _ ⟨n2, d2, rfl, hn2, hd2, rfl⟩)|(refine ca (hSR vn vd n2 d2) ?_; rintro _ _ ⟨rfl, rfl⟩))|refine al fun c => ?_|refine srz ?_|refine lda ?_|(refine wo ?_; first|(refine ao ?_; first|refine oa ?_)|refine oa ?_|refine ln ?_|refine gy ?_)|(refine gc ?_; first|(refine ci (fun hB => ?_) (fun hB => ?_) <;> try (exfalso; omega)))|refine sq ?_|refine rg ?_|refine xc ?_|refine nl ?_|refine xe ?_|refine rt ?_
    exact r1 ⟨rfl, rfl⟩
end Go.Art
