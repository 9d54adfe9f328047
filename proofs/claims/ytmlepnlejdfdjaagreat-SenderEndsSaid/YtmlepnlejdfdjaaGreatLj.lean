/- Texts put together: Sv Tw Lr Ls. Conditions: none. -/
import Derived.Test.YtmlepnlejdfdjaaGreatLi
set_option linter.unusedSimpArgs false
set_option linter.unusedVariables false
namespace Go.Art.Sn
open Go Go.Proofs Go.RowKit Go.Art
section
variable {P : Program} {E : Env P} {n : Sh} {X : Cx} {s : List K} {fr : Fr} {A : List Ch} {ops : Array Oper} {rest : List Oper} {d : Nat} {ty t t' : TypeId} {pos : String} {after : Array Edge} {x y : Operand} {b1 b2 : Bool}
theorem R_bne {w : World} (hx : ev fr x = some (.bool b1)) (hy : ev fr y = some (.bool b2)) (ht : lk E.und t = some .bool) : OpV P n fr (.binOp .neq t x y t') ty w (.bool (!(b1 == b2))) w := ⟨fun a ha _ _ _ _ => by
  have hg : (eqGuard .neq t x y (.bool b1) (.bool b2)).run P w = .ok () w := rfl
  simp only [execOp, ha.ev hx, ha.ev hy]
  simp [hg, run_neq_bool (P := P) w t b1 b2 (E.un ht)]⟩
theorem ibn (k : TO E n X s ops rest ((d, .bool (!(b1 == b2))) :: fr) A) (hx : ev fr x = some (.bool b1) := by rfl) (hy : ev fr y = some (.bool b2) := by rfl) (ht : lk E.und t = some .bool := by rfl) (hd : Nat.blt d n.n = true := by rfl) :
    TO E n X s ops (⟨some d, .binOp .neq t x y t', ty, pos, after, none⟩ :: rest) fr A := TO.val (fun _ _ => R_bne hx hy ht) k hd
theorem qibn (k : TQ E n X s ops rest ((d, .bool (!(b1 == b2))) :: fr) A) (hx : ev fr x = some (.bool b1) := by rfl) (hy : ev fr y = some (.bool b2) := by rfl) (ht : lk E.und t = some .bool := by rfl) (hd : Nat.blt d n.n = true := by rfl) :
    TQ E n X s ops (⟨some d, .binOp .neq t x y t', ty, pos, after, none⟩ :: rest) fr A := TQ.val (fun _ _ => R_bne hx hy ht) k hd
end
/-- A tick of one that waits. -/
theorem tick_wait {s : SP} (h : s.st = 1) : s.tick = if s.tmo ≤ s.sil + 1 then ({ s with sil := s.sil + 1, st := if s.bud = 0 then 4 else 5 }, [(putR 4 s.ses 0 0 (if s.bud = 0 then 1 else 2) []).1]) else ({ s with sil := s.sil + 1 }, [(putR 5 s.ses 0 0 0 s.ob).1]) := by
  rw [SP.tick, if_pos (.inl h)]
  split
  · rfl
  · split
    · rfl
    · rfl
/-- A datagram that is not its session's receiver's. -/
theorem take_odd {s : SP} {l : List Int} (h : (pgetR l).2 ≠ 0 ∨ sndB (pgetR l).1 = true ∨ (pgetR l).1.sn ≠ s.ses) : ∃ e, e ≠ 0 ∧ s.take l = ((s, []), e) := by
  unfold SP.take
  split
  · rename_i h0
    split
    · exact ⟨2, by decide, rfl⟩
    · rename_i h1
      split
      · rename_i h2
        rcases h with h | h | h
        · exact absurd h0 h
        · exact absurd h h1
        · exact absurd h2 h
      · exact ⟨16, by decide, rfl⟩
  · rename_i h0
    exact ⟨_, h0, rfl⟩
theorem wB_in (t : List Int) (n : Nat) : inB (wB t n) := by
  unfold wB
  intro x hx
  obtain ⟨l, hl, hx⟩ := List.mem_flatten.1 hx
  obtain ⟨y, _, rfl⟩ := List.mem_map.1 hl
  exact beB_in 4 y x hx
theorem headB_in (m : MfS) : inB (headB m 5) := by
  unfold headB
  repeat (first | exact inB.nil | exact beB_in _ _ | apply inB.app)
theorem bytes_in (m : MfS) : inB m.bytes := by unfold MfS.bytes; exact (headB_in m).app (wB_in m.t _)
theorem open_ok {ses : Int} (m : MfS) (hs : 0 ≤ ses ∧ ses ≤ 4294967295) (ht : m.t.length ≤ 10000) : pkOk 5 ses 0 0 0 m.bytes.length := by
  have := bytes_len m
  refine ⟨by decide, hs, by decide, by decide, ?_, by decide, by decide⟩
  have e : frmD 5 = true := by decide
  rw [e, cond_true, cond_true]
  omega
theorem newSE_ok {m : MfS} {d : List Int} {ses bud tmo : Int} (h : newSE m d ses bud tmo = 0) : m.ok ∧ (d.length : Int) = m.size ∧ (0 ≤ ses ∧ ses ≤ 4294967295) ∧ (0 ≤ bud ∧ bud ≤ 2147483647) ∧ 1 ≤ tmo ∧ tmo ≤ 2147483647 := by
  unfold newSE at h
  split at h
  · rename_i h1
    split at h
    · rename_i h2; exact ⟨h1.1, h1.2, h2.1, h2.2.1, h2.2.2⟩
    · cases h
  · cases h
theorem MfS.ok_t {m : MfS} (h : m.ok) : m.t.length ≤ 10000 := by
  obtain ⟨_, _, h3, _, h5⟩ := h
  exact (mtB_sol h3 h5).2
theorem has_wf_nil {F : List Ch} : Has F (vwf nS 0 []) := ⟨fun _ _ => ⟨none, 0, rfl, Nat.le_refl _, Nat.zero_le _, fun h => absurd h (Nat.lt_irrefl _), fun i u hi => by simp at hi⟩, fun _ h => h, fun _ h => h, fun b hb => by
  rcases hb with hb | hb | hb
  · exact hb.elim
  · exact hb.elim
  · exact absurd rfl hb.1⟩
attribute [local irreducible] Fit pt own ro vw mpc lpt vels rels mow lrc dfr
attribute [local irreducible] lmp lme mit velg relg vwf frz prs chp SP.tick SP.take
set_option maxHeartbeats 4000000 in
theorem SenderEnds_tr (m : MfS) (tv dv : Value) (d : List Int) (ses bud tmo : Int) (b : Value) (l : List Int) (htv : tv.oneCell' = true) (hdv : dv.oneCell' = true) (hb1 : b.oneCell' = true) (hsd : m.seed ≤ 9223372036854775807) (hin : inB l) :
    Tr Tryz.prog 3 [.agg #[I m.size, I m.sym, I m.k, I m.seed, tv, dv, I ses, I bud, I tmo], b] [vw tv (Is m.t), vw dv (By d), vw b (By l)] [] fun r D => r = .bool true ∧ D = [] := by
  have hP := Pick_tr tmo 60 (by decide)
  have hpk := pick_in tmo (n := 60) (by decide)
  generalize pick tmo 60 = u at *
  have hL := Long_tr m tv dv d ses bud (1 + u) nS [] [] [] rfl htv hdv
  have hN := fun hd => SNew_tr m tv dv d ses bud (1 + u) htv hsd hd
  have hbl := By_len l
  refine Tr.enter env _ Tryz.func3 (by kernel_rfl) rfl Tryz.ntmps3 rfl (by repeat (first | exact has00 | refine has01 ?_)) fun w0 => ?_
  refine sq ?_
  refine rg ?_
  refine bx fun q => ?_
  refine oa ?_
  refine nl ?_
  refine xc ?_
  refine sq ?_
  refine rg ?_
  refine ca awake_tr ?_
  rintro _ _ ⟨rfl, rfl⟩
  refine oa ?_
  refine nl ?_
  refine xc ?_
  repeat' first|(refine gca ?_; first|(refine ca hP ?_; rintro _ _ ⟨rfl, rfl⟩)|(refine ca hL ?_ (hp := has1 (has_vw (by (repeat (first | apply List.Mem.head | apply List.Mem.tail)); first | done | fail)) (has1 (has_vw (by (repeat (first | apply List.Mem.head | apply List.Mem.tail)); first | done | fail)) (has1 has_wf_nil (has1 has_elg_nil has0)))); rintro _ _ ⟨bb, rfl, rfl, hbb⟩; cases bb))|refine sq_cutX (a := .seq (.region 3 _ _) _) (ι := Unit) (fun _ => d.length ≤ 2000 ∧ l.length ≤ 400) (fun _ => [(1, b), (2, ptr q), (4, .bool false), (5, .bool true)]) (fun _ => [pt q [I m.size, I m.sym, I m.k, I m.seed, tv, dv, I ses, I bud, I (1 + u)] 27, vw tv (Is m.t), vw dv (By d), vw b (By l)]) ?_ (fun kb => ?_)|refine lda ?_|(refine ln (xs := By l) ?_; rw [hbl])|exact kb () ⟨(hbb rfl).1, by omega⟩ _ _ (by (repeat (refine Sub.cons rfl (by first | rfl | go_num) ?_)); exact Sub.nil) (by first | apply Fit.all | ((repeat (first | (apply Fit.nilN; (repeat (first | apply nrm_nil | apply nrm_cons)); try apply nrm_rfl) | (apply Fit.cons; focus ((repeat (first | apply Tk.here | apply Tk.there)); first | done | fail)))); first | done | fail))|(refine wo ?_; first|(refine ao ?_; first|refine aw ?_|refine oa ?_)|refine oa ?_|refine ld ?_|refine sr ?_|refine gy ?_|refine gn ?_)|(refine gc ?_; first|refine ct ?_|(refine ci (fun hB => ?_) (fun hB => ?_) <;> try (exfalso; omega)))|refine sq ?_|refine rg ?_|refine xc ?_|refine nl ?_|refine sk ?_|refine rt ?_
  rotate_left
  · exact r1 ⟨rfl, rfl⟩
  · exact r1 ⟨rfl, rfl⟩
  rintro _ ⟨hd2, hl4⟩
  have hN := hN (by omega)
  by_cases hE : newSE m d ses bud (1 + u) = 0
  rotate_left
  · have hN := hN.mono (R' := fun v D => v = tup2 nP (I (newSE m d ses bud (1 + u))) ∧ D = []) (by rintro v D (⟨h0, _⟩ | ⟨_, h⟩); exact absurd h0 hE; exact h)
    repeat' first|(refine gca ?_; first|(refine ca hN ?_; rintro _ _ ⟨rfl, rfl⟩))|refine lda ?_|(refine wo ?_; first|(refine ao ?_; first|refine oa ?_|refine ipn ?_|refine ibe ?_)|refine oa ?_|refine ld ?_|refine gy ?_|refine gn ?_|(refine gsn (fun hB => ?_) (fun hB => ?_) <;> try (exfalso; omega)))|(refine gc ?_; first|refine ct ?_)|refine sq ?_|refine rg ?_|refine xc ?_|refine nl ?_|refine rt ?_
    exact r1 (v := .bool (decide (newSE m d ses bud (1 + u) = 0) == false)) ⟨by rw [decide_eq_false hE]; rfl, rfl⟩
  have hN := hN.mono (R' := fun v D => ∃ p h, v = tup2 (ptr p) (I 0) ∧ (SP.new m d ses bud (1 + u)).ok h ∧ D = sndP p h (SP.new m d ses bud (1 + u))) (by rintro v D (⟨_, h⟩ | ⟨h0, _⟩); exact h; exact absurd hE h0)
  obtain ⟨hmo, _, hses, hbud, _⟩ := newSE_ok hE
  have hmt := MfS.ok_t hmo
  have hs0 : (SP.new m d ses bud (1 + u)).ses = ses ∧ (SP.new m d ses bud (1 + u)).tmo = 1 + u ∧ (SP.new m d ses bud (1 + u)).bud = bud ∧ (SP.new m d ses bud (1 + u)).ob = m.bytes ∧ (SP.new m d ses bud (1 + u)).st = 1 ∧ (SP.new m d ses bud (1 + u)).sil = 0 := ⟨rfl, rfl, rfl, rfl, rfl, rfl⟩
  generalize SP.new m d ses bud (1 + u) = s0 at *
  obtain ⟨hs1, hs2, hs3, hs4, hs5, hs6⟩ := hs0
  repeat' first|(refine gca ?_; first|(refine ca hN ?_; rintro _ _ ⟨p, h, rfl, hok0, rfl⟩))|refine lda ?_|(refine wo ?_; first|(refine ao ?_; first|refine oa ?_|refine ipe ?_)|refine oa ?_|refine ld ?_|refine gy ?_)|(refine gc ?_; first|refine cf ?_)|refine sq ?_|refine rg ?_|refine xc ?_|refine nl ?_|refine sk ?_|refine bk ?_
  refine TC.loop (ι := Nat × SP) (fun g => [(8, I g.1)]) (fun g => sndP p h g.2) (fun g => 1 ≤ g.1 ∧ (g.1 : Int) ≤ 2 + u ∧ g.2.ok h ∧ g.2.ses = ses ∧ g.2.tmo = 1 + u ∧ g.2.bud = bud ∧ g.2.ob = m.bytes ∧ ((g.1 : Int) ≤ 1 + u → g.2.st = 1 ∧ g.2.sil + 1 = g.1) ∧ ((g.1 : Int) = 2 + u → g.2.st = if bud = 0 then 4 else 5)) (fun g => 100 - g.1) (1, s0) [1, 2, 4, 5, 6] ⟨by simp, by dsimp only; omega, hok0, hs1, hs2, hs3, hs4, fun _ => ⟨hs5, by dsimp only; omega⟩, fun h => by dsimp only at h; omega⟩ ?_ (hf := by first | apply Fit.all | ((repeat (first | (apply Fit.nilN; (repeat (first | apply nrm_nil | apply nrm_cons)); try apply nrm_rfl) | (apply Fit.cons; focus ((repeat (first | apply Tk.here | apply Tk.there)); first | done | fail)))); first | done | fail))
  rintro ⟨t, s⟩ ⟨h1, h2, hks, hs1, hs2, hs3, hs4, hrun, hend⟩
  dsimp only at h1 h2 hks hs1 hs2 hs3 hs4 hrun hend
  by_cases hlt : (t : Int) ≤ 1 + u
  rotate_left
  · have hst := hend (by omega)
    by_cases hb0 : bud = 0
    · rw [if_pos hb0] at hst
      repeat' first|(refine gca ?_; first|(refine ca (State_is p h s 4 hst) ?_; rintro _ _ ⟨rfl, rfl⟩))|(refine wo ?_; first|(refine ao ?_; first|refine oa ?_)|refine oa ?_|refine ld ?_|refine gy ?_)|(refine gc ?_; first|(refine ci (fun hB => ?_) (fun hB => ?_) <;> try (exfalso; omega)))|refine sq ?_|refine rg ?_|refine xc ?_|refine nl ?_|refine xe ?_|refine rt ?_
      all_goals first | (exfalso; omega) | exact r1 ⟨rfl, rfl⟩
    · rw [if_neg hb0] at hst
      repeat' first|(refine gca ?_; first|(refine ca (State_is p h s 5 hst) ?_; rintro _ _ ⟨rfl, rfl⟩))|(refine wo ?_; first|(refine ao ?_; first|refine oa ?_)|refine oa ?_|refine ld ?_|refine gy ?_)|(refine gc ?_; first|(refine ci (fun hB => ?_) (fun hB => ?_) <;> try (exfalso; omega)))|refine sq ?_|refine rg ?_|refine xc ?_|refine nl ?_|refine sk ?_|refine xe ?_|refine rt ?_
      all_goals first | (exfalso; omega) | exact r1 ⟨rfl, rfl⟩
  obtain ⟨hst, hsil⟩ := hrun hlt
  obtain ⟨s', κ, r, pl, B, hTk, hgB, hinB, hlenB, hok', e1, e2, e3, e4, hfin, hnx⟩ : ∃ (s' : SP) (κ r : Int) (pl B : List Int), s.tick = (s', [B]) ∧ pgetR B = (⟨κ, ses, 0, 0, r, pl⟩, 0) ∧ inB B ∧ B.length ≤ 1099511627776 ∧ s'.ok h ∧ s'.ses = ses ∧ s'.tmo = 1 + u ∧ s'.bud = bud ∧ s'.ob = m.bytes ∧
      ((decide (2 < s'.st) == decide ((t : Int) = 1 + u)) = true ∧ (decide (κ = 4) == decide ((t : Int) = 1 + u)) = true) ∧ (((t : Int) + 1 ≤ 1 + u → s'.st = 1 ∧ s'.sil + 1 = t + 1) ∧ ((t : Int) + 1 = 2 + u → s'.st = if bud = 0 then 4 else 5)) := by
    have hok' := tick_ok hks
    have hw := tick_wait hst
    by_cases hl : s.tmo ≤ s.sil + 1
    · rw [if_pos hl] at hw
      rw [hw] at hok'
      rw [hs3, hs1] at hw
      have hr : (if bud = 0 then (1 : Int) else 2) = 1 ∨ (if bud = 0 then (1 : Int) else 2) = 2 := by split; exact .inl rfl; exact .inr rfl
      refine ⟨_, 4, _, [], _, hw, ab_get hses hr, putR_in _ _ _ _ _ inB.nil, ab_len _ _, by rw [hs3, hs1] at hok'; exact hok', by first | rfl | exact hs1, by first | rfl | exact hs2, by first | rfl | exact hs3, by first | rfl | exact hs4, ⟨?_, ?_⟩, fun h => by omega, fun _ => rfl⟩
      · dsimp only
        rw [decide_eq_true (show (2 : Int) < if bud = 0 then 4 else 5 by split <;> decide), decide_eq_true (show (t : Int) = 1 + u by omega)]; rfl
      · rw [decide_eq_true (show (t : Int) = 1 + u by omega)]; rfl
    · rw [if_neg hl] at hw
      rw [hw] at hok'
      rw [hs4, hs1] at hw
      refine ⟨_, 5, 0, m.bytes, _, hw, pk_back (open_ok m hses hmt), putR_in _ _ _ _ _ (bytes_in m), ?_, by rw [hs4, hs1] at hok'; exact hok', by first | rfl | exact hs1, by first | rfl | exact hs2, by first | rfl | exact hs3, by first | rfl | exact hs4, ⟨?_, ?_⟩, fun _ => ⟨hst, by dsimp only; omega⟩, fun h => by omega⟩
      · have h1 := putR_len 5 ses 0 0 0 m.bytes
        have h2 := bytes_len m
        omega
      · dsimp only
        rw [hst, decide_eq_false (show ¬ (t : Int) = 1 + u by omega)]; rfl
      · rw [decide_eq_false (show ¬ (t : Int) = 1 + u by omega)]; rfl
  obtain ⟨hd1, hd2'⟩ := hfin
  have hT := Tick_tr p h s hks
  rw [hTk] at hT
  dsimp only at hT
  have hG := fun b => PGet_tr b B hlenB hinB
  rw [hgB] at hG
  dsimp only at hG
  have hG0 := PGet_tr b l (by omega) hin
  have hpk0 := fun h => pgetR_ok (l := l) h
  have hodd := fun hc => take_odd (s := s) (l := l) hc
  have hTa := Take_tr p h s hks b l (by omega) hin hb1
  rw [hs1] at hodd
  have hS0 := fun dv hd => Sends_tr (pgetR l).1.kd (pgetR l).1.sn (pgetR l).1.bn (pgetR l).1.pn (pgetR l).1.rn dv (pgetR l).1.l hd
  clear hTk hgB hok0 hN
  generalize pgetR l = G at *
  obtain ⟨⟨kd, sn, bn, pn, rn, bl⟩, e⟩ := G
  dsimp only at hodd hG0 hS0 hpk0
  repeat' first|(refine gca ?_; first|(refine ca hG0 ?_; rintro _ _ ⟨dv0, rfl, hdv0, rfl⟩))|refine sq_cutX (a := .seq (.region 12 _ _) _) (ι := Unit) (fun _ => True) (fun _ => [(1, b), (2, ptr q), (4, .bool false), (5, .bool true), (6, ptr p), (8, I t)]) (fun _ => sndP p h s ++ [pt q [I m.size, I m.sym, I m.k, I m.seed, tv, dv, I ses, I bud, I (1 + u)] 27, vw tv (Is m.t), vw dv (By d), vw b (By l)]) ?_ (fun kb => ?_)|refine al fun z => ?_|refine srz ?_|refine lda ?_|(refine wo ?_; first|(refine ao ?_; first|refine oa ?_)|refine oa ?_|refine ld ?_|refine gy ?_|refine gn ?_|(refine gsn (fun hB => ?_) (fun hB => ?_) <;> try (exfalso; omega)))|(refine gc ?_; first|refine ct ?_|(refine ci (fun hB => ?_) (fun hB => ?_) <;> try (exfalso; omega)))|refine sq ?_|refine rg ?_|refine xc ?_|refine nl ?_|refine sk ?_|refine bk ?_
  · rintro _ _
    repeat' first|(refine gca ?_; first|(refine ca hT ?_; rintro _ _ ⟨o, os, rfl, ho, hos, rfl⟩; have hos1 : os.length = 1 := hos)|(refine ca (hG (os.getD 0 nS)) ?_ (hp := has1 (has_elg (g := y8) (ls := [B]) (i := 0) (has_relg (by (repeat (first | apply List.Mem.head | apply List.Mem.tail)); first | done | fail)) (by simp)) has0); rintro _ _ ⟨dv1, rfl, hdv1, rfl⟩))|(refine qln (xs := os) ?_; rw [hos1])|(refine qca (v := I s'.st) (State_tr p s'.ses s'.bud s'.tmo s'.last s'.sil s'.st h.opn h.pts h.ack h.c) (by rintro u D ⟨rfl, rfl⟩; exact ⟨rfl, rfl⟩) ?_)|(refine qca (v := .bool (decide (2 < s'.st))) (over_tr s'.st) (by rintro u D ⟨rfl, rfl⟩; exact ⟨rfl, rfl⟩) ?_)|(refine qibn ?_; rw [hd1])|(refine ibn ?_; rw [hd2'])|refine al fun z => ?_|refine srz ?_|(refine wo ?_; first|(refine ao ?_; first|refine aw ?_|refine oa ?_)|refine oa ?_|refine ld ?_|refine lv ?_|refine ix ?_|refine gy ?_)|(refine gc ?_; first|refine cf ?_)|refine sq ?_|refine rg ?_|refine xc ?_|refine nl ?_|refine sk ?_|refine xb ?_|refine rq ?_|refine nq ?_|(refine wq ?_; first|(refine qao ?_; first|refine qa ?_)|refine qa ?_|refine qld ?_|refine qgy ?_)
    all_goals first | (exfalso; omega) | skip
    exact lp (t + 1, s') ⟨by dsimp only; omega, by dsimp only; omega, hok', e1, e2, e3, e4, by dsimp only; exact hnx.1, by dsimp only; exact hnx.2⟩
  · obtain ⟨e', hne, ht⟩ := hodd (.inl hB)
    rw [ht] at hTa
    dsimp only at hTa
    repeat' first|(refine gca ?_; first|(refine ca hS0 ?_; rintro _ _ ⟨rfl, rfl⟩)|(refine ca hTa ?_; rintro _ _ ⟨o, os, rfl, ho, hos, rfl⟩))|exact kb () trivial _ _ (by (repeat (refine Sub.cons rfl (by first | rfl | go_num) ?_)); exact Sub.nil) (by first | apply Fit.all | ((repeat (first | (apply Fit.nilN; (repeat (first | apply nrm_nil | apply nrm_cons)); try apply nrm_rfl) | (apply Fit.cons; focus ((repeat (first | apply Tk.here | apply Tk.there)); first | done | fail)))); first | done | fail))|refine lda ?_|(refine wo ?_; first|(refine ao ?_; first|refine oa ?_)|refine oa ?_)|(refine gc ?_; first|(refine ci (fun hB => ?_) (fun hB => ?_) <;> try (exfalso; omega)))|refine sq ?_|refine rg ?_|refine xc ?_|refine nl ?_|refine sk ?_
    all_goals (exfalso; omega)
  · have hS0 := hS0 dv0 hdv0
    rcases Bool.eq_false_or_eq_true (sndB ⟨kd, sn, bn, pn, rn, bl⟩) with hsb | hsb
    · obtain ⟨e', hne, ht⟩ := hodd (.inr (.inl hsb))
      rw [ht] at hTa
      dsimp only at hTa
      rw [hsb] at hS0
      repeat' first|(refine gca ?_; first|(refine ca hS0 ?_; rintro _ _ ⟨rfl, rfl⟩)|(refine ca hTa ?_; rintro _ _ ⟨o, os, rfl, ho, hos, rfl⟩))|exact kb () trivial _ _ (by (repeat (refine Sub.cons rfl (by first | rfl | go_num) ?_)); exact Sub.nil) (by first | apply Fit.all | ((repeat (first | (apply Fit.nilN; (repeat (first | apply nrm_nil | apply nrm_cons)); try apply nrm_rfl) | (apply Fit.cons; focus ((repeat (first | apply Tk.here | apply Tk.there)); first | done | fail)))); first | done | fail))|refine lda ?_|(refine wo ?_; first|(refine ao ?_; first|refine oa ?_)|refine oa ?_|refine gn ?_)|(refine gc ?_; first|refine ct ?_|(refine ci (fun hB => ?_) (fun hB => ?_) <;> try (exfalso; omega)))|refine sq ?_|refine rg ?_|refine xc ?_|refine nl ?_|refine sk ?_
      all_goals (exfalso; omega)
    · rw [hsb] at hS0
      by_cases hsn : sn = ses
      · repeat' first|(refine gca ?_; first|(refine ca hS0 ?_; rintro _ _ ⟨rfl, rfl⟩)|(refine ca hTa ?_; rintro _ _ ⟨o, os, rfl, ho, hos, rfl⟩))|exact kb () trivial _ _ (by (repeat (refine Sub.cons rfl (by first | rfl | go_num) ?_)); exact Sub.nil) (by first | apply Fit.all | ((repeat (first | (apply Fit.nilN; (repeat (first | apply nrm_nil | apply nrm_cons)); try apply nrm_rfl) | (apply Fit.cons; focus ((repeat (first | apply Tk.here | apply Tk.there)); first | done | fail)))); first | done | fail))|refine lda ?_|(refine wo ?_; first|(refine ao ?_; first|refine oa ?_)|refine oa ?_|refine ld ?_|refine gy ?_)|(refine gc ?_; first|(refine cn (fun hB => ?_) (fun hB => ?_) <;> try (exfalso; omega)))|refine xc ?_|refine nl ?_|refine sk ?_
        all_goals (exfalso; omega)
      · obtain ⟨e', hne, ht⟩ := hodd (.inr (.inr hsn))
        rw [ht] at hTa
        dsimp only at hTa
        repeat' first|(refine gca ?_; first|(refine ca hS0 ?_; rintro _ _ ⟨rfl, rfl⟩)|(refine ca hTa ?_; rintro _ _ ⟨o, os, rfl, ho, hos, rfl⟩))|exact kb () trivial _ _ (by (repeat (refine Sub.cons rfl (by first | rfl | go_num) ?_)); exact Sub.nil) (by first | apply Fit.all | ((repeat (first | (apply Fit.nilN; (repeat (first | apply nrm_nil | apply nrm_cons)); try apply nrm_rfl) | (apply Fit.cons; focus ((repeat (first | apply Tk.here | apply Tk.there)); first | done | fail)))); first | done | fail))|refine lda ?_|(refine wo ?_; first|(refine ao ?_; first|refine oa ?_)|refine oa ?_|refine ld ?_|refine gy ?_)|(refine gc ?_; first|(refine ci (fun hB => ?_) (fun hB => ?_) <;> try (exfalso; omega))|(refine cn (fun hB => ?_) (fun hB => ?_) <;> try (exfalso; omega)))|refine sq ?_|refine rg ?_|refine xc ?_|refine nl ?_|refine sk ?_
        all_goals (exfalso; omega)
end Go.Art.Sn
set_option linter.unusedSimpArgs false
set_option linter.unusedVariables false
namespace Go.Art.Sn
open Go Go.Proofs Go.RowKit Go.Art
theorem bxr_in (p q : Int) : 0 ≤ bxr p q ∧ bxr p q ≤ 255 := by
  unfold bxr
  have := (BitVec.ofInt 8 p ^^^ BitVec.ofInt 8 q).isLt
  omega
theorem xorL_in : ∀ (l m : List Int), inB (xorL l m)
  | [], _ => inB.nil
  | _ :: _, [] => inB.nil
  | p :: l, q :: m => inB.cons (bxr_in p q) (xorL_in l m)
theorem sumL_in (ls : List (List Int)) (is : List Int) : inB (sumL ls is) := by
  unfold sumL
  cases is.length with
  | zero =>
    intro x hx
    obtain ⟨_, rfl⟩ := List.mem_replicate.1 hx
    omega
  | succ i => exact xorL_in _ _
theorem syms_size {m : MfS} (hok : m.ok) (d : List Int) (n : Int) : ∀ l ∈ m.syms d n, (l.length : Int) = m.sym := by
  intro l hl
  unfold MfS.syms chL at hl
  obtain ⟨i, _, rfl⟩ := List.mem_map.1 hl
  unfold chP
  rw [padL_len (by rw [List.length_take]; omega)]
  have := hok.2.1
  omega
/-- What an encoder has of a number. -/
theorem pkt_ok {m : MfS} (hok : m.ok) {d : List Int} {a id : Int} (hE : newE m.t a (m.syms d a) = 0) (hid : numOk id) :
    ((pktW m.t (m.syms d a) m.seed a id).1.length : Int) = m.sym ∧ inB (pktW m.t (m.syms d a) m.seed a id).1 ∧ (pktW m.t (m.syms d a) m.seed a id).2 = 0 := by
  obtain ⟨hb0, hs0, hn0⟩ := newE_zero hE
  obtain ⟨hz, hr, hl1, hl2⟩ := setR_ok hs0 (seedOf (c64 m.seed) (c64 a) (c64 id))
  change Rise (setT m.t (m.syms d a).length m.seed a id) _ at hr
  have hk := hok.2.2.1
  rw [pktW, if_pos hid]
  refine ⟨?_, sumL_in _ _, rfl⟩
  have hsz := syms_size hok d a
  have hlen := syms_len m d a
  have h0 : ((m.syms d a).getD 0 []).length = m.sym.toNat := by
    have := hsz _ (getD_memL (ls := m.syms d a) (i := 0) (by omega))
    omega
  dsimp only
  unfold sumL
  rw [sumI_len (size := m.sym.toNat) hr (fun l hl => by have := hsz l hl; omega) (by rw [List.length_replicate, h0]) _ (Nat.le_refl _)]
  have := hok.2.1
  omega
theorem data_ok {m : MfS} (hok : m.ok) {d : List Int} {ses a id : Int} (hs : 0 ≤ ses ∧ ses ≤ 4294967295) (ha : 0 ≤ a ∧ a ≤ 4294967295) (hE : newE m.t a (m.syms d a) = 0) (hid : numOk id) :
    pkOk 1 ses a id 0 (pktW m.t (m.syms d a) m.seed a id).1.length := by
  have h := (pkt_ok hok hE hid).1
  have h2 := hok.2.1
  have eB : frmB 1 = true := by decide
  have eD : frmD 1 = true := by decide
  refine ⟨by decide, hs, ?_, ?_, ?_, by decide, by decide⟩
  · rw [eB, cond_true]; exact ha
  · rw [eB, eD, Bool.and_true, cond_true]; exact hid
  · rw [eD, cond_true, cond_true]; omega
attribute [local irreducible] Fit pt own ro vw mpc lpt vels rels mow lrc dfr
attribute [local irreducible] lmp lme mit velg relg vwf
theorem turned_tr (m : MfS) (tv dv pv av sv : Value) (d : List Int) (ses bud tmo sn last : Int) (a : Nat) (ack : List Bool) (sent : List Int) (id : Int) (htv : tv.oneCell' = true) (hpv : pv.oneCell' = true) (hok : m.ok) (hd : (d.length : Int) = m.size) (hl : -1 ≤ last ∧ last ≤ 4294967295)
    (hal : ack.length ≤ 4294967295) (hT : turnO ack last = some a) (hn1 : sent.length = ack.length) (hab : (a : Int) < m.blocks) (hE : newE m.t a (m.syms d a) = 0) (hid : sent.getD a 0 = id) (hi : numOk id) :
    Tr Tryz.prog 27 [.agg #[I m.size, I m.sym, I m.k, I m.seed, tv, dv, I ses, I bud, I tmo], .agg #[I 1, I sn, I a, I id, I 0, pv], av, sv, I last] [vw tv (Is m.t), vw dv (By d), vw pv (By (pktW m.t (m.syms d a) m.seed a id).1), vw av (Bo ack)] [own 3 sv (Is sent)]
      fun r D => r = .bool true ∧ D = [own 3 sv (Is (sent.set a (id + 1)))] := by
  have ha := (turnO_lt hT).1
  have hTn := Turn_tr av ack last (by omega) (by omega)
  rw [hT] at hTn
  have hS := Symbols_tr m tv dv d a htv hok hd ⟨by omega, hab⟩
  have hNw := fun s hs => (New_tr s tv hs (m.syms d a) m.t m.seed a).mono (R' := fun v D => ∃ b cv ov sy hs', v = tup2 (ptr b) (I 0) ∧ D = encP b cv ov sy hs' m.t m.seed a (m.syms d a) ∧ cv.oneCell' = true ∧ ov.oneCell' = true ∧ sy.oneCell' = true) (by rintro v D (⟨_, h⟩ | ⟨h0, _⟩); exact h; exact absurd hE h0)
  obtain ⟨hp1, hp2, hp3⟩ := pkt_ok hok hE hi
  have hP := fun b cv ov sy hs hc ho => EPacket_tr b cv ov sy hs m.t m.seed a (m.syms d a) id hE hc ho
  rw [hp3] at hP
  have hSB := fun x y => SameBytes_tr x y _ _ hp2 hp2
  generalize hpay : (pktW m.t (m.syms d a) m.seed a id).1 = pay at *
  rw [decide_eq_true (show pay = pay from rfl)] at hSB
  have hil := Is_len sent
  have hidr := hi
  unfold numOk at hidr
  refine Tr.enter env _ Tryz.func27 (by kernel_rfl) rfl Tryz.ntmps27 rfl (by repeat (first | exact has00 | refine has01 ?_)) fun w0 => ?_
  repeat' first|(refine gca ?_; first|(refine ca hTn ?_; rintro _ _ ⟨rfl, rfl⟩)|(refine ca hS ?_; rintro _ _ ⟨o, hs, rfl, ho, hhs, rfl⟩)|(refine ca (hNw o hs) ?_; rintro _ _ ⟨b, cv, ov, sy, hs', rfl, rfl, hc, hov, hsy⟩)|(refine ca (hP b cv ov sy hs' hc hov) ?_; rintro _ _ ⟨o2, rfl, ho2, rfl⟩)|(refine ca (hSB pv o2) ?_; rintro _ _ ⟨rfl, rfl⟩))|refine bx fun q => ?_|refine bx fun q2 => ?_|(refine qln (xs := Is sent) ?_; rw [hil])|(refine qlie (l := sent) hid ?_)|refine lda ?_|(refine lie (l := sent) hid ?_)|(refine wo ?_; first|(refine ao ?_; first|refine aw ?_|refine oa ?_|refine ipe ?_)|refine oa ?_|refine ld ?_|refine ixmn ?_|refine soi ?_|refine gy ?_)|(refine gc ?_; first|refine cf ?_|(refine cn (fun hB => ?_) (fun hB => ?_) <;> try (exfalso; omega)))|refine sq ?_|refine rg ?_|refine xc ?_|refine nl ?_|refine sk ?_|refine rt ?_|refine rq ?_|refine nq ?_|(refine wq ?_; first|(refine qao ?_; first|refine qa ?_)|refine qa ?_|refine qld ?_|refine qixmn ?_|refine qgy ?_|(refine qgsi (fun hB => ?_) (fun hB => ?_) <;> try (exfalso; omega))|(refine qgsn (fun hB => ?_) (fun hB => ?_) <;> try (exfalso; omega)))
  exact r1 ⟨rfl, rfl⟩
/-! ### What a tick sends -/
def sameS (s s' : SP) : Prop := s'.last = s.last ∧ s'.bud = s.bud ∧ s'.sent = s.sent ∧ s'.ack = s.ack
def stayS (s s' : SP) : Prop := s'.ses = s.ses ∧ s'.m = s.m ∧ s'.d = s.d ∧ s'.ob = s.ob ∧ (s'.st = s.st ∨ s'.st = 4 ∨ s'.st = 5)
theorem pack_snd {kd ses bn pn rn : Int} {l : List Int} (hok : pkOk kd ses bn pn rn l.length) (h : kd = 1 ∨ kd = 5) : sndB ⟨kd, ses, bn, pn, rn, l⟩ = true := by
  unfold sndB
  dsimp only
  rw [decide_eq_true hok]
  rcases h with rfl | rfl <;> rfl
theorem tick_kind {s : SP} {h : SH} (hk : s.ok h) (hmok : s.m.ok) (hob : s.ob = s.m.bytes) (hs : 0 ≤ s.ses ∧ s.ses ≤ 4294967295) : stayS s s.tick.1 ∧
    ((s.tick.2 = [] ∧ sameS s s.tick.1) ∨
    (∃ (B : List Int) (κ r : Int) (pl : List Int), s.tick.2 = [B] ∧ pgetR B = (⟨κ, s.ses, 0, 0, r, pl⟩, 0) ∧ κ ≠ 1 ∧ sndB ⟨κ, s.ses, 0, 0, r, pl⟩ = true ∧ inB B ∧ B.length ≤ 1099511627776 ∧ sameS s s.tick.1) ∨
    ∃ (a : Nat) (B : List Int), s.st ≠ 1 ∧ turnO s.ack s.last = some a ∧ s.tick.2 = [B] ∧ newE s.m.t a (s.m.syms s.d a) = 0 ∧ numOk (s.sent.getD a 0) ∧ pgetR B = (⟨1, s.ses, a, s.sent.getD a 0, 0, (pktW s.m.t (s.m.syms s.d a) s.m.seed a (s.sent.getD a 0)).1⟩, 0) ∧
      sndB ⟨1, s.ses, a, s.sent.getD a 0, 0, (pktW s.m.t (s.m.syms s.d a) s.m.seed a (s.sent.getD a 0)).1⟩ = true ∧ inB B ∧ B.length ≤ 1099511627776 ∧ 1 ≤ s.bud ∧
      s.tick.1.last = a ∧ s.tick.1.bud = s.bud - 1 ∧ s.tick.1.sent = s.sent.set a (s.sent.getD a 0 + 1) ∧ s.tick.1.ack = s.ack) := by
  have hop := open_ok s.m hs (MfS.ok_t hmok)
  have hopl : (putR 5 s.ses 0 0 0 s.m.bytes).1.length ≤ 1099511627776 := by
    have h1 := putR_len 5 s.ses 0 0 0 s.m.bytes
    have h2 := bytes_len s.m
    have h3 := MfS.ok_t hmok
    omega
  have hopen : ∀ s' : SP, (s' = { s with sil := s.sil + 1 }) → stayS s s' ∧ (([(putR 5 s.ses 0 0 0 s.ob).1] = [] ∧ sameS s s') ∨ (∃ (B : List Int) (κ r : Int) (pl : List Int), [(putR 5 s.ses 0 0 0 s.ob).1] = [B] ∧ pgetR B = (⟨κ, s.ses, 0, 0, r, pl⟩, 0) ∧ κ ≠ 1 ∧ sndB ⟨κ, s.ses, 0, 0, r, pl⟩ = true ∧ inB B ∧ B.length ≤ 1099511627776 ∧ sameS s s') ∨
    ∃ (a : Nat) (B : List Int), s.st ≠ 1 ∧ turnO s.ack s.last = some a ∧ [(putR 5 s.ses 0 0 0 s.ob).1] = [B] ∧ newE s.m.t a (s.m.syms s.d a) = 0 ∧ numOk (s.sent.getD a 0) ∧ pgetR B = (⟨1, s.ses, a, s.sent.getD a 0, 0, (pktW s.m.t (s.m.syms s.d a) s.m.seed a (s.sent.getD a 0)).1⟩, 0) ∧
      sndB ⟨1, s.ses, a, s.sent.getD a 0, 0, (pktW s.m.t (s.m.syms s.d a) s.m.seed a (s.sent.getD a 0)).1⟩ = true ∧ inB B ∧ B.length ≤ 1099511627776 ∧ 1 ≤ s.bud ∧
      s'.last = a ∧ s'.bud = s.bud - 1 ∧ s'.sent = s.sent.set a (s.sent.getD a 0 + 1) ∧ s'.ack = s.ack) := by
    rintro s' rfl
    refine ⟨⟨rfl, rfl, rfl, rfl, .inl rfl⟩, .inr (.inl ⟨_, 5, 0, s.m.bytes, by rw [hob], pk_back hop, by decide, pack_snd hop (.inr rfl), putR_in _ _ _ _ _ (bytes_in _), hopl, rfl, rfl, rfl, rfl⟩)⟩
  unfold SP.tick
  by_cases ha : s.alive
  rotate_left
  · rw [if_neg ha]; exact ⟨⟨rfl, rfl, rfl, rfl, .inl rfl⟩, .inl ⟨rfl, rfl, rfl, rfl, rfl⟩⟩
  rw [if_pos ha]
  by_cases hti : s.tmo ≤ s.sil + 1
  · rw [if_pos hti]
    have hr : (if s.bud = 0 then (1 : Int) else 2) = 1 ∨ (if s.bud = 0 then (1 : Int) else 2) = 2 := by split; exact .inl rfl; exact .inr rfl
    refine ⟨⟨rfl, rfl, rfl, rfl, ?_⟩, .inr (.inl ⟨_, 4, _, [], rfl, ab_get hs hr, by decide, ab_snd hs hr, putR_in _ _ _ _ _ inB.nil, ab_len _ _, rfl, rfl, rfl, rfl⟩)⟩
    dsimp only
    split
    · exact .inr (.inl rfl)
    · exact .inr (.inr rfl)
  rw [if_neg hti]
  cases hto : turnO s.ack s.last with
  | none => have := hopen _ rfl; rw [hto] at this; exact this
  | some a =>
    dsimp only
    by_cases h1 : s.st = 1
    · rw [if_pos h1]; have := hopen _ rfl; rw [hto] at this; exact this
    rw [if_neg h1]
    by_cases h2 : 0 < s.bud
    · rw [if_pos h2]
      obtain ⟨hal, _⟩ := turnO_lt hto
      have hn3 := hk.n3
      have hn2 := hk.n2
      have hE := (hk.enc a h.es[a] (List.getElem?_eq_getElem (by omega))).2
      have hid : numOk (s.sent.getD a 0) := by
        have := hk.sent a
        have := hk.bud
        unfold numOk; omega
      have hdk := data_ok hmok hs (a := a) ⟨by omega, by omega⟩ hE hid
      obtain ⟨hp1, hp2, _⟩ := pkt_ok hmok hE hid
      refine ⟨⟨rfl, rfl, rfl, rfl, .inl rfl⟩, .inr (.inr ⟨a, _, h1, rfl, rfl, hE, hid, pk_back hdk, pack_snd hdk (.inl rfl), putR_in _ _ _ _ _ hp2, ?_, by omega, rfl, rfl, rfl, rfl⟩)⟩
      have h3 := putR_len 1 s.ses a (s.sent.getD a 0) 0 (pktW s.m.t (s.m.syms s.d a) s.m.seed a (s.sent.getD a 0)).1
      have h4 := hmok.2.1
      omega
    · rw [if_neg h2]; exact ⟨⟨rfl, rfl, rfl, rfl, .inl rfl⟩, .inl ⟨rfl, rfl, rfl, rfl, rfl⟩⟩
/-- An ack of a block. -/
theorem ack_ok {ses b : Int} (hs : 0 ≤ ses ∧ ses ≤ 4294967295) (hb : 0 ≤ b ∧ b ≤ 4294967295) : pkOk 2 ses b 0 0 ([] : List Int).length := by
  have eB : frmB 2 = true := by decide
  refine ⟨by decide, hs, ?_, by decide, by decide, by decide, by decide⟩
  rw [eB, cond_true]; exact hb
theorem take_ack {s : SP} {b : Int} (ha : s.alive) (hs : 0 ≤ s.ses ∧ s.ses ≤ 4294967295) (hb : 0 ≤ b ∧ b ≤ s.ack.length) (hn : s.ack.length ≤ 4294967295) :
    s.take (putR 2 s.ses b 0 0 []).1 = (({ s with st := 2, sil := 0, ack := if b < s.ack.length then s.ack.set b.toNat true else s.ack }, []), 0) := by
  have h34 : ¬ (s.st = 3 ∨ s.st = 6) := by rcases ha with ha | ha <;> omega
  rw [SP.take, pk_back (ack_ok hs ⟨hb.1, by omega⟩)]
  have hsn : ¬ sndB ⟨2, s.ses, b, 0, 0, []⟩ = true := by
    unfold sndB
    dsimp only
    rw [if_neg (by decide)]
    simp
  dsimp only
  rw [if_pos rfl, if_neg hsn, if_pos rfl, if_neg h34, if_pos ha, if_pos rfl, if_neg (by omega)]
  by_cases h : b < s.ack.length
  · rw [if_pos h, if_pos h]
  · rw [if_neg h, if_neg h]
theorem blocks_le {m : MfS} (h : m.ok) : 0 ≤ m.blocks ∧ m.blocks ≤ m.size := by
  have hf := MfS.full_in h
  have h0 := h.1
  unfold MfS.blocks
  rw [if_pos h]
  refine ⟨Int.ediv_nonneg (by omega) (by omega), ?_⟩
  by_cases hz : m.size = 0
  · rw [hz, Int.ediv_eq_zero_of_lt (by omega) (by omega)]; exact Int.le_refl _
  · refine Int.le_of_lt_add_one ((Int.ediv_lt_iff_lt_mul (by omega)).2 ?_)
    have h1 : m.size * 1 ≤ m.size * m.full := Int.mul_le_mul_of_nonneg_left (by omega) (by omega)
    rw [Int.add_mul]; omega
end Go.Art.Sn
set_option linter.unusedSimpArgs false
set_option linter.unusedVariables false
namespace Go.Art.Sn
open Go Go.Proofs Go.RowKit Go.Art
theorem k3 : (mS 2 0 3 (-1) [0, 0] [false, false] 5).tick = ((mS 2 1 2 0 [1, 0] [false, false] 5), [(putR 1 9 0 0 0 [3]).1]) := by
  rw [tick_data (a := 0) (by decide) (by decide) (by kernel_rfl) (by decide) (by decide)]
  rw [show (mS 2 0 3 (-1) [0, 0] [false, false] 5).m.t = [0, 1] from rfl, pk3 _ _ _ _ (by decide) (by kernel_rfl)]
  kernel_rfl
theorem k4 : (mS 2 1 2 0 [1, 0] [false, false] 5).tick = ((mS 2 2 1 1 [1, 1] [false, false] 5), [(putR 1 9 1 0 0 [7]).1]) := by
  rw [tick_data (a := 1) (by decide) (by decide) (by kernel_rfl) (by decide) (by decide)]
  rw [show (mS 2 1 2 0 [1, 0] [false, false] 5).m.t = [0, 1] from rfl, pk3 _ _ _ _ (by decide) (by kernel_rfl)]
  kernel_rfl
theorem k5 : (mS 2 2 1 1 [1, 1] [false, false] 5).take (putR 2 9 0 0 0 []).1 = (((mS 2 0 1 1 [1, 1] [true, false] 5), []), 0) := by kernel_rfl
theorem k6 : (mS 2 0 1 1 [1, 1] [true, false] 5).tick = ((mS 2 1 0 1 [1, 2] [true, false] 5), [(putR 1 9 1 1 0 [7]).1]) := by
  rw [tick_data (a := 1) (by decide) (by decide) (by kernel_rfl) (by decide) (by decide)]
  rw [show (mS 2 0 1 1 [1, 1] [true, false] 5).m.t = [0, 1] from rfl, pk3 _ _ _ _ (by decide) (by kernel_rfl)]
  kernel_rfl
theorem k7 : (mS 2 1 0 1 [1, 2] [true, false] 5).tick = ((mS 2 2 0 1 [1, 2] [true, false] 5), []) := by kernel_rfl
theorem k8 : (mS 2 2 0 1 [1, 2] [true, false] 5).take (putR 2 9 1 0 0 []).1 = (((mS 2 0 0 1 [1, 2] [true, true] 5), []), 0) := by kernel_rfl
theorem k9 : (mS 2 0 0 1 [1, 2] [true, true] 5).tick = ((mS 2 1 0 1 [1, 2] [true, true] 5), [(putR 5 9 0 0 0 m3.bytes).1]) := by kernel_rfl
theorem k10 : (mS 2 1 0 1 [1, 2] [true, true] 5).take (putR 3 9 0 0 0 []).1 = (((mS 3 0 0 1 [1, 2] [true, true] 5), []), 0) := by kernel_rfl
theorem k11 : (mS 3 0 0 1 [1, 2] [true, true] 5).tick = ((mS 3 0 0 1 [1, 2] [true, true] 5), []) := by kernel_rfl
theorem y1 : (mS 1 0 3 (-1) [0, 0] [false, false] 2).tick = ((mS 1 1 3 (-1) [0, 0] [false, false] 2), [(putR 5 9 0 0 0 m3.bytes).1]) := by kernel_rfl
theorem y2 : (mS 1 1 3 (-1) [0, 0] [false, false] 2).tick = ((mS 5 2 3 (-1) [0, 0] [false, false] 2), [(putR 4 9 0 0 2 []).1]) := by kernel_rfl
theorem y3 : (mS 5 2 3 (-1) [0, 0] [false, false] 2).take (putR 3 9 0 0 0 []).1 = (((mS 5 2 3 (-1) [0, 0] [false, false] 2), [(putR 4 9 0 0 2 []).1]), 0) := by kernel_rfl
theorem y4 : (mS 5 2 3 (-1) [0, 0] [false, false] 2).take (putR 2 9 3 0 0 []).1 = (((mS 5 2 3 (-1) [0, 0] [false, false] 2), [(putR 4 9 0 0 2 []).1]), 0) := by kernel_rfl
theorem gD0 : pgetR (putR 1 9 0 0 0 [3]).1 = (⟨1, 9, 0, 0, 0, [3]⟩, 0) := by kernel_rfl
theorem gD1 : pgetR (putR 1 9 1 0 0 [7]).1 = (⟨1, 9, 1, 0, 0, [7]⟩, 0) := by kernel_rfl
theorem gD2 : pgetR (putR 1 9 1 1 0 [7]).1 = (⟨1, 9, 1, 1, 0, [7]⟩, 0) := by kernel_rfl
theorem gOP : pgetR (putR 5 9 0 0 0 m3.bytes).1 = (⟨5, 9, 0, 0, 0, m3.bytes⟩, 0) := by kernel_rfl
theorem gAB : pgetR (putR 4 9 0 0 2 []).1 = (⟨4, 9, 0, 0, 2, []⟩, 0) := by kernel_rfl
attribute [local irreducible] Fit pt own ro vw mpc lpt vels rels mow lrc dfr
attribute [local irreducible] lmp lme mit velg relg
theorem Acked_is (p : Nat) (h : SH) (s : SP) (x : Nat) (hx : ackN s.ack s.ack.length = x) (hl : s.ack.length ≤ 1099511627776) : Tr Tryz.prog 18 [ptr p] [lpt p [I s.ses, I s.bud, I s.tmo, h.opn, h.pts, h.ack, I s.last, I s.sil, I s.st, chv h.c] TSn, vw h.ack (Bo s.ack)] [] fun v D => v = I x ∧ D = [] := by
  subst hx; exact Acked_tr p s.ses s.bud s.tmo s.last s.sil s.st h.opn h.pts h.ack h.c s.ack hl
set_option maxHeartbeats 8000000 in
theorem SenderKnown_tr : Tr Tryz.prog 5 [] [] [] fun v D => v = .bool true ∧ D = [] := by
  have K3 := k3
  have K4 := k4
  have K5 := k5
  have K6 := k6
  have K7 := k7
  have K8 := k8
  have K9 := k9
  have K10 := k10
  have K11 := k11
  have Y1 := y1
  have Y2 := y2
  have Y3 := y3
  have Y4 := y4
  have GD0 := gD0
  have GD1 := gD1
  have GD2 := gD2
  have GOP := gOP
  have GAB := gAB
  have lD0 : (putR 1 9 0 0 0 [3]).1.length ≤ 1099511627776 := len_of (by kernel_rfl)
  have iD0 : inB (putR 1 9 0 0 0 [3]).1 := inB_of (by kernel_rfl)
  have lD1 : (putR 1 9 1 0 0 [7]).1.length ≤ 1099511627776 := len_of (by kernel_rfl)
  have iD1 : inB (putR 1 9 1 0 0 [7]).1 := inB_of (by kernel_rfl)
  have lD2 : (putR 1 9 1 1 0 [7]).1.length ≤ 1099511627776 := len_of (by kernel_rfl)
  have iD2 : inB (putR 1 9 1 1 0 [7]).1 := inB_of (by kernel_rfl)
  have lOP : (putR 5 9 0 0 0 m3.bytes).1.length ≤ 1099511627776 := len_of (by kernel_rfl)
  have iOP : inB (putR 5 9 0 0 0 m3.bytes).1 := inB_of (by kernel_rfl)
  have lAB : (putR 4 9 0 0 2 []).1.length ≤ 1099511627776 := len_of (by kernel_rfl)
  have iAB : inB (putR 4 9 0 0 2 []).1 := inB_of (by kernel_rfl)
  have lK0 : (putR 2 9 0 0 0 []).1.length ≤ 1099511627776 := len_of (by kernel_rfl)
  have iK0 : inB (putR 2 9 0 0 0 []).1 := inB_of (by kernel_rfl)
  have lK1 : (putR 2 9 1 0 0 []).1.length ≤ 1099511627776 := len_of (by kernel_rfl)
  have iK1 : inB (putR 2 9 1 0 0 []).1 := inB_of (by kernel_rfl)
  have lK3 : (putR 2 9 3 0 0 []).1.length ≤ 1099511627776 := len_of (by kernel_rfl)
  have iK3 : inB (putR 2 9 3 0 0 []).1 := inB_of (by kernel_rfl)
  have lDN : (putR 3 9 0 0 0 []).1.length ≤ 1099511627776 := len_of (by kernel_rfl)
  have iDN : inB (putR 3 9 0 0 0 []).1 := inB_of (by kernel_rfl)
  have hMi : inB m3.bytes := inB_of (by kernel_rfl)
  have M := begun_tr
  have N := made_tr 3 2 (by decide) (by decide)
  rw [new9] at N
  have O9 := open9_tr
  have f6 : (mS 2 1 0 1 [1, 2] [true, false] 5).bud = 0 := rfl
  have f7 : ackN (mS 2 2 0 1 [1, 2] [true, false] 5).ack (mS 2 2 0 1 [1, 2] [true, false] 5).ack.length = 1 := rfl
  have f7l : (mS 2 2 0 1 [1, 2] [true, false] 5).ack.length ≤ 1099511627776 := by decide
  have f10 : (mS 3 0 0 1 [1, 2] [true, true] 5).st = 3 := rfl
  have f22 : (mS 5 2 3 (-1) [0, 0] [false, false] 2).st = 5 := rfl
  generalize mS 2 0 3 (-1) [0, 0] [false, false] 5 = S2 at *
  generalize mS 2 1 2 0 [1, 0] [false, false] 5 = S3 at *
  generalize mS 2 2 1 1 [1, 1] [false, false] 5 = S4 at *
  generalize mS 2 0 1 1 [1, 1] [true, false] 5 = S5 at *
  generalize mS 2 1 0 1 [1, 2] [true, false] 5 = S6 at *
  generalize mS 2 2 0 1 [1, 2] [true, false] 5 = S7 at *
  generalize mS 2 0 0 1 [1, 2] [true, true] 5 = S8 at *
  generalize mS 2 1 0 1 [1, 2] [true, true] 5 = S9 at *
  generalize mS 3 0 0 1 [1, 2] [true, true] 5 = S10 at *
  generalize mS 1 0 3 (-1) [0, 0] [false, false] 2 = S20 at *
  generalize mS 1 1 3 (-1) [0, 0] [false, false] 2 = S21 at *
  generalize mS 5 2 3 (-1) [0, 0] [false, false] 2 = S22 at *
  generalize (putR 1 9 0 0 0 [3]).1 = PD0 at *
  generalize (putR 1 9 1 0 0 [7]).1 = PD1 at *
  generalize (putR 1 9 1 1 0 [7]).1 = PD2 at *
  generalize (putR 5 9 0 0 0 m3.bytes).1 = POP at *
  generalize (putR 4 9 0 0 2 []).1 = PAB at *
  generalize hpK0 : (putR 2 9 0 0 0 []).1 = PK0 at *
  generalize hpK1 : (putR 2 9 1 0 0 []).1 = PK1 at *
  generalize hpK3 : (putR 2 9 3 0 0 []).1 = PK3 at *
  generalize hpDN : (putR 3 9 0 0 0 []).1 = PDN at *
  generalize m3.bytes = MB at *
  have ok3 : ∀ h, S2.ok h → S3.ok h := fun h hk => by have := tick_ok hk; rw [K3] at this; exact this
  have ok4 : ∀ h, S3.ok h → S4.ok h := fun h hk => by have := tick_ok hk; rw [K4] at this; exact this
  have ok5 : ∀ h, S4.ok h → S5.ok h := fun h hk => by have := take_ok hk PK0; rw [K5] at this; exact this
  have ok6 : ∀ h, S5.ok h → S6.ok h := fun h hk => by have := tick_ok hk; rw [K6] at this; exact this
  have ok7 : ∀ h, S6.ok h → S7.ok h := fun h hk => by have := tick_ok hk; rw [K7] at this; exact this
  have ok8 : ∀ h, S7.ok h → S8.ok h := fun h hk => by have := take_ok hk PK1; rw [K8] at this; exact this
  have ok9 : ∀ h, S8.ok h → S9.ok h := fun h hk => by have := tick_ok hk; rw [K9] at this; exact this
  have ok10 : ∀ h, S9.ok h → S10.ok h := fun h hk => by have := take_ok hk PDN; rw [K10] at this; exact this
  have ok21 : ∀ h, S20.ok h → S21.ok h := fun h hk => by have := tick_ok hk; rw [Y1] at this; exact this
  have ok22 : ∀ h, S21.ok h → S22.ok h := fun h hk => by have := tick_ok hk; rw [Y2] at this; exact this
  refine Tr.enter env _ Tryz.func5 (by kernel_rfl) rfl Tryz.ntmps5 rfl (by repeat (first | exact has00 | refine has01 ?_)) fun w0 => ?_
  repeat' first|(refine gca ?_; first|(refine ca M ?_; rintro _ _ ⟨p, h, rfl, hok, rfl⟩)|(refine ca N ?_; rintro _ _ ⟨py, hy, rfl, hoy, rfl⟩)|(refine ca awake_tr ?_; rintro _ _ ⟨rfl, rfl⟩)|(refine ca O9 ?_; rintro _ _ ⟨ov, rfl, hov, rfl⟩)|(refine ca (ticks9_tr1 p h S2 S3 hok PD0 1 0 0 0 0 dv1 [3] K3 GD0 hd1 lD0 iD0 (inB_of rfl) (by decide)) ?_; rintro _ _ ⟨rfl, rfl⟩)|(refine ca (ticks9_tr1 p h S2 S3 hok PD0 1 0 0 0 0 dv2 [3] K3 GD0 hd2 lD0 iD0 (inB_of rfl) (by decide)) ?_; rintro _ _ ⟨rfl, rfl⟩)|(refine ca (ticks9_tr1 p h S2 S3 hok PD0 1 0 0 0 0 dv3 [3] K3 GD0 hd3 lD0 iD0 (inB_of rfl) (by decide)) ?_; rintro _ _ ⟨rfl, rfl⟩)|(refine ca (ticks9_tr1 p h S3 S4 (ok3 h hok) PD1 1 1 0 0 0 dv1 [7] K4 GD1 hd1 lD1 iD1 (inB_of rfl) (by decide)) ?_; rintro _ _ ⟨rfl, rfl⟩)|(refine ca (ticks9_tr1 p h S3 S4 (ok3 h hok) PD1 1 1 0 0 0 dv2 [7] K4 GD1 hd2 lD1 iD1 (inB_of rfl) (by decide)) ?_; rintro _ _ ⟨rfl, rfl⟩)|(refine ca (ticks9_tr1 p h S3 S4 (ok3 h hok) PD1 1 1 0 0 0 dv3 [7] K4 GD1 hd3 lD1 iD1 (inB_of rfl) (by decide)) ?_; rintro _ _ ⟨rfl, rfl⟩)|(refine ca (takes9_tr0 p h S4 S5 (ok4 h (ok3 h hok)) 2 0 0 0 0 nS [] PK0 0 0 0 0 nS hpK0 lK0 iK0 rfl K5) ?_; rintro _ _ ⟨rfl, rfl⟩)|(refine ca (ticks9_tr1 p h S5 S6 (ok5 h (ok4 h (ok3 h hok))) PD2 1 1 1 0 0 dv1 [7] K6 GD2 hd1 lD2 iD2 (inB_of rfl) (by decide)) ?_; rintro _ _ ⟨rfl, rfl⟩)|(refine ca (ticks9_tr1 p h S5 S6 (ok5 h (ok4 h (ok3 h hok))) PD2 1 1 1 0 0 dv2 [7] K6 GD2 hd2 lD2 iD2 (inB_of rfl) (by decide)) ?_; rintro _ _ ⟨rfl, rfl⟩)|(refine ca (ticks9_tr1 p h S5 S6 (ok5 h (ok4 h (ok3 h hok))) PD2 1 1 1 0 0 dv3 [7] K6 GD2 hd3 lD2 iD2 (inB_of rfl) (by decide)) ?_; rintro _ _ ⟨rfl, rfl⟩)|(refine ca (ticks9_tr0 p h S6 S7 (ok6 h (ok5 h (ok4 h (ok3 h hok)))) 0 0 0 0 nS K7) ?_; rintro _ _ ⟨rfl, rfl⟩)|(refine ca (takes9_tr0 p h S7 S8 (ok7 h (ok6 h (ok5 h (ok4 h (ok3 h hok))))) 2 0 1 0 0 nS [] PK1 0 0 0 0 nS hpK1 lK1 iK1 rfl K8) ?_; rintro _ _ ⟨rfl, rfl⟩)|(refine ca (ticks9_tr1 p h S8 S9 (ok8 h (ok7 h (ok6 h (ok5 h (ok4 h (ok3 h hok)))))) POP 5 0 0 0 0 ov MB K9 GOP hov lOP iOP hMi (by decide)) ?_; rintro _ _ ⟨rfl, rfl⟩)|(refine ca (takes9_tr0 p h S9 S10 (ok9 h (ok8 h (ok7 h (ok6 h (ok5 h (ok4 h (ok3 h hok))))))) 3 0 0 0 0 nS [] PDN 0 0 0 0 nS hpDN lDN iDN rfl K10) ?_; rintro _ _ ⟨rfl, rfl⟩)|(refine ca (ticks9_tr0 p h S10 S10 (ok10 h (ok9 h (ok8 h (ok7 h (ok6 h (ok5 h (ok4 h (ok3 h hok)))))))) 0 0 0 0 nS K11) ?_; rintro _ _ ⟨rfl, rfl⟩)|(refine ca (ticks9_tr1 py hy S20 S21 hoy POP 5 0 0 0 0 ov MB Y1 GOP hov lOP iOP hMi (by decide)) ?_; rintro _ _ ⟨rfl, rfl⟩)|(refine ca (ticks9_tr1 py hy S21 S22 (ok21 hy hoy) PAB 4 0 0 2 0 nS [] Y2 GAB rfl lAB iAB inB.nil (by decide)) ?_; rintro _ _ ⟨rfl, rfl⟩)|(refine ca (takes9_tr1 py hy S22 S22 (ok22 hy (ok21 hy hoy)) 3 0 0 0 0 nS [] PDN PAB 4 0 0 2 0 nS [] hpDN lDN iDN rfl Y3 GAB rfl lAB iAB inB.nil (by decide)) ?_; rintro _ _ ⟨rfl, rfl⟩)|(refine ca (takes9_tr1 py hy S22 S22 (ok22 hy (ok21 hy hoy)) 2 0 3 0 0 nS [] PK3 PAB 4 0 0 2 0 nS [] hpK3 lK3 iK3 rfl Y4 GAB rfl lAB iAB inB.nil (by decide)) ?_; rintro _ _ ⟨rfl, rfl⟩)|(refine ca (Left_is p h S6 0 f6) ?_; rintro _ _ ⟨rfl, rfl⟩)|(refine ca (Acked_is p h S7 1 f7 f7l) ?_; rintro _ _ ⟨rfl, rfl⟩)|(refine ca (State_is p h S10 3 f10) ?_; rintro _ _ ⟨rfl, rfl⟩)|(refine ca (State_is py hy S22 5 f22) ?_; rintro _ _ ⟨rfl, rfl⟩))|(refine sli (vs := By [3]) (fun dv1 => ?_) (h1 := By_one _); refine TO.one (v := dv1) (xs := By [3]) fun hd1 => ?_)|(refine sli (vs := By [7]) (fun dv2 => ?_) (h1 := By_one _); refine TO.one (v := dv2) (xs := By [7]) fun hd2 => ?_)|refine bdz ?_|refine al fun zz => ?_|refine srz ?_|refine lda ?_|(refine wo ?_; first|(refine ao ?_; first|refine oa ?_|refine ipe ?_)|refine oa ?_|refine gy ?_)|(refine gc ?_; first|refine cf ?_)|refine sq ?_|refine rg ?_|refine xc ?_|refine nl ?_|refine sk ?_|refine rt ?_
  all_goals first | (exact r1 ⟨rfl, rfl⟩)
end Go.Art.Sn
set_option linter.unusedSimpArgs false
set_option linter.unusedVariables false
namespace Go.Art.Sn
open Go Go.Proofs Go.RowKit Go.Art
attribute [local irreducible] Fit pt own ro vw mpc lpt vels rels mow lrc dfr
attribute [local irreducible] lmp lme mit velg relg
abbrev zS : List Value := [I 0, I 0, I 0, nS, nS, nS, I 0, I 0, I 0, .chan none]
abbrev NoS (p : Value) (q : Nat) : Prop := Tr Tryz.prog 45 [p] [lpt q zS TSn] [] fun v D => v = .bool true ∧ D = []
theorem noS_nil (q : Nat) : NoS nP q := by
  refine Tr.enter env _ Tryz.func45 (by kernel_rfl) rfl Tryz.ntmps45 rfl (by repeat (first | exact has00 | refine has01 ?_)) fun w0 => ?_
  repeat' first|refine chq ?_|(refine wo ?_; first|(refine ao ?_; first|refine aw ?_|refine aw6 ?_|refine oa ?_|refine adiv ?_|refine amod ?_|refine shr1 ?_|refine shr ?_|refine umod ?_|refine isl ?_|refine ipe ?_|refine ipn ?_|refine ibe ?_)|refine acw ?_|refine ucv ?_|refine anw ?_|refine oa ?_|refine ld ?_|refine ldl ?_|refine lnm ?_|refine ixmn ?_|refine ixm ?_|refine li ?_|refine lb ?_|refine lv ?_|refine ln ?_|refine ixn ?_|refine ix ?_|refine le ?_|refine sr ?_|refine soi ?_|refine sob ?_|refine scm ?_|refine sclm ?_|refine schm ?_|refine gy ?_|refine gn ?_|refine gnn ?_|refine gu ?_|(refine gsi (fun hB => ?_) (fun hB => ?_) <;> try (exfalso; omega))|(refine gsn (fun hB => ?_) (fun hB => ?_) <;> try (exfalso; omega))|(refine gs (fun hB => ?_) (fun hB => ?_) <;> try (exfalso; omega)))|(refine gc ?_; first|refine ct ?_|refine cf ?_|(refine ci (fun hB => ?_) (fun hB => ?_) <;> try (exfalso; omega))|(refine cn (fun hB => ?_) (fun hB => ?_) <;> try (exfalso; omega))|(refine cb (fun hB => ?_) (fun hB => ?_) <;> try (exfalso; omega)))|refine sq ?_|refine rg ?_|refine xc ?_|refine nl ?_|refine sk ?_|refine bk ?_|refine xe ?_|refine rt ?_|refine xb ?_
  exact r1 ⟨rfl, rfl⟩
theorem noS_zero (q : Nat) : NoS (ptr q) q := by
  refine Tr.enter env _ Tryz.func45 (by kernel_rfl) rfl Tryz.ntmps45 rfl (by repeat (first | exact has00 | refine has01 ?_)) fun w0 => ?_
  repeat' first|refine chq ?_|(refine wo ?_; first|(refine ao ?_; first|refine aw ?_|refine aw6 ?_|refine oa ?_|refine adiv ?_|refine amod ?_|refine shr1 ?_|refine shr ?_|refine umod ?_|refine isl ?_|refine ipe ?_|refine ipn ?_|refine ibe ?_)|refine acw ?_|refine ucv ?_|refine anw ?_|refine oa ?_|refine ld ?_|refine ldl ?_|refine lnm ?_|refine ixmn ?_|refine ixm ?_|refine li ?_|refine lb ?_|refine lv ?_|refine ln ?_|refine ixn ?_|refine ix ?_|refine le ?_|refine sr ?_|refine soi ?_|refine sob ?_|refine scm ?_|refine sclm ?_|refine schm ?_|refine gy ?_|refine gn ?_|refine gnn ?_|refine gu ?_|(refine gsi (fun hB => ?_) (fun hB => ?_) <;> try (exfalso; omega))|(refine gsn (fun hB => ?_) (fun hB => ?_) <;> try (exfalso; omega))|(refine gs (fun hB => ?_) (fun hB => ?_) <;> try (exfalso; omega)))|(refine gc ?_; first|refine ct ?_|refine cf ?_|(refine ci (fun hB => ?_) (fun hB => ?_) <;> try (exfalso; omega))|(refine cn (fun hB => ?_) (fun hB => ?_) <;> try (exfalso; omega))|(refine cb (fun hB => ?_) (fun hB => ?_) <;> try (exfalso; omega)))|refine sq ?_|refine rg ?_|refine xc ?_|refine nl ?_|refine sk ?_|refine bk ?_|refine xe ?_|refine rt ?_|refine xb ?_
  exact r1 ⟨rfl, rfl⟩
theorem Tick_no (p : Value) (q : Nat) (hN : NoS p q) : Tr Tryz.prog 15 [p] [lpt q zS TSn] [] fun v D => v = tup2 nS (I 1) ∧ D = [] := by
  refine Tr.enter env _ Tryz.func15 (by kernel_rfl) rfl Tryz.ntmps15 rfl (by repeat (first | exact has00 | refine has01 ?_)) fun w0 => ?_
  repeat' first|(refine gca ?_; first|(refine ca hN ?_; rintro _ _ ⟨rfl, rfl⟩))|(refine wo ?_; first|(refine ao ?_; first|refine aw ?_|refine aw6 ?_|refine oa ?_|refine adiv ?_|refine amod ?_|refine shr1 ?_|refine shr ?_|refine umod ?_|refine isl ?_|refine ipe ?_|refine ipn ?_|refine ibe ?_)|refine acw ?_|refine ucv ?_|refine anw ?_|refine oa ?_|refine ld ?_|refine ldl ?_|refine lnm ?_|refine ixmn ?_|refine ixm ?_|refine li ?_|refine lb ?_|refine lv ?_|refine ln ?_|refine ixn ?_|refine ix ?_|refine le ?_|refine sr ?_|refine soi ?_|refine sob ?_|refine scm ?_|refine sclm ?_|refine schm ?_|refine gy ?_|refine gn ?_|refine gnn ?_|refine gu ?_|(refine gsi (fun hB => ?_) (fun hB => ?_) <;> try (exfalso; omega))|(refine gsn (fun hB => ?_) (fun hB => ?_) <;> try (exfalso; omega))|(refine gs (fun hB => ?_) (fun hB => ?_) <;> try (exfalso; omega)))|(refine gc ?_; first|refine ct ?_|refine cf ?_|(refine ci (fun hB => ?_) (fun hB => ?_) <;> try (exfalso; omega))|(refine cn (fun hB => ?_) (fun hB => ?_) <;> try (exfalso; omega))|(refine cb (fun hB => ?_) (fun hB => ?_) <;> try (exfalso; omega)))|refine sq ?_|refine rg ?_|refine xc ?_|refine nl ?_|refine sk ?_|refine bk ?_|refine xe ?_|refine rt ?_|refine xb ?_
  exact r2 ⟨rfl, rfl⟩
theorem Take_no (p b : Value) (q : Nat) (hN : NoS p q) : Tr Tryz.prog 14 [p, b] [lpt q zS TSn] [] fun v D => v = tup2 nS (I 1) ∧ D = [] := by
  refine Tr.enter env _ Tryz.func14 (by kernel_rfl) rfl Tryz.ntmps14 rfl (by repeat (first | exact has00 | refine has01 ?_)) fun w0 => ?_
  repeat' first|(refine gca ?_; first|(refine ca hN ?_; rintro _ _ ⟨rfl, rfl⟩))|(refine wo ?_; first|(refine ao ?_; first|refine aw ?_|refine aw6 ?_|refine oa ?_|refine adiv ?_|refine amod ?_|refine shr1 ?_|refine shr ?_|refine umod ?_|refine isl ?_|refine ipe ?_|refine ipn ?_|refine ibe ?_)|refine acw ?_|refine ucv ?_|refine anw ?_|refine oa ?_|refine ld ?_|refine ldl ?_|refine lnm ?_|refine ixmn ?_|refine ixm ?_|refine li ?_|refine lb ?_|refine lv ?_|refine ln ?_|refine ixn ?_|refine ix ?_|refine le ?_|refine sr ?_|refine soi ?_|refine sob ?_|refine scm ?_|refine sclm ?_|refine schm ?_|refine gy ?_|refine gn ?_|refine gnn ?_|refine gu ?_|(refine gsi (fun hB => ?_) (fun hB => ?_) <;> try (exfalso; omega))|(refine gsn (fun hB => ?_) (fun hB => ?_) <;> try (exfalso; omega))|(refine gs (fun hB => ?_) (fun hB => ?_) <;> try (exfalso; omega)))|(refine gc ?_; first|refine ct ?_|refine cf ?_|(refine ci (fun hB => ?_) (fun hB => ?_) <;> try (exfalso; omega))|(refine cn (fun hB => ?_) (fun hB => ?_) <;> try (exfalso; omega))|(refine cb (fun hB => ?_) (fun hB => ?_) <;> try (exfalso; omega)))|refine sq ?_|refine rg ?_|refine xc ?_|refine nl ?_|refine sk ?_|refine bk ?_|refine xe ?_|refine rt ?_|refine xb ?_
  exact r2 ⟨rfl, rfl⟩
theorem State_no (p : Value) (q : Nat) (hN : NoS p q) : Tr Tryz.prog 17 [p] [lpt q zS TSn] [] fun v D => v = I 0 ∧ D = [] := by
  refine Tr.enter env _ Tryz.func17 (by kernel_rfl) rfl Tryz.ntmps17 rfl (by repeat (first | exact has00 | refine has01 ?_)) fun w0 => ?_
  repeat' first|(refine gca ?_; first|(refine ca hN ?_; rintro _ _ ⟨rfl, rfl⟩))|(refine wo ?_; first|(refine ao ?_; first|refine aw ?_|refine aw6 ?_|refine oa ?_|refine adiv ?_|refine amod ?_|refine shr1 ?_|refine shr ?_|refine umod ?_|refine isl ?_|refine ipe ?_|refine ipn ?_|refine ibe ?_)|refine acw ?_|refine ucv ?_|refine anw ?_|refine oa ?_|refine ld ?_|refine ldl ?_|refine lnm ?_|refine ixmn ?_|refine ixm ?_|refine li ?_|refine lb ?_|refine lv ?_|refine ln ?_|refine ixn ?_|refine ix ?_|refine le ?_|refine sr ?_|refine soi ?_|refine sob ?_|refine scm ?_|refine sclm ?_|refine schm ?_|refine gy ?_|refine gn ?_|refine gnn ?_|refine gu ?_|(refine gsi (fun hB => ?_) (fun hB => ?_) <;> try (exfalso; omega))|(refine gsn (fun hB => ?_) (fun hB => ?_) <;> try (exfalso; omega))|(refine gs (fun hB => ?_) (fun hB => ?_) <;> try (exfalso; omega)))|(refine gc ?_; first|refine ct ?_|refine cf ?_|(refine ci (fun hB => ?_) (fun hB => ?_) <;> try (exfalso; omega))|(refine cn (fun hB => ?_) (fun hB => ?_) <;> try (exfalso; omega))|(refine cb (fun hB => ?_) (fun hB => ?_) <;> try (exfalso; omega)))|refine sq ?_|refine rg ?_|refine xc ?_|refine nl ?_|refine sk ?_|refine bk ?_|refine xe ?_|refine rt ?_|refine xb ?_
  exact r1 ⟨rfl, rfl⟩
theorem Acked_no (p : Value) (q : Nat) (hN : NoS p q) : Tr Tryz.prog 18 [p] [lpt q zS TSn] [] fun v D => v = I 0 ∧ D = [] := by
  refine Tr.enter env _ Tryz.func18 (by kernel_rfl) rfl Tryz.ntmps18 rfl (by repeat (first | exact has00 | refine has01 ?_)) fun w0 => ?_
  repeat' first|(refine gca ?_; first|(refine ca hN ?_; rintro _ _ ⟨rfl, rfl⟩))|(refine wo ?_; first|(refine ao ?_; first|refine aw ?_|refine aw6 ?_|refine oa ?_|refine adiv ?_|refine amod ?_|refine shr1 ?_|refine shr ?_|refine umod ?_|refine isl ?_|refine ipe ?_|refine ipn ?_|refine ibe ?_)|refine acw ?_|refine ucv ?_|refine anw ?_|refine oa ?_|refine ld ?_|refine ldl ?_|refine lnm ?_|refine ixmn ?_|refine ixm ?_|refine li ?_|refine lb ?_|refine lv ?_|refine ln ?_|refine ixn ?_|refine ix ?_|refine le ?_|refine sr ?_|refine soi ?_|refine sob ?_|refine scm ?_|refine sclm ?_|refine schm ?_|refine gy ?_|refine gn ?_|refine gnn ?_|refine gu ?_|(refine gsi (fun hB => ?_) (fun hB => ?_) <;> try (exfalso; omega))|(refine gsn (fun hB => ?_) (fun hB => ?_) <;> try (exfalso; omega))|(refine gs (fun hB => ?_) (fun hB => ?_) <;> try (exfalso; omega)))|(refine gc ?_; first|refine ct ?_|refine cf ?_|(refine ci (fun hB => ?_) (fun hB => ?_) <;> try (exfalso; omega))|(refine cn (fun hB => ?_) (fun hB => ?_) <;> try (exfalso; omega))|(refine cb (fun hB => ?_) (fun hB => ?_) <;> try (exfalso; omega)))|refine sq ?_|refine rg ?_|refine xc ?_|refine nl ?_|refine sk ?_|refine bk ?_|refine xe ?_|refine rt ?_|refine xb ?_
  exact r1 ⟨rfl, rfl⟩
theorem Left_no (p : Value) (q : Nat) (hN : NoS p q) : Tr Tryz.prog 19 [p] [lpt q zS TSn] [] fun v D => v = I 0 ∧ D = [] := by
  refine Tr.enter env _ Tryz.func19 (by kernel_rfl) rfl Tryz.ntmps19 rfl (by repeat (first | exact has00 | refine has01 ?_)) fun w0 => ?_
  repeat' first|(refine gca ?_; first|(refine ca hN ?_; rintro _ _ ⟨rfl, rfl⟩))|(refine wo ?_; first|(refine ao ?_; first|refine aw ?_|refine aw6 ?_|refine oa ?_|refine adiv ?_|refine amod ?_|refine shr1 ?_|refine shr ?_|refine umod ?_|refine isl ?_|refine ipe ?_|refine ipn ?_|refine ibe ?_)|refine acw ?_|refine ucv ?_|refine anw ?_|refine oa ?_|refine ld ?_|refine ldl ?_|refine lnm ?_|refine ixmn ?_|refine ixm ?_|refine li ?_|refine lb ?_|refine lv ?_|refine ln ?_|refine ixn ?_|refine ix ?_|refine le ?_|refine sr ?_|refine soi ?_|refine sob ?_|refine scm ?_|refine sclm ?_|refine schm ?_|refine gy ?_|refine gn ?_|refine gnn ?_|refine gu ?_|(refine gsi (fun hB => ?_) (fun hB => ?_) <;> try (exfalso; omega))|(refine gsn (fun hB => ?_) (fun hB => ?_) <;> try (exfalso; omega))|(refine gs (fun hB => ?_) (fun hB => ?_) <;> try (exfalso; omega)))|(refine gc ?_; first|refine ct ?_|refine cf ?_|(refine ci (fun hB => ?_) (fun hB => ?_) <;> try (exfalso; omega))|(refine cn (fun hB => ?_) (fun hB => ?_) <;> try (exfalso; omega))|(refine cb (fun hB => ?_) (fun hB => ?_) <;> try (exfalso; omega)))|refine sq ?_|refine rg ?_|refine xc ?_|refine nl ?_|refine sk ?_|refine bk ?_|refine xe ?_|refine rt ?_|refine xb ?_
  exact r1 ⟨rfl, rfl⟩
set_option maxHeartbeats 4000000 in
theorem SenderNone_tr (b : Value) (l : List Int) : Tr Tryz.prog 4 [b] [vw b (By l)] [] fun v D => v = .bool true ∧ D = [] := by
  have hbl := By_len l
  have hNn := fun q => noS_nil q
  have hNz := fun q => noS_zero q
  refine Tr.enter env _ Tryz.func4 (by kernel_rfl) rfl Tryz.ntmps4 rfl (by repeat (first | exact has00 | refine has01 ?_)) fun w0 => ?_
  repeat' first|(refine gca ?_; first|(refine ca awake_tr ?_; rintro _ _ ⟨rfl, rfl⟩))|refine ln (xs := By l) ?_|refine bdz ?_|refine bx fun q => ?_|(refine sli (vs := [nP, ptr q]) (fun al => ?_) (h1 := one_cons rfl (one_cons rfl one_nil)))|(refine wo ?_; first|(refine ao ?_; first|refine aw ?_|refine aw6 ?_|refine oa ?_|refine adiv ?_|refine amod ?_|refine shr1 ?_|refine shr ?_|refine umod ?_|refine isl ?_|refine ipe ?_|refine ipn ?_|refine ibe ?_)|refine acw ?_|refine ucv ?_|refine anw ?_|refine oa ?_|refine ld ?_|refine ldl ?_|refine lnm ?_|refine ixmn ?_|refine ixm ?_|refine li ?_|refine lb ?_|refine lv ?_|refine ln ?_|refine ixn ?_|refine ix ?_|refine le ?_|refine sr ?_|refine soi ?_|refine sob ?_|refine scm ?_|refine sclm ?_|refine schm ?_|refine gy ?_|refine gn ?_|refine gnn ?_|refine gu ?_|(refine gsi (fun hB => ?_) (fun hB => ?_) <;> try (exfalso; omega))|(refine gsn (fun hB => ?_) (fun hB => ?_) <;> try (exfalso; omega))|(refine gs (fun hB => ?_) (fun hB => ?_) <;> try (exfalso; omega)))|(refine gc ?_; first|refine ct ?_|refine cf ?_|(refine ci (fun hB => ?_) (fun hB => ?_) <;> try (exfalso; omega))|(refine cn (fun hB => ?_) (fun hB => ?_) <;> try (exfalso; omega))|(refine cb (fun hB => ?_) (fun hB => ?_) <;> try (exfalso; omega)))|refine sq ?_|refine rg ?_|refine xc ?_|refine nl ?_|refine sk ?_|refine bk ?_|refine xe ?_|refine rt ?_|refine xb ?_
  · exact r1 ⟨rfl, rfl⟩
  have hl2 : [nP, ptr q].length = 2 := rfl
  refine TC.loop (ι := Nat) (fun i => [(4, I i)]) (fun _ => []) (fun i => i ≤ 2) (fun i => 2 - i) 0 [0, 3] (by omega) ?_ (hf := by first | apply Fit.all | ((repeat (first | (apply Fit.nilN; (repeat (first | apply nrm_nil | apply nrm_cons)); try apply nrm_rfl) | (apply Fit.cons; focus ((repeat (first | apply Tk.here | apply Tk.there)); first | done | fail)))); first | done | fail))
  intro i hi
  by_cases hlt : i < 2
  · rcases (by omega : i = 0 ∨ i = 1) with rfl | rfl
    · repeat' first|(refine gca ?_; first|(refine ca (Tick_no nP q (hNn q)) ?_; rintro _ _ ⟨rfl, rfl⟩)|(refine ca (Take_no nP b q (hNn q)) ?_; rintro _ _ ⟨rfl, rfl⟩)|(refine ca (State_no nP q (hNn q)) ?_; rintro _ _ ⟨rfl, rfl⟩)|(refine ca (Acked_no nP q (hNn q)) ?_; rintro _ _ ⟨rfl, rfl⟩)|(refine ca (Left_no nP q (hNn q)) ?_; rintro _ _ ⟨rfl, rfl⟩))|refine ln (xs := [nP, ptr q]) ?_|refine ln (xs := []) ?_|(refine wo ?_; first|(refine ao ?_; first|refine aw ?_|refine aw6 ?_|refine oa ?_|refine adiv ?_|refine amod ?_|refine shr1 ?_|refine shr ?_|refine umod ?_|refine isl ?_|refine ipe ?_|refine ipn ?_|refine ibe ?_)|refine acw ?_|refine ucv ?_|refine anw ?_|refine oa ?_|refine ld ?_|refine ldl ?_|refine lnm ?_|refine ixmn ?_|refine ixm ?_|refine li ?_|refine lb ?_|refine lv ?_|refine ln ?_|refine ixn ?_|refine ix ?_|refine le ?_|refine sr ?_|refine soi ?_|refine sob ?_|refine scm ?_|refine sclm ?_|refine schm ?_|refine gy ?_|refine gn ?_|refine gnn ?_|refine gu ?_|(refine gsi (fun hB => ?_) (fun hB => ?_) <;> try (exfalso; omega))|(refine gsn (fun hB => ?_) (fun hB => ?_) <;> try (exfalso; omega))|(refine gs (fun hB => ?_) (fun hB => ?_) <;> try (exfalso; omega)))|(refine gc ?_; first|refine ct ?_|refine cf ?_|(refine ci (fun hB => ?_) (fun hB => ?_) <;> try (exfalso; omega))|(refine cn (fun hB => ?_) (fun hB => ?_) <;> try (exfalso; omega))|(refine cb (fun hB => ?_) (fun hB => ?_) <;> try (exfalso; omega)))|refine sq ?_|refine rg ?_|refine xc ?_|refine nl ?_|refine sk ?_|refine bk ?_|refine xe ?_|refine rt ?_|refine xb ?_
      all_goals first | (exfalso; omega) | exact lp 1 (by omega) (by omega) (hs := by (repeat (refine Sub.cons rfl (by first | rfl | go_num) ?_)); exact Sub.nil) (hf := by first | apply Fit.all | ((repeat (first | (apply Fit.nilN; (repeat (first | apply nrm_nil | apply nrm_cons)); try apply nrm_rfl) | (apply Fit.cons; focus ((repeat (first | apply Tk.here | apply Tk.there)); first | done | fail)))); first | done | fail))
    · repeat' first|(refine gca ?_; first|(refine ca (Tick_no (ptr q) q (hNz q)) ?_; rintro _ _ ⟨rfl, rfl⟩)|(refine ca (Take_no (ptr q) b q (hNz q)) ?_; rintro _ _ ⟨rfl, rfl⟩)|(refine ca (State_no (ptr q) q (hNz q)) ?_; rintro _ _ ⟨rfl, rfl⟩)|(refine ca (Acked_no (ptr q) q (hNz q)) ?_; rintro _ _ ⟨rfl, rfl⟩)|(refine ca (Left_no (ptr q) q (hNz q)) ?_; rintro _ _ ⟨rfl, rfl⟩))|refine ln (xs := [nP, ptr q]) ?_|refine ln (xs := []) ?_|(refine wo ?_; first|(refine ao ?_; first|refine aw ?_|refine aw6 ?_|refine oa ?_|refine adiv ?_|refine amod ?_|refine shr1 ?_|refine shr ?_|refine umod ?_|refine isl ?_|refine ipe ?_|refine ipn ?_|refine ibe ?_)|refine acw ?_|refine ucv ?_|refine anw ?_|refine oa ?_|refine ld ?_|refine ldl ?_|refine lnm ?_|refine ixmn ?_|refine ixm ?_|refine li ?_|refine lb ?_|refine lv ?_|refine ln ?_|refine ixn ?_|refine ix ?_|refine le ?_|refine sr ?_|refine soi ?_|refine sob ?_|refine scm ?_|refine sclm ?_|refine schm ?_|refine gy ?_|refine gn ?_|refine gnn ?_|refine gu ?_|(refine gsi (fun hB => ?_) (fun hB => ?_) <;> try (exfalso; omega))|(refine gsn (fun hB => ?_) (fun hB => ?_) <;> try (exfalso; omega))|(refine gs (fun hB => ?_) (fun hB => ?_) <;> try (exfalso; omega)))|(refine gc ?_; first|refine ct ?_|refine cf ?_|(refine ci (fun hB => ?_) (fun hB => ?_) <;> try (exfalso; omega))|(refine cn (fun hB => ?_) (fun hB => ?_) <;> try (exfalso; omega))|(refine cb (fun hB => ?_) (fun hB => ?_) <;> try (exfalso; omega)))|refine sq ?_|refine rg ?_|refine xc ?_|refine nl ?_|refine sk ?_|refine bk ?_|refine xe ?_|refine rt ?_|refine xb ?_
      all_goals first | (exfalso; omega) | exact lp 2 (by omega) (by omega) (hs := by (repeat (refine Sub.cons rfl (by first | rfl | go_num) ?_)); exact Sub.nil) (hf := by first | apply Fit.all | ((repeat (first | (apply Fit.nilN; (repeat (first | apply nrm_nil | apply nrm_cons)); try apply nrm_rfl) | (apply Fit.cons; focus ((repeat (first | apply Tk.here | apply Tk.there)); first | done | fail)))); first | done | fail))
  · obtain rfl : i = 2 := by omega
    repeat' first|(refine gca ?_; first|(refine ca awake_tr ?_; rintro _ _ ⟨rfl, rfl⟩))|refine ln (xs := [nP, ptr q]) ?_|(refine wo ?_; first|(refine ao ?_; first|refine aw ?_|refine aw6 ?_|refine oa ?_|refine adiv ?_|refine amod ?_|refine shr1 ?_|refine shr ?_|refine umod ?_|refine isl ?_|refine ipe ?_|refine ipn ?_|refine ibe ?_)|refine acw ?_|refine ucv ?_|refine anw ?_|refine oa ?_|refine ld ?_|refine ldl ?_|refine lnm ?_|refine ixmn ?_|refine ixm ?_|refine li ?_|refine lb ?_|refine lv ?_|refine ln ?_|refine ixn ?_|refine ix ?_|refine le ?_|refine sr ?_|refine soi ?_|refine sob ?_|refine scm ?_|refine sclm ?_|refine schm ?_|refine gy ?_|refine gn ?_|refine gnn ?_|refine gu ?_|(refine gsi (fun hB => ?_) (fun hB => ?_) <;> try (exfalso; omega))|(refine gsn (fun hB => ?_) (fun hB => ?_) <;> try (exfalso; omega))|(refine gs (fun hB => ?_) (fun hB => ?_) <;> try (exfalso; omega)))|(refine gc ?_; first|refine ct ?_|refine cf ?_|(refine ci (fun hB => ?_) (fun hB => ?_) <;> try (exfalso; omega))|(refine cn (fun hB => ?_) (fun hB => ?_) <;> try (exfalso; omega))|(refine cb (fun hB => ?_) (fun hB => ?_) <;> try (exfalso; omega)))|refine sq ?_|refine rg ?_|refine xc ?_|refine nl ?_|refine sk ?_|refine bk ?_|refine xe ?_|refine rt ?_|refine xb ?_
    exact r1 ⟨rfl, rfl⟩
end Go.Art.Sn
