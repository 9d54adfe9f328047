/- Texts put together: Ta Nw Ln Ac Rd Oi Si KPick Sj Rt Lo Lp Lq St. Conditions: none. -/
import Derived.Test.YtmlepnlejdfdjaaGreatLh
set_option linter.unusedSimpArgs false
set_option linter.unusedVariables false
namespace Go.Art.Sn
open Go Go.Proofs Go.RowKit Go.Art
/-- Is it what a sender sends? -/
def sndB (q : PkS) : Bool := decide (pkOk q.kd q.sn q.bn q.pn q.rn q.l.length) && (if q.kd = 4 then decide (q.rn < 8) else decide (q.kd = 1) || decide (q.kd = 5))
theorem pgetR_ok {l : List Int} (h : (pgetR l).2 = 0) : pkOk (pgetR l).1.kd (pgetR l).1.sn (pgetR l).1.bn (pgetR l).1.pn (pgetR l).1.rn (pgetR l).1.l.length := by
  unfold pgetR at *
  split at h
  · rename_i h0
    rw [if_pos h0]
    unfold bodyR at *
    split at h
    · rename_i h1
      rw [if_pos h1]
      split at h
      · rename_i h2
        rw [if_pos h2]
        exact h2.2
      · cases h
    · cases h
  · exact absurd h (by assumption)
section
variable {P : Program} {E : Env P} {n : Sh} {X : Cx} {s : List K} {fr : Fr} {A A' : List Ch} {ops : Array Oper} {rest : List Oper} {d : Nat} {ty t e : TypeId} {pos : String} {after : Array Edge} {v : Value} {x : Operand} {L : List (Value × Value)}
theorem qlnp (k : TQ E n X s ops rest ((d, I L.length) :: fr) A) (hx : ev fr x = some v := by rfl) (hm : prs e v L ∈ A := by (repeat (first | apply List.Mem.head | apply List.Mem.tail)); first | done | fail) (ht : lk E.und t = some (.slice e) := by rfl) (hd : Nat.blt d n.n = true := by rfl) :
    TQ E n X s ops (⟨some d, .call ⟨.builtin .len, #[x], #[t]⟩, ty, pos, after, none⟩ :: rest) fr A := TQ.val (v := I L.length) (fun w h => ⟨fun a ha _ _ _ _ => by
  simp only [execOp, resolve]
  rcases prs_at hm h with ⟨rfl, rfl⟩ | ⟨b, cap, cur, rfl, _⟩ <;> simp [ha.ev hx, invoke, builtin, Builtin.len_, run_underlying (P := P) (E.un ht) w, goInt]⟩) k hd
end
theorem prsL_len : ∀ {es : List EnH} {l : List Int}, es.length = l.length → (prsL es l).length = l.length
  | [], [], _ => rfl
  | [], _ :: _, h => by simp at h
  | _ :: _, [], h => by simp at h
  | _ :: r, _ :: q, h => by simp [prsL, prsL_len (es := r) (l := q) (by simpa using h)]
/-- What a datagram does. -/
def SP.take (s : SP) (l : List Int) : (SP × List (List Int)) × Int :=
  if (pgetR l).2 = 0 then
    if sndB (pgetR l).1 = true then ((s, []), 2)
    else if (pgetR l).1.sn = s.ses then
      if s.st = 3 ∨ s.st = 6 then ((s, []), 0)
      else if s.alive then
        if (pgetR l).1.kd = 2 then
          if (s.ack.length : Int) < (pgetR l).1.bn then ((s, []), 3)
          else if (pgetR l).1.bn < s.ack.length then (({ s with st := 2, sil := 0, ack := s.ack.set (pgetR l).1.bn.toNat true }, []), 0)
          else (({ s with st := 2, sil := 0 }, []), 0)
        else if (pgetR l).1.kd = 3 then (({ s with st := 3, sil := 0 }, []), 0)
        else (({ s with st := 6, sil := 0 }, []), 0)
      else if (pgetR l).1.kd = 4 then ((s, []), 0)
      else ((s, [(putR 4 s.ses 0 0 (if s.st = 4 then 1 else 2) []).1]), 0)
    else ((s, []), 16)
  else ((s, []), (pgetR l).2)
attribute [local irreducible] Fit pt own ro vw mpc lpt vels rels mow lrc dfr
attribute [local irreducible] lmp lme mit velg relg
theorem Sends_tr (kd sn bn pn rn : Int) (dv : Value) (l : List Int) (hd : dv.oneCell' = true) : Tr Tryz.prog 13 [.agg #[I kd, I sn, I bn, I pn, I rn, dv]] [vw dv (By l)] [] fun v D => v = .bool (sndB ⟨kd, sn, bn, pn, rn, l⟩) ∧ D = [] := by
  have hC := PCheck_tr kd sn bn pn rn dv l hd
  unfold sndB pkE at *
  dsimp only
  by_cases hok : pkOk kd sn bn pn rn l.length
  rotate_left
  · rw [if_neg hok] at hC
    rw [decide_eq_false hok]
    refine Tr.enter env _ Tryz.func13 (by kernel_rfl) rfl Tryz.ntmps13 rfl (by repeat (first | exact has00 | refine has01 ?_)) fun w0 => ?_
    repeat' first|(refine gca ?_; first|(refine ca hC ?_; rintro _ _ ⟨rfl, rfl⟩))|refine bx fun b => ?_|refine lda ?_|(refine wo ?_; first|(refine ao ?_; first|refine oa ?_)|refine oa ?_)|(refine gc ?_; first|refine ct ?_)|refine sq ?_|refine rg ?_|refine xc ?_|refine nl ?_|refine bk ?_|refine rt ?_
    exact r1 ⟨rfl, rfl⟩
  rw [if_pos hok] at hC
  rw [decide_eq_true hok]
  by_cases h4 : kd = 4
  · rw [if_pos h4]
    refine Tr.enter env _ Tryz.func13 (by kernel_rfl) rfl Tryz.ntmps13 rfl (by repeat (first | exact has00 | refine has01 ?_)) fun w0 => ?_
    repeat' first|(refine gca ?_; first|(refine ca hC ?_; rintro _ _ ⟨rfl, rfl⟩))|refine bx fun b => ?_|refine lda ?_|(refine wo ?_; first|(refine ao ?_; first|refine oa ?_)|refine oa ?_|refine ld ?_)|(refine gc ?_; first|refine cf ?_|(refine ci (fun hB => ?_) (fun hB => ?_) <;> try (exfalso; omega)))|refine sq ?_|refine rg ?_|refine xc ?_|refine nl ?_|refine bk ?_|refine rt ?_
    all_goals first | (exfalso; omega) | exact r1 ⟨rfl, rfl⟩
  · rw [if_neg h4]
    refine Tr.enter env _ Tryz.func13 (by kernel_rfl) rfl Tryz.ntmps13 rfl (by repeat (first | exact has00 | refine has01 ?_)) fun w0 => ?_
    by_cases h1 : kd = 1
    · rw [decide_eq_true h1]
      repeat' first|(refine gca ?_; first|(refine ca hC ?_; rintro _ _ ⟨rfl, rfl⟩))|refine bx fun b => ?_|refine lda ?_|(refine wo ?_; first|(refine ao ?_; first|refine oa ?_)|refine oa ?_|refine ld ?_|refine gn ?_|(refine gsi (fun hB => ?_) (fun hB => ?_) <;> try (exfalso; omega)))|(refine gc ?_; first|refine cf ?_|(refine ci (fun hB => ?_) (fun hB => ?_) <;> try (exfalso; omega)))|refine sq ?_|refine rg ?_|refine xc ?_|refine nl ?_|refine sk ?_|refine bk ?_|refine rt ?_|refine xb ?_
      all_goals first | (exfalso; omega) | exact r1 ⟨rfl, rfl⟩
    · rw [decide_eq_false h1]
      repeat' first|(refine gca ?_; first|(refine ca hC ?_; rintro _ _ ⟨rfl, rfl⟩))|refine bx fun b => ?_|refine lda ?_|(refine wo ?_; first|(refine ao ?_; first|refine oa ?_)|refine oa ?_|refine ld ?_|refine gy ?_|(refine gsi (fun hB => ?_) (fun hB => ?_) <;> try (exfalso; omega)))|(refine gc ?_; first|refine cf ?_|(refine ci (fun hB => ?_) (fun hB => ?_) <;> try (exfalso; omega)))|refine sq ?_|refine rg ?_|refine xc ?_|refine nl ?_|refine sk ?_|refine bk ?_|refine rt ?_|refine xb ?_
      all_goals first | (exfalso; omega) | exact r1 ⟨rfl, rfl⟩
set_option maxHeartbeats 4000000 in
theorem Take_tr (p : Nat) (h : SH) (s : SP) (hk : s.ok h) (b : Value) (l : List Int) (hl : l.length ≤ 1099511627776) (hin : inB l) (hb : b.oneCell' = true) : Tr Tryz.prog 14 [ptr p, b] [vw b (By l)] (sndP p h s)
    fun v D => ∃ o os, v = tup2 o (I (s.take l).2) ∧ o.oneCell' = true ∧ os.length = (s.take l).1.2.length ∧ D = sndQ p h (s.take l).1.1 o os (s.take l).1.2 := by
  have hG := PGet_tr b l hl hin
  have hpk := fun h => pgetR_ok (l := l) h
  have hpl := prsL_len (es := h.es) (l := s.sent) (by rw [hk.n2, hk.n1])
  have hn1 := hk.n1
  unfold SP.take
  generalize pgetR l = G at *
  obtain ⟨⟨kd, sn, bn, pn, rn, bl⟩, e⟩ := G
  dsimp only at *
  by_cases he : e = 0
  rotate_left
  · rw [if_neg he]
    refine Tr.enter env _ Tryz.func14 (by kernel_rfl) rfl Tryz.ntmps14 rfl (by repeat (first | exact has00 | refine has01 ?_)) fun w0 => ?_
    repeat' first|(refine gca ?_; first|(refine ca (none_tr p s.ses s.bud s.tmo s.last _ s.st h.opn h.pts h.ack h.c) ?_; rintro _ _ ⟨rfl, rfl⟩)|(refine ca hG ?_; rintro _ _ ⟨dv, rfl, hdv, rfl⟩)|(refine ca (Sends_tr kd sn bn pn rn dv bl hdv) ?_; rintro _ _ ⟨rfl, rfl⟩; rw [hX])|(refine ca (alive_tr p _ _ _ _ _ _ _ _ _ s.st) ?_; rintro _ _ ⟨rfl, rfl⟩; rw [hal])|(refine ca (abort_tr p s.ses s.bud s.tmo s.last s.sil s.st h.opn h.pts h.ack h.c) ?_; rintro _ _ ⟨o1, ho1, rfl⟩)|(refine ca (sends_tr p s.ses s.bud s.tmo s.last s.sil s.st h.opn h.pts h.ack h.c [o1] (one_cons ho1 one_nil) (by simp)) ?_; rintro o _ ⟨ho, rfl⟩)|(refine ca (sends_tr p s.ses s.bud s.tmo s.last s.sil s.st h.opn h.pts h.ack h.c [] one_nil (by simp)) ?_; rintro o _ ⟨ho, rfl⟩))|refine al fun z => ?_|refine srz ?_|refine lda ?_|(refine qlnp (L := prsL h.es s.sent) ?_; rw [hpl])|(refine wo ?_; first|(refine ao ?_; first|refine oa ?_)|refine oa ?_)|(refine gc ?_; first|refine cf ?_|(refine cn (fun hB => ?_) (fun hB => ?_) <;> try (exfalso; omega)))|refine sq ?_|refine rg ?_|refine xc ?_|refine nl ?_|refine sk ?_|refine bk ?_|refine rt ?_
    refine TX.im (relg_nil (g := y8) _) ?_
    refine TX.im (own_nil TyV _) ?_
    exact r2 ⟨nS, [], rfl, rfl, rfl, rfl⟩
  subst he
  rw [if_pos rfl]
  cases hX : sndB ⟨kd, sn, bn, pn, rn, bl⟩
  rotate_left
  · rw [if_pos rfl]
    refine Tr.enter env _ Tryz.func14 (by kernel_rfl) rfl Tryz.ntmps14 rfl (by repeat (first | exact has00 | refine has01 ?_)) fun w0 => ?_
    repeat' first|(refine gca ?_; first|(refine ca (none_tr p s.ses s.bud s.tmo s.last _ s.st h.opn h.pts h.ack h.c) ?_; rintro _ _ ⟨rfl, rfl⟩)|(refine ca hG ?_; rintro _ _ ⟨dv, rfl, hdv, rfl⟩)|(refine ca (Sends_tr kd sn bn pn rn dv bl hdv) ?_; rintro _ _ ⟨rfl, rfl⟩; rw [hX])|(refine ca (alive_tr p _ _ _ _ _ _ _ _ _ s.st) ?_; rintro _ _ ⟨rfl, rfl⟩; rw [hal])|(refine ca (abort_tr p s.ses s.bud s.tmo s.last s.sil s.st h.opn h.pts h.ack h.c) ?_; rintro _ _ ⟨o1, ho1, rfl⟩)|(refine ca (sends_tr p s.ses s.bud s.tmo s.last s.sil s.st h.opn h.pts h.ack h.c [o1] (one_cons ho1 one_nil) (by simp)) ?_; rintro o _ ⟨ho, rfl⟩)|(refine ca (sends_tr p s.ses s.bud s.tmo s.last s.sil s.st h.opn h.pts h.ack h.c [] one_nil (by simp)) ?_; rintro o _ ⟨ho, rfl⟩))|refine al fun z => ?_|refine srz ?_|refine lda ?_|(refine qlnp (L := prsL h.es s.sent) ?_; rw [hpl])|(refine wo ?_; first|(refine ao ?_; first|refine oa ?_)|refine oa ?_)|(refine gc ?_; first|refine ct ?_|refine cf ?_)|refine sq ?_|refine rg ?_|refine xc ?_|refine nl ?_|refine sk ?_|refine bk ?_|refine rt ?_
    refine TX.im (relg_nil (g := y8) _) ?_
    refine TX.im (own_nil TyV _) ?_
    exact r2 ⟨nS, [], rfl, rfl, rfl, rfl⟩
  rw [if_neg (by decide)]
  have hal' : s.alive ↔ (s.st = 1 ∨ s.st = 2) := Iff.rfl
  by_cases hsn : sn = s.ses
  rotate_left
  · rw [if_neg hsn]
    have hal : (decide (s.st = 1) || decide (s.st = 2)) = (decide (s.st = 1) || decide (s.st = 2)) := rfl
    refine Tr.enter env _ Tryz.func14 (by kernel_rfl) rfl Tryz.ntmps14 rfl (by repeat (first | exact has00 | refine has01 ?_)) fun w0 => ?_
    repeat' first|(refine gca ?_; first|(refine ca (none_tr p s.ses s.bud s.tmo s.last _ s.st h.opn h.pts h.ack h.c) ?_; rintro _ _ ⟨rfl, rfl⟩)|(refine ca hG ?_; rintro _ _ ⟨dv, rfl, hdv, rfl⟩)|(refine ca (Sends_tr kd sn bn pn rn dv bl hdv) ?_; rintro _ _ ⟨rfl, rfl⟩; rw [hX])|(refine ca (alive_tr p _ _ _ _ _ _ _ _ _ s.st) ?_; rintro _ _ ⟨rfl, rfl⟩; rw [hal])|(refine ca (abort_tr p s.ses s.bud s.tmo s.last s.sil s.st h.opn h.pts h.ack h.c) ?_; rintro _ _ ⟨o1, ho1, rfl⟩)|(refine ca (sends_tr p s.ses s.bud s.tmo s.last s.sil s.st h.opn h.pts h.ack h.c [o1] (one_cons ho1 one_nil) (by simp)) ?_; rintro o _ ⟨ho, rfl⟩)|(refine ca (sends_tr p s.ses s.bud s.tmo s.last s.sil s.st h.opn h.pts h.ack h.c [] one_nil (by simp)) ?_; rintro o _ ⟨ho, rfl⟩))|refine al fun z => ?_|refine srz ?_|refine lda ?_|(refine qlnp (L := prsL h.es s.sent) ?_; rw [hpl])|(refine wo ?_; first|(refine ao ?_; first|refine oa ?_)|refine oa ?_)|(refine gc ?_; first|refine cf ?_|(refine cn (fun hB => ?_) (fun hB => ?_) <;> try (exfalso; omega)))|refine sq ?_|refine rg ?_|refine xc ?_|refine nl ?_|refine sk ?_|refine bk ?_|refine rt ?_|refine rq ?_|refine nq ?_|(refine wq ?_; first|(refine qao ?_; first|refine qa ?_)|refine qa ?_|refine qld ?_)
    all_goals first | (exfalso; omega) | (refine TX.im (relg_nil (g := y8) _) ?_; refine TX.im (own_nil TyV _) ?_; exact r2 ⟨nS, [], rfl, rfl, rfl, rfl⟩)
  rw [if_pos hsn]
  by_cases h36 : s.st = 3 ∨ s.st = 6
  · rw [if_pos h36]
    have hal : (decide (s.st = 1) || decide (s.st = 2)) = false := by rw [decide_eq_false (by omega), decide_eq_false (by omega)]; rfl
    refine Tr.enter env _ Tryz.func14 (by kernel_rfl) rfl Tryz.ntmps14 rfl (by repeat (first | exact has00 | refine has01 ?_)) fun w0 => ?_
    repeat' first|(refine gca ?_; first|(refine ca (none_tr p s.ses s.bud s.tmo s.last _ s.st h.opn h.pts h.ack h.c) ?_; rintro _ _ ⟨rfl, rfl⟩)|(refine ca hG ?_; rintro _ _ ⟨dv, rfl, hdv, rfl⟩)|(refine ca (Sends_tr kd sn bn pn rn dv bl hdv) ?_; rintro _ _ ⟨rfl, rfl⟩; rw [hX])|(refine ca (alive_tr p _ _ _ _ _ _ _ _ _ s.st) ?_; rintro _ _ ⟨rfl, rfl⟩; rw [hal])|(refine ca (abort_tr p s.ses s.bud s.tmo s.last s.sil s.st h.opn h.pts h.ack h.c) ?_; rintro _ _ ⟨o1, ho1, rfl⟩)|(refine ca (sends_tr p s.ses s.bud s.tmo s.last s.sil s.st h.opn h.pts h.ack h.c [o1] (one_cons ho1 one_nil) (by simp)) ?_; rintro o _ ⟨ho, rfl⟩)|(refine ca (sends_tr p s.ses s.bud s.tmo s.last s.sil s.st h.opn h.pts h.ack h.c [] one_nil (by simp)) ?_; rintro o _ ⟨ho, rfl⟩))|refine al fun z => ?_|refine srz ?_|refine lda ?_|(refine qlnp (L := prsL h.es s.sent) ?_; rw [hpl])|(refine wo ?_; first|(refine ao ?_; first|refine oa ?_)|refine oa ?_|refine ld ?_|refine gy ?_|refine gn ?_|(refine gsi (fun hB => ?_) (fun hB => ?_) <;> try (exfalso; omega)))|(refine gc ?_; first|refine ct ?_|refine cf ?_|(refine ci (fun hB => ?_) (fun hB => ?_) <;> try (exfalso; omega))|(refine cn (fun hB => ?_) (fun hB => ?_) <;> try (exfalso; omega)))|refine sq ?_|refine rg ?_|refine xc ?_|refine nl ?_|refine sk ?_|refine bk ?_|refine rt ?_|refine rq ?_|refine nq ?_|(refine wq ?_; first|(refine qao ?_; first|refine qa ?_)|refine qa ?_|refine qld ?_)
    all_goals first | (exfalso; omega) | (refine TX.im (relg_nil (g := y8) _) ?_; refine TX.im (own_nil TyV _) ?_; exact r2 ⟨nS, [], rfl, rfl, rfl, rfl⟩)
  rw [if_neg h36]
  by_cases ha : s.alive
  rotate_left
  · rw [if_neg ha]
    have hal : (decide (s.st = 1) || decide (s.st = 2)) = false := by
      rw [hal'] at ha
      rw [decide_eq_false (by omega), decide_eq_false (by omega)]; rfl
    by_cases h4 : kd = 4
    · rw [if_pos h4]
      refine Tr.enter env _ Tryz.func14 (by kernel_rfl) rfl Tryz.ntmps14 rfl (by repeat (first | exact has00 | refine has01 ?_)) fun w0 => ?_
      repeat' first|(refine gca ?_; first|(refine ca (none_tr p s.ses s.bud s.tmo s.last _ s.st h.opn h.pts h.ack h.c) ?_; rintro _ _ ⟨rfl, rfl⟩)|(refine ca hG ?_; rintro _ _ ⟨dv, rfl, hdv, rfl⟩)|(refine ca (Sends_tr kd sn bn pn rn dv bl hdv) ?_; rintro _ _ ⟨rfl, rfl⟩; rw [hX])|(refine ca (alive_tr p _ _ _ _ _ _ _ _ _ s.st) ?_; rintro _ _ ⟨rfl, rfl⟩; rw [hal])|(refine ca (abort_tr p s.ses s.bud s.tmo s.last s.sil s.st h.opn h.pts h.ack h.c) ?_; rintro _ _ ⟨o1, ho1, rfl⟩)|(refine ca (sends_tr p s.ses s.bud s.tmo s.last s.sil s.st h.opn h.pts h.ack h.c [o1] (one_cons ho1 one_nil) (by simp)) ?_; rintro o _ ⟨ho, rfl⟩)|(refine ca (sends_tr p s.ses s.bud s.tmo s.last s.sil s.st h.opn h.pts h.ack h.c [] one_nil (by simp)) ?_; rintro o _ ⟨ho, rfl⟩))|refine al fun z => ?_|refine srz ?_|refine lda ?_|(refine qlnp (L := prsL h.es s.sent) ?_; rw [hpl])|(refine wo ?_; first|(refine ao ?_; first|refine oa ?_)|refine oa ?_|refine ld ?_|refine gy ?_|(refine gsi (fun hB => ?_) (fun hB => ?_) <;> try (exfalso; omega)))|(refine gc ?_; first|refine ct ?_|refine cf ?_|(refine ci (fun hB => ?_) (fun hB => ?_) <;> try (exfalso; omega))|(refine cn (fun hB => ?_) (fun hB => ?_) <;> try (exfalso; omega)))|refine sq ?_|refine rg ?_|refine xc ?_|refine nl ?_|refine sk ?_|refine bk ?_|refine rt ?_|refine rq ?_|refine nq ?_|(refine wq ?_; first|(refine qao ?_; first|refine qa ?_)|refine qa ?_|refine qld ?_)
      all_goals first | (exfalso; omega) | (refine TX.im (relg_nil (g := y8) _) ?_; exact r2 ⟨o, [], rfl, ho, rfl, rfl⟩)
    · rw [if_neg h4]
      refine Tr.enter env _ Tryz.func14 (by kernel_rfl) rfl Tryz.ntmps14 rfl (by repeat (first | exact has00 | refine has01 ?_)) fun w0 => ?_
      repeat' first|(refine gca ?_; first|(refine ca (none_tr p s.ses s.bud s.tmo s.last _ s.st h.opn h.pts h.ack h.c) ?_; rintro _ _ ⟨rfl, rfl⟩)|(refine ca hG ?_; rintro _ _ ⟨dv, rfl, hdv, rfl⟩)|(refine ca (Sends_tr kd sn bn pn rn dv bl hdv) ?_; rintro _ _ ⟨rfl, rfl⟩; rw [hX])|(refine ca (alive_tr p _ _ _ _ _ _ _ _ _ s.st) ?_; rintro _ _ ⟨rfl, rfl⟩; rw [hal])|(refine ca (abort_tr p s.ses s.bud s.tmo s.last s.sil s.st h.opn h.pts h.ack h.c) ?_; rintro _ _ ⟨o1, ho1, rfl⟩)|(refine ca (sends_tr p s.ses s.bud s.tmo s.last s.sil s.st h.opn h.pts h.ack h.c [o1] (one_cons ho1 one_nil) (by simp)) ?_; rintro o _ ⟨ho, rfl⟩)|(refine ca (sends_tr p s.ses s.bud s.tmo s.last s.sil s.st h.opn h.pts h.ack h.c [] one_nil (by simp)) ?_; rintro o _ ⟨ho, rfl⟩))|refine al fun z => ?_|refine srz ?_|refine lda ?_|(refine qlnp (L := prsL h.es s.sent) ?_; rw [hpl])|(refine wo ?_; first|(refine ao ?_; first|refine oa ?_)|refine oa ?_|refine ld ?_|refine gy ?_|(refine gsi (fun hB => ?_) (fun hB => ?_) <;> try (exfalso; omega)))|(refine gc ?_; first|refine ct ?_|refine cf ?_|(refine ci (fun hB => ?_) (fun hB => ?_) <;> try (exfalso; omega))|(refine cn (fun hB => ?_) (fun hB => ?_) <;> try (exfalso; omega)))|refine sq ?_|refine rg ?_|refine xc ?_|refine nl ?_|refine sk ?_|refine bk ?_|refine rt ?_|refine rq ?_|refine nq ?_|(refine wq ?_; first|(refine qao ?_; first|refine qa ?_)|refine qa ?_|refine qld ?_)
      all_goals first | (exfalso; omega) | (refine TX.im (one_out (o := o) (o1 := o1) (by first | apply Fit.all | ((repeat (first | (apply Fit.nilN; (repeat (first | apply nrm_nil | apply nrm_cons)); try apply nrm_rfl) | (apply Fit.cons; focus ((repeat (first | apply Tk.here | apply Tk.there)); first | done | fail)))); first | done | fail))) ?_; exact r2 ⟨o, [o1], rfl, ho, rfl, rfl⟩)
  rw [if_pos ha]
  have hal : (decide (s.st = 1) || decide (s.st = 2)) = true := by
    rw [hal'] at ha
    rcases ha with ha | ha <;> simp [ha]
  by_cases hk2 : kd = 2
  rotate_left
  · rw [if_neg hk2]
    by_cases hk3 : kd = 3
    · rw [if_pos hk3]
      refine Tr.enter env _ Tryz.func14 (by kernel_rfl) rfl Tryz.ntmps14 rfl (by repeat (first | exact has00 | refine has01 ?_)) fun w0 => ?_
      repeat' first|(refine gca ?_; first|(refine ca (none_tr p s.ses s.bud s.tmo s.last _ s.st h.opn h.pts h.ack h.c) ?_; rintro _ _ ⟨rfl, rfl⟩)|(refine ca hG ?_; rintro _ _ ⟨dv, rfl, hdv, rfl⟩)|(refine ca (Sends_tr kd sn bn pn rn dv bl hdv) ?_; rintro _ _ ⟨rfl, rfl⟩; rw [hX])|(refine ca (alive_tr p _ _ _ _ _ _ _ _ _ s.st) ?_; rintro _ _ ⟨rfl, rfl⟩; rw [hal])|(refine ca (abort_tr p s.ses s.bud s.tmo s.last s.sil s.st h.opn h.pts h.ack h.c) ?_; rintro _ _ ⟨o1, ho1, rfl⟩)|(refine ca (sends_tr p s.ses s.bud s.tmo s.last s.sil s.st h.opn h.pts h.ack h.c [o1] (one_cons ho1 one_nil) (by simp)) ?_; rintro o _ ⟨ho, rfl⟩)|(refine ca (sends_tr p s.ses s.bud s.tmo s.last s.sil s.st h.opn h.pts h.ack h.c [] one_nil (by simp)) ?_; rintro o _ ⟨ho, rfl⟩))|refine al fun z => ?_|refine srz ?_|refine lda ?_|(refine qlnp (L := prsL h.es s.sent) ?_; rw [hpl])|(refine wo ?_; first|(refine ao ?_; first|refine oa ?_)|refine oa ?_|refine ld ?_|refine sr ?_|refine gy ?_|(refine gsi (fun hB => ?_) (fun hB => ?_) <;> try (exfalso; omega)))|(refine gc ?_; first|refine cf ?_|(refine ci (fun hB => ?_) (fun hB => ?_) <;> try (exfalso; omega))|(refine cn (fun hB => ?_) (fun hB => ?_) <;> try (exfalso; omega)))|refine sq ?_|refine rg ?_|refine xc ?_|refine nl ?_|refine sk ?_|refine bk ?_|refine rt ?_|refine xb ?_|refine rq ?_|refine nq ?_|(refine wq ?_; first|(refine qao ?_; first|refine qa ?_)|refine qa ?_|refine qld ?_)
      all_goals first | (exfalso; omega) | (refine TX.im (relg_nil (g := y8) _) ?_; refine TX.im (own_nil TyV _) ?_; exact r2 ⟨nS, [], rfl, rfl, rfl, rfl⟩)
    · rw [if_neg hk3]
      refine Tr.enter env _ Tryz.func14 (by kernel_rfl) rfl Tryz.ntmps14 rfl (by repeat (first | exact has00 | refine has01 ?_)) fun w0 => ?_
      repeat' first|(refine gca ?_; first|(refine ca (none_tr p s.ses s.bud s.tmo s.last _ s.st h.opn h.pts h.ack h.c) ?_; rintro _ _ ⟨rfl, rfl⟩)|(refine ca hG ?_; rintro _ _ ⟨dv, rfl, hdv, rfl⟩)|(refine ca (Sends_tr kd sn bn pn rn dv bl hdv) ?_; rintro _ _ ⟨rfl, rfl⟩; rw [hX])|(refine ca (alive_tr p _ _ _ _ _ _ _ _ _ s.st) ?_; rintro _ _ ⟨rfl, rfl⟩; rw [hal])|(refine ca (abort_tr p s.ses s.bud s.tmo s.last s.sil s.st h.opn h.pts h.ack h.c) ?_; rintro _ _ ⟨o1, ho1, rfl⟩)|(refine ca (sends_tr p s.ses s.bud s.tmo s.last s.sil s.st h.opn h.pts h.ack h.c [o1] (one_cons ho1 one_nil) (by simp)) ?_; rintro o _ ⟨ho, rfl⟩)|(refine ca (sends_tr p s.ses s.bud s.tmo s.last s.sil s.st h.opn h.pts h.ack h.c [] one_nil (by simp)) ?_; rintro o _ ⟨ho, rfl⟩))|refine al fun z => ?_|refine srz ?_|refine lda ?_|(refine qlnp (L := prsL h.es s.sent) ?_; rw [hpl])|(refine wo ?_; first|(refine ao ?_; first|refine oa ?_)|refine oa ?_|refine ld ?_|refine sr ?_|refine gy ?_|(refine gsi (fun hB => ?_) (fun hB => ?_) <;> try (exfalso; omega)))|(refine gc ?_; first|refine cf ?_|(refine ci (fun hB => ?_) (fun hB => ?_) <;> try (exfalso; omega))|(refine cn (fun hB => ?_) (fun hB => ?_) <;> try (exfalso; omega)))|refine sq ?_|refine rg ?_|refine xc ?_|refine nl ?_|refine sk ?_|refine bk ?_|refine rt ?_|refine xb ?_|refine rq ?_|refine nq ?_|(refine wq ?_; first|(refine qao ?_; first|refine qa ?_)|refine qa ?_|refine qld ?_)
      all_goals first | (exfalso; omega) | (refine TX.im (relg_nil (g := y8) _) ?_; refine TX.im (own_nil TyV _) ?_; exact r2 ⟨nS, [], rfl, rfl, rfl, rfl⟩)
  rw [if_pos hk2]
  have hbn : 0 ≤ bn := (hpk rfl).2.2.1.1
  by_cases hb1 : (s.ack.length : Int) < bn
  · rw [if_pos hb1]
    refine Tr.enter env _ Tryz.func14 (by kernel_rfl) rfl Tryz.ntmps14 rfl (by repeat (first | exact has00 | refine has01 ?_)) fun w0 => ?_
    repeat' first|(refine gca ?_; first|(refine ca (none_tr p s.ses s.bud s.tmo s.last _ s.st h.opn h.pts h.ack h.c) ?_; rintro _ _ ⟨rfl, rfl⟩)|(refine ca hG ?_; rintro _ _ ⟨dv, rfl, hdv, rfl⟩)|(refine ca (Sends_tr kd sn bn pn rn dv bl hdv) ?_; rintro _ _ ⟨rfl, rfl⟩; rw [hX])|(refine ca (alive_tr p _ _ _ _ _ _ _ _ _ s.st) ?_; rintro _ _ ⟨rfl, rfl⟩; rw [hal])|(refine ca (abort_tr p s.ses s.bud s.tmo s.last s.sil s.st h.opn h.pts h.ack h.c) ?_; rintro _ _ ⟨o1, ho1, rfl⟩)|(refine ca (sends_tr p s.ses s.bud s.tmo s.last s.sil s.st h.opn h.pts h.ack h.c [o1] (one_cons ho1 one_nil) (by simp)) ?_; rintro o _ ⟨ho, rfl⟩)|(refine ca (sends_tr p s.ses s.bud s.tmo s.last s.sil s.st h.opn h.pts h.ack h.c [] one_nil (by simp)) ?_; rintro o _ ⟨ho, rfl⟩))|refine al fun z => ?_|refine srz ?_|refine lda ?_|(refine qlnp (L := prsL h.es s.sent) ?_; rw [hpl])|(refine wo ?_; first|(refine ao ?_; first|refine oa ?_)|refine oa ?_|refine ld ?_|refine gy ?_|(refine gsi (fun hB => ?_) (fun hB => ?_) <;> try (exfalso; omega)))|(refine gc ?_; first|refine cf ?_|(refine ci (fun hB => ?_) (fun hB => ?_) <;> try (exfalso; omega))|(refine cn (fun hB => ?_) (fun hB => ?_) <;> try (exfalso; omega)))|refine sq ?_|refine rg ?_|refine xc ?_|refine nl ?_|refine sk ?_|refine bk ?_|refine rt ?_|refine xb ?_|refine rq ?_|refine nq ?_|(refine wq ?_; first|(refine qao ?_; first|refine qa ?_)|refine qa ?_|refine qld ?_)
    all_goals first | (exfalso; omega) | (refine TX.im (relg_nil (g := y8) _) ?_; refine TX.im (own_nil TyV _) ?_; exact r2 ⟨nS, [], rfl, rfl, rfl, rfl⟩)
  rw [if_neg hb1]
  by_cases hb2 : bn < (s.ack.length : Int)
  rotate_left
  · rw [if_neg hb2]
    refine Tr.enter env _ Tryz.func14 (by kernel_rfl) rfl Tryz.ntmps14 rfl (by repeat (first | exact has00 | refine has01 ?_)) fun w0 => ?_
    repeat' first|(refine gca ?_; first|(refine ca (none_tr p s.ses s.bud s.tmo s.last _ s.st h.opn h.pts h.ack h.c) ?_; rintro _ _ ⟨rfl, rfl⟩)|(refine ca hG ?_; rintro _ _ ⟨dv, rfl, hdv, rfl⟩)|(refine ca (Sends_tr kd sn bn pn rn dv bl hdv) ?_; rintro _ _ ⟨rfl, rfl⟩; rw [hX])|(refine ca (alive_tr p _ _ _ _ _ _ _ _ _ s.st) ?_; rintro _ _ ⟨rfl, rfl⟩; rw [hal])|(refine ca (abort_tr p s.ses s.bud s.tmo s.last s.sil s.st h.opn h.pts h.ack h.c) ?_; rintro _ _ ⟨o1, ho1, rfl⟩)|(refine ca (sends_tr p s.ses s.bud s.tmo s.last s.sil s.st h.opn h.pts h.ack h.c [o1] (one_cons ho1 one_nil) (by simp)) ?_; rintro o _ ⟨ho, rfl⟩)|(refine ca (sends_tr p s.ses s.bud s.tmo s.last s.sil s.st h.opn h.pts h.ack h.c [] one_nil (by simp)) ?_; rintro o _ ⟨ho, rfl⟩))|refine al fun z => ?_|refine srz ?_|refine lda ?_|(refine qlnp (L := prsL h.es s.sent) ?_; rw [hpl])|(refine wo ?_; first|(refine ao ?_; first|refine oa ?_)|refine oa ?_|refine ld ?_|refine sr ?_|refine gy ?_|(refine gsi (fun hB => ?_) (fun hB => ?_) <;> try (exfalso; omega)))|(refine gc ?_; first|refine cf ?_|(refine ci (fun hB => ?_) (fun hB => ?_) <;> try (exfalso; omega))|(refine cn (fun hB => ?_) (fun hB => ?_) <;> try (exfalso; omega)))|refine sq ?_|refine rg ?_|refine xc ?_|refine nl ?_|refine sk ?_|refine bk ?_|refine rt ?_|refine xb ?_|refine rq ?_|refine nq ?_|(refine wq ?_; first|(refine qao ?_; first|refine qa ?_)|refine qa ?_|refine qld ?_)
    all_goals first | (exfalso; omega) | (refine TX.im (relg_nil (g := y8) _) ?_; refine TX.im (own_nil TyV _) ?_; exact r2 ⟨nS, [], rfl, rfl, rfl, rfl⟩)
  rw [if_pos hb2]
  have hbl := Bo_len s.ack
  have hsB : Bo (s.ack.set bn.toNat true) = (Bo s.ack).set bn.toNat (.bool true) := List.map_set ..
  refine Tr.enter env _ Tryz.func14 (by kernel_rfl) rfl Tryz.ntmps14 rfl (by repeat (first | exact has00 | refine has01 ?_)) fun w0 => ?_
  repeat' first|(refine gca ?_; first|(refine ca (none_tr p s.ses s.bud s.tmo s.last _ s.st h.opn h.pts h.ack h.c) ?_; rintro _ _ ⟨rfl, rfl⟩)|(refine ca hG ?_; rintro _ _ ⟨dv, rfl, hdv, rfl⟩)|(refine ca (Sends_tr kd sn bn pn rn dv bl hdv) ?_; rintro _ _ ⟨rfl, rfl⟩; rw [hX])|(refine ca (alive_tr p _ _ _ _ _ _ _ _ _ s.st) ?_; rintro _ _ ⟨rfl, rfl⟩; rw [hal])|(refine ca (abort_tr p s.ses s.bud s.tmo s.last s.sil s.st h.opn h.pts h.ack h.c) ?_; rintro _ _ ⟨o1, ho1, rfl⟩)|(refine ca (sends_tr p s.ses s.bud s.tmo s.last s.sil s.st h.opn h.pts h.ack h.c [o1] (one_cons ho1 one_nil) (by simp)) ?_; rintro o _ ⟨ho, rfl⟩)|(refine ca (sends_tr p s.ses s.bud s.tmo s.last s.sil s.st h.opn h.pts h.ack h.c [] one_nil (by simp)) ?_; rintro o _ ⟨ho, rfl⟩))|refine rs (id := 23) (fun w => w.heap[p]? = some (.cells [I s.ses, I s.bud, I s.tmo, h.opn, h.pts, h.ack, I s.last, I s.sil, I 2, chv h.c].toArray TSn (0, 0)) ∧ w.heap[z]? = some (.cells [I kd, I sn, I bn, I pn, I rn, dv].toArray TPk (0, 0))) ?_ (fun w hw => ⟨pt_at (by (repeat (first | apply List.Mem.head | apply List.Mem.tail)); first | done | fail) hw, pt_at (by (repeat (first | apply List.Mem.head | apply List.Mem.tail)); first | done | fail) hw⟩)|refine al fun z => ?_|refine srz ?_|refine lda ?_|(refine qlnp (L := prsL h.es s.sent) ?_; rw [hpl])|(refine wo ?_; first|(refine ao ?_; first|refine oa ?_)|refine oa ?_|refine ld ?_|refine sr ?_|refine gy ?_|(refine gsi (fun hB => ?_) (fun hB => ?_) <;> try (exfalso; omega)))|(refine gc ?_; first|refine cf ?_|(refine ci (fun hB => ?_) (fun hB => ?_) <;> try (exfalso; omega))|(refine cn (fun hB => ?_) (fun hB => ?_) <;> try (exfalso; omega)))|refine sq ?_|refine rg ?_|refine xc ?_|refine nl ?_|refine sk ?_|refine bk ?_|refine xb ?_|refine rq ?_|refine nq ?_|(refine wq ?_; first|(refine qao ?_; first|refine qa ?_)|refine qa ?_|refine qld ?_)
  all_goals try (exfalso; omega)
  refine tka 0 ?_
  refine tka 1 ?_
  refine tka 2 ?_
  refine tkl 3 (cs := [I s.ses, I s.bud, I s.tmo, h.opn, h.pts, h.ack, I s.last, I s.sil, I 2, chv h.c]) (fun w h => h.1) ?_
  refine tka 4 ?_
  refine tkl 5 (cs := [I kd, I sn, I bn, I pn, I rn, dv]) (fun w h => h.2) ?_
  refine t1 6 ?_
  refine ix (xs := Bo s.ack) ?_
  refine nl ?_
  refine te (fun w hw => ⟨pt_at (by (repeat (first | apply List.Mem.head | apply List.Mem.tail)); first | done | fail) hw, pt_at (by (repeat (first | apply List.Mem.head | apply List.Mem.tail)); first | done | fail) hw⟩) ?_
  refine t1 7 ?_
  refine so (xs := Bo s.ack) (ys := Bo (s.ack.set bn.toNat true)) ?_ (hs := hsB) (hj := by omega)
  refine nl ?_
  refine te (fun w hw => ⟨pt_at (by (repeat (first | apply List.Mem.head | apply List.Mem.tail)); first | done | fail) hw, pt_at (by (repeat (first | apply List.Mem.head | apply List.Mem.tail)); first | done | fail) hw⟩) ?_
  refine t0 ?_
  repeat' first|(refine wo ?_; first|refine oa ?_|refine sr ?_)|refine sq ?_|refine rg ?_|refine xc ?_|refine nl ?_|refine rt ?_|refine xb ?_
  (refine TX.im (relg_nil (g := y8) _) ?_; refine TX.im (own_nil TyV _) ?_; exact r2 ⟨nS, [], rfl, rfl, rfl, rfl⟩)
end Go.Art.Sn
set_option linter.unusedSimpArgs false
set_option linter.unusedVariables false
namespace Go.Art.Sn
open Go Go.Proofs Go.RowKit Go.Art
theorem bytes_len (m : MfS) : m.bytes.length = 20 + 4 * m.t.length := by
  unfold MfS.bytes
  rw [List.length_append, wB_len _ _ (Nat.le_refl _)]
  simp [headB, beB_len]
theorem syms_len (m : MfS) (d : List Int) (n : Int) : (m.syms d n).length = m.k.toNat := chL_len _ _ _
/-- A manifest's encoders are all made. -/
theorem enc_ok {m : MfS} (hok : m.ok) (d : List Int) {n : Int} (hn : 0 ≤ n ∧ n < m.blocks) : newE m.t n (m.syms d n) = 0 := by
  have hbi := MfS.blocks_in hok
  obtain ⟨_, g2, g3, _, g5⟩ := hok
  have hl := syms_len m d n
  have hall : ∀ l ∈ m.syms d n, l.length = m.sym.toNat := by
    intro l hl
    unfold MfS.syms chL at hl
    obtain ⟨i, _, rfl⟩ := List.mem_map.1 hl
    unfold chP
    exact padL_len (by rw [List.length_take]; omega)
  have h0 : ((m.syms d n).getD 0 []).length = m.sym.toNat := hall _ (getD_memL (by omega))
  have hb : blkE (m.syms d n) = 0 := by
    unfold blkE
    rw [if_neg (by omega), if_neg]
    rw [List.any_eq_true]
    rintro ⟨l, hl, h⟩
    have := hall l hl
    rw [this, h0] at h
    simp at h
  rw [newE, if_pos hb, smpE, hl, Int.toNat_of_nonneg (by omega), if_pos (mtB_sol g3 g5).1, if_pos (by unfold numOk; omega)]
theorem prsL_app : ∀ (es : List EnH) (j : Nat) (e : EnH), es.length = j → prsL (es ++ [e]) (List.replicate (j + 1) 0) = prsL es (List.replicate j 0) ++ [(srcV e.b, I 0)]
  | [], j, e, h => by subst h; rfl
  | a :: r, j, e, h => by
    cases j with
    | zero => simp at h
    | succ j => simp only [List.cons_append, List.replicate_succ, prsL]; rw [← prsL_app r j e (by simpa using h), List.replicate_succ]
theorem frz_snoc {A F C D : List Ch} (hn : ∀ c ∈ D, ∀ b, ¬ c.bd b) (hf : Fit A (frz C :: D) F) : Im A (frz (C ++ D) :: F) := by
  unfold Fit at hf
  exact Im.trans hf (Im.trans (Im.cons _ (im_frz D hn F)) (frz_app C D F))
structure NwG2 where
  j : Nat
  pts : Value
  es : List EnH
def newSE (m : MfS) (d : List Int) (ses bud tmo : Int) : Int :=
  if m.ok ∧ (d.length : Int) = m.size then (if (0 ≤ ses ∧ ses ≤ 4294967295) ∧ (0 ≤ bud ∧ bud ≤ 2147483647) ∧ 1 ≤ tmo ∧ tmo ≤ 2147483647 then 0 else 3) else 2
/-- A sender, new. -/
def SP.new (m : MfS) (d : List Int) (ses bud tmo : Int) : SP := ⟨ses, bud, tmo, -1, 0, 1, m, d, List.replicate m.blocks.toNat 0, List.replicate m.blocks.toNat false, m.bytes⟩
attribute [local irreducible] Fit pt own ro vw mpc lpt vels rels mow lrc dfr
attribute [local irreducible] lmp lme mit velg relg
theorem swithin_tr (n lo hi : Int) : Tr Tryz.prog 30 [I n, I lo, I hi] [] [] fun v D => v = .bool (decide (lo ≤ n ∧ n ≤ hi)) ∧ D = [] := by
  refine Tr.enter env _ Tryz.func30 (by kernel_rfl) rfl Tryz.ntmps30 rfl (by repeat (first | exact has00 | refine has01 ?_)) fun w0 => ?_
  repeat' first|(refine wo ?_; first|(refine ao ?_; first|refine oa ?_)|refine oa ?_|refine gy ?_|refine gn ?_|(refine gsi (fun hB => ?_) (fun hB => ?_) <;> try (exfalso; omega)))|refine sq ?_|refine rg ?_|refine xc ?_|refine nl ?_|refine rt ?_
  all_goals refine r1 ⟨?_, rfl⟩
  all_goals first
    | rw [decide_eq_false (by omega)]
    | (congr 1; exact decide_eq_decide.2 ⟨fun h => by omega, fun h => by omega⟩)
set_option maxHeartbeats 4000000 in
theorem SNew_tr (m : MfS) (tv dv : Value) (d : List Int) (ses bud tmo : Int) (hv : tv.oneCell' = true) (hsd : m.seed ≤ 9223372036854775807) (hdl : d.length ≤ 1099511627776) :
    Tr Tryz.prog 11 [.agg #[I m.size, I m.sym, I m.k, I m.seed, tv], dv, I ses, I bud, I tmo] [vw tv (Is m.t), vw dv (By d)] []
      fun v D => (newSE m d ses bud tmo = 0 ∧ ∃ p h, v = tup2 (ptr p) (I 0) ∧ (SP.new m d ses bud tmo).ok h ∧ D = sndP p h (SP.new m d ses bud tmo)) ∨ (newSE m d ses bud tmo ≠ 0 ∧ v = tup2 nP (I (newSE m d ses bud tmo)) ∧ D = []) := by
  have hP := MPut_tr m tv hv hsd
  have hBl := Blocks_tr m tv hv
  have hdB := By_len d
  by_cases hok : m.ok
  rotate_left
  · have e : newSE m d ses bud tmo = 2 := if_neg fun h => hok h.1
    rw [if_neg hok, show mfE m = 2 from if_neg hok] at hP
    rw [e]
    refine Tr.enter env _ Tryz.func11 (by kernel_rfl) rfl Tryz.ntmps11 rfl (by repeat (first | exact has00 | refine has01 ?_)) fun w0 => ?_
    repeat' first|(refine gca ?_; first|(refine ca hP ?_; rintro _ _ ⟨o, rfl, ho, rfl⟩))|refine bx fun q => ?_|refine lda ?_|(refine ln (xs := By d) ?_; rw [hdB])|(refine wo ?_; first|(refine ao ?_; first|refine oa ?_)|refine oa ?_|refine gn ?_)|(refine gc ?_; first|refine ct ?_)|refine sq ?_|refine rg ?_|refine xc ?_|refine nl ?_|refine rt ?_
    exact r2 (.inr ⟨by decide, rfl, rfl⟩)
  have hbl := bytes_len m
  have htl := (mtB_sol hok.2.2.1 hok.2.2.2.2).2
  have hbi := MfS.blocks_in hok
  rw [if_pos hok, show mfE m = 0 from if_pos hok] at hP
  have hbB := By_len m.bytes
  by_cases hsz : (d.length : Int) = m.size
  rotate_left
  · have e : newSE m d ses bud tmo = 2 := if_neg fun h => hsz h.2
    rw [e]
    refine Tr.enter env _ Tryz.func11 (by kernel_rfl) rfl Tryz.ntmps11 rfl (by repeat (first | exact has00 | refine has01 ?_)) fun w0 => ?_
    repeat' first|(refine gca ?_; first|(refine ca hP ?_; rintro _ _ ⟨o, rfl, ho, rfl⟩))|refine bx fun q => ?_|refine lda ?_|(refine ln (xs := By d) ?_; rw [hdB])|(refine ln (xs := By m.bytes) ?_; rw [hbB])|(refine wo ?_; first|(refine ao ?_; first|refine oa ?_)|refine oa ?_|refine ld ?_|refine gy ?_|(refine gsi (fun hB => ?_) (fun hB => ?_) <;> try (exfalso; omega)))|(refine gc ?_; first|(refine cn (fun hB => ?_) (fun hB => ?_) <;> try (exfalso; omega)))|refine sq ?_|refine rg ?_|refine xc ?_|refine nl ?_|refine rt ?_
    all_goals first | (exfalso; omega) | exact r2 (.inr ⟨by decide, rfl, rfl⟩)
  by_cases hr : (0 ≤ ses ∧ ses ≤ 4294967295) ∧ (0 ≤ bud ∧ bud ≤ 2147483647) ∧ 1 ≤ tmo ∧ tmo ≤ 2147483647
  rotate_left
  · have e : newSE m d ses bud tmo = 3 := by rw [newSE, if_pos ⟨hok, hsz⟩, if_neg hr]
    rw [e]
    refine Tr.enter env _ Tryz.func11 (by kernel_rfl) rfl Tryz.ntmps11 rfl (by repeat (first | exact has00 | refine has01 ?_)) fun w0 => ?_
    repeat' first|(refine gca ?_; first|(refine ca hP ?_; rintro _ _ ⟨o, rfl, ho, rfl⟩))|refine bx fun q => ?_|refine lda ?_|(refine ln (xs := By d) ?_; rw [hdB])|(refine ln (xs := By m.bytes) ?_; rw [hbB])|(refine cav (B := []) (vs := [I ses, I 0, I 4294967295]) (cap := #[]) (f := 30) (swithin_tr ses 0 4294967295) ?_ (hs := Fit.nil); rintro _ _ ⟨rfl, rfl⟩)|(refine cav (B := []) (vs := [I bud, I 0, I 2147483647]) (cap := #[]) (f := 30) (swithin_tr bud 0 2147483647) ?_ (hs := Fit.nil); rintro _ _ ⟨rfl, rfl⟩)|(refine cav (B := []) (vs := [I tmo, I 1, I 2147483647]) (cap := #[]) (f := 30) (swithin_tr tmo 1 2147483647) ?_ (hs := Fit.nil); rintro _ _ ⟨rfl, rfl⟩)|(refine wo ?_; first|(refine ao ?_; first|refine oa ?_)|refine oa ?_|refine ld ?_|refine gy ?_|refine gn ?_|(refine gsi (fun hB => ?_) (fun hB => ?_) <;> try (exfalso; omega))|(refine gsn (fun hB => ?_) (fun hB => ?_) <;> try (exfalso; omega)))|(refine gc ?_; first|refine ct ?_|(refine cn (fun hB => ?_) (fun hB => ?_) <;> try (exfalso; omega)))|refine sq ?_|refine rg ?_|refine xc ?_|refine nl ?_|refine sk ?_|refine rt ?_
    all_goals first | (exfalso; omega) | exact r2 (.inr ⟨by decide, rfl, rfl⟩)
  have e : newSE m d ses bud tmo = 0 := by rw [newSE, if_pos ⟨hok, hsz⟩, if_pos hr]
  rw [e]
  obtain ⟨nb, hnb⟩ : ∃ nb : Nat, m.blocks = nb := ⟨m.blocks.toNat, by omega⟩
  have hnew : SP.new m d ses bud tmo = ⟨ses, bud, tmo, -1, 0, 1, m, d, List.replicate nb 0, List.replicate nb false, m.bytes⟩ := by
    unfold SP.new; rw [hnb, Int.toNat_natCast]
  rw [hnew]
  have hEO := fun (j : Nat) (h : j < nb) => enc_ok hok d (n := (j : Int)) (by omega)
  have hSy := fun (j : Nat) (h : j < nb) => Symbols_tr m tv dv d (j : Int) hv hok hsz (by omega)
  rw [hnb] at hBl
  have hnbl : nb ≤ 4294967295 := by omega
  refine Tr.enter env _ Tryz.func11 (by kernel_rfl) rfl Tryz.ntmps11 rfl (by repeat (first | exact has00 | refine has01 ?_)) fun w0 => ?_
  refine TC.one (v := tv) (xs := Is m.t) fun h1t => ?_
  repeat' first|(refine gca ?_; first|(refine ca hP ?_; rintro _ _ ⟨o, rfl, ho, rfl⟩)|(refine ca hBl ?_; rintro _ _ ⟨rfl, rfl⟩))|refine bx fun q => ?_|refine lda ?_|(refine ln (xs := By d) ?_; rw [hdB])|(refine ln (xs := By m.bytes) ?_; rw [hbB])|(refine cav (B := []) (vs := [I ses, I 0, I 4294967295]) (cap := #[]) (f := 30) (swithin_tr ses 0 4294967295) ?_ (hs := Fit.nil); rintro _ _ ⟨rfl, rfl⟩; rw [decide_eq_true hr.1])|(refine cav (B := []) (vs := [I bud, I 0, I 2147483647]) (cap := #[]) (f := 30) (swithin_tr bud 0 2147483647) ?_ (hs := Fit.nil); rintro _ _ ⟨rfl, rfl⟩; rw [decide_eq_true hr.2.1])|(refine cav (B := []) (vs := [I tmo, I 1, I 2147483647]) (cap := #[]) (f := 30) (swithin_tr tmo 1 2147483647) ?_ (hs := Fit.nil); rintro _ _ ⟨rfl, rfl⟩; rw [decide_eq_true hr.2.2])|(refine mkc fun c => ?_)|refine bdz ?_|(refine wo ?_; first|(refine ao ?_; first|refine oa ?_)|refine oa ?_|refine ld ?_|refine gy ?_|(refine gsi (fun hB => ?_) (fun hB => ?_) <;> try (exfalso; omega)))|(refine gc ?_; first|refine cf ?_|(refine cn (fun hB => ?_) (fun hB => ?_) <;> try (exfalso; omega)))|refine sq ?_|refine rg ?_|refine xc ?_|refine nl ?_|refine sk ?_|refine bk ?_
  rename_i qm _h0
  refine TC.im (B := [pt q [I ses, I bud, I tmo, o, nS, nS, I (-1), I 0, I 1, chv c] TSn, chp c 4 [], own TyB o (By m.bytes), pt qm [I m.size, I m.sym, I m.k, I m.seed, tv] TMf, vw tv (Is m.t), vw dv (By d)]) (Im.refl _) ?_
  refine TC.im (prs_nil TPt _) ?_
  refine TC.im (frz_nil _) ?_
  have hNw : ∀ (j : Nat) (o2 : Value) (hs : List Value), j < nb → Tr Tryz.prog 32 [o2, tv, I m.seed, I j] [vw o2 hs, velg y8 hs (m.syms d j), vw tv (Is m.t)] []
      fun v D => ∃ b cv ov sy hs', v = tup2 (ptr b) (I 0) ∧ D = encP b cv ov sy hs' m.t m.seed j (m.syms d j) ∧ cv.oneCell' = true ∧ ov.oneCell' = true := by
    intro j o2 hs hj
    refine (New_tr o2 tv hs (m.syms d j) m.t m.seed j).mono ?_
    rintro v D (⟨_, b, cv, ov, sy, hs', rfl, rfl, h1, h2, _⟩ | ⟨hne, _, _⟩)
    · exact ⟨b, cv, ov, sy, hs', rfl, rfl, h1, h2⟩
    · exact absurd (hEO j hj) hne
  refine TC.loop (ι := NwG2) (fun g => [(65, I g.j)]) (fun g => [pt q [I ses, I bud, I tmo, o, g.pts, nS, I (-1), I 0, I 1, chv c] TSn, prs TPt g.pts (prsL g.es (List.replicate g.j 0)), frz (encC m d 0 g.es)]) (fun g => (g.j ≤ nb ∧ g.es.length = g.j) ∧ g.pts.oneCell' = true ∧ ∀ (i : Nat) (e : EnH), g.es[i]? = some e → e.ok) (fun g => nb - g.j) ⟨0, nS, []⟩ [1, 5, 15, 64] ⟨⟨Nat.zero_le _, rfl⟩, rfl, by simp⟩ ?_ (hf := by dsimp only; first | apply Fit.all | ((repeat (first | (apply Fit.nilN; (repeat (first | apply nrm_nil | apply nrm_cons)); try apply nrm_rfl) | (apply Fit.cons; focus ((repeat (first | apply Tk.here | apply Tk.there)); first | done | fail)))); first | done | fail))
  rintro ⟨j, pts, es⟩ ⟨⟨g1, g2⟩, g3, g4⟩
  dsimp only at g1 g2 g3 g4 ⊢
  have hLl : (prsL es (List.replicate j 0)).length = j := by rw [prsL_len (by rw [g2, List.length_replicate]), List.length_replicate]
  by_cases hlt : j < nb
  · have hEA := fun e => encC_app m d es 0 e
    rw [Nat.zero_add, g2] at hEA
    have hPA := fun e => prsL_app es j e g2
    generalize hLg : prsL es (List.replicate j 0) = Lp at *
    repeat' first|(refine gca ?_; first|(refine ca (hSy j hlt) ?_; rintro _ _ ⟨o2, hs, rfl, ho2, hhl, rfl⟩)|(refine ca (hNw j o2 hs hlt) ?_; rintro _ _ ⟨b, cv, ov, sy, hs', rfl, rfl, hcv, hov⟩))|refine lda ?_|refine bdz ?_|refine slp (p1 := srcV b) (p2 := I 0) (fun gg => ?_)|refine app (L := Lp) (p1 := srcV b) (p2 := I 0) (fun pts2 hp2 => ?_) (h1 := ⟨rfl, rfl⟩)|(refine wo ?_; first|(refine ao ?_; first|refine aw ?_|refine oa ?_)|refine oa ?_|refine ld ?_|refine sr ?_)|(refine gc ?_; first|(refine ci (fun hB => ?_) (fun hB => ?_) <;> try (exfalso; omega)))|refine sq ?_|refine rg ?_|refine xc ?_|refine nl ?_|refine sk ?_|refine bk ?_|refine xb ?_
    refine TX.im (frz_snoc (C := encC m d 0 es) (D := encP b cv ov sy hs' m.t m.seed j (m.syms d j)) (by (repeat (first | exact nb0 | refine nb1 ?_)); first | done | fail) (by first | apply Fit.all | ((repeat (first | (apply Fit.nilN; (repeat (first | apply nrm_nil | apply nrm_cons)); try apply nrm_rfl) | (apply Fit.cons; focus ((repeat (first | apply Tk.here | apply Tk.there)); first | done | fail)))); first | done | fail))) ?_
    exact lp ⟨j + 1, pts2, es ++ [⟨b, cv, ov, sy, hs'⟩]⟩ ⟨⟨hlt, by simp [g2]⟩, hp2, fun i e he => by
      rcases Nat.lt_or_ge i es.length with h | h
      · rw [List.getElem?_append_left h] at he; exact g4 i e he
      · rw [List.getElem?_append_right h] at he
        have h0 : i - es.length = 0 := by
          rcases Nat.eq_zero_or_pos (i - es.length) with h | h
          · exact h
          · rw [List.getElem?_eq_none (by simp; omega)] at he; cases he
        rw [h0] at he
        have := Option.some.inj he
        subst this
        exact ⟨hcv, hov⟩⟩ (by dsimp only; omega) (hs := by (repeat (refine Sub.cons rfl (by first | rfl | go_num) ?_)); exact Sub.nil) (hf := by dsimp only; rw [hEA, hPA]; first | apply Fit.all | ((repeat (first | (apply Fit.nilN; (repeat (first | apply nrm_nil | apply nrm_cons)); try apply nrm_rfl) | (apply Fit.cons; focus ((repeat (first | apply Tk.here | apply Tk.there)); first | done | fail)))); first | done | fail))
  · obtain rfl : j = nb := by omega
    have hBr : Bo (List.replicate j false) = List.replicate j (.bool false) := List.map_replicate ..
    repeat' first|(refine lnp (L := prsL es (List.replicate j 0)) ?_; rw [hLl])|(refine mk (fun ak => ?_); rw [Int.toNat_natCast]; refine TO.one (v := ak) (xs := List.replicate j (.bool false)) fun hak => ?_)|(refine wo ?_; first|(refine ao ?_; first|refine oa ?_)|refine oa ?_|refine ld ?_|refine sr ?_)|(refine gc ?_; first|(refine ci (fun hB => ?_) (fun hB => ?_) <;> try (exfalso; omega)))|refine sq ?_|refine rg ?_|refine xc ?_|refine nl ?_|refine xe ?_|refine rt ?_
    rw [← hBr]
    refine r2 (.inl ⟨rfl, q, ⟨o, pts, ak, c, es⟩, rfl, ?_, rfl⟩)
    exact {
      n1 := by simp
      n2 := by simp [g2]
      n3 := by simp; omega
      enc := fun i e he => ⟨g4 i e he, hEO i (by have : i < es.length := (List.getElem?_eq_some_iff.1 he).1; omega)⟩
      bud := hr.2.1
      tmo := hr.2.2
      sil := by dsimp only; omega
      last := by dsimp only; omega
      sent := fun i => by
        dsimp only
        have h0 : (List.replicate j (0 : Int)).getD i 0 = 0 := by
          rw [List.getD_eq_getElem?_getD, List.getElem?_replicate]; split <;> rfl
        rw [h0]; have := hr.2.1; omega
      alv := fun _ => by dsimp only; omega
      opn := ho }
end Go.Art.Sn
set_option linter.unusedSimpArgs false
set_option linter.unusedVariables false
namespace Go.Art.Sn
open Go Go.Proofs Go.RowKit Go.Art
attribute [local irreducible] Fit pt own ro vw mpc lpt vels rels mow lrc dfr
attribute [local irreducible] lmp lme mit velg relg
theorem SamePacket_tr (kd sn bn pn rn : Int) (av bv : Value) (l : List Int) (ha : av.oneCell' = true) (hb : bv.oneCell' = true) (hl : inB l) : Tr Tryz.prog 75 [.agg #[I kd, I sn, I bn, I pn, I rn, av], .agg #[I kd, I sn, I bn, I pn, I rn, bv]] [vw av (By l), vw bv (By l)] []
    fun v D => v = .bool true ∧ D = [] := by
  have hS := SameBytes_tr av bv l l hl hl
  rw [decide_eq_true (show l = l from rfl)] at hS
  refine Tr.enter env _ Tryz.func75 (by kernel_rfl) rfl Tryz.ntmps75 rfl (by repeat (first | exact has00 | refine has01 ?_)) fun w0 => ?_
  repeat' first|(refine gca ?_; first|(refine ca hS ?_; rintro _ _ ⟨rfl, rfl⟩))|refine bx fun p => ?_|(refine wo ?_; first|(refine ao ?_; first|refine oa ?_)|refine oa ?_|refine ld ?_|refine gy ?_|(refine gsi (fun hB => ?_) (fun hB => ?_) <;> try (exfalso; omega)))|refine sq ?_|refine rg ?_|refine xc ?_|refine nl ?_|refine rt ?_
  all_goals first | (exfalso; omega) | exact r1 ⟨rfl, rfl⟩
theorem told1_tr (v : Value) (os : List Value) (l : List Int) (kd bn pn rn sn0 : Int) (wv : Value) (wl : List Int) (hos : os.length = 1) (hg : pgetR l = (⟨kd, 9, bn, pn, rn, wl⟩, 0)) (hw : wv.oneCell' = true) (hl : l.length ≤ 1099511627776) (hin : inB l) (hwl : inB wl) (hkd : kd ≠ 0) :
    Tr Tryz.prog 52 [v, I 0, .agg #[I kd, I sn0, I bn, I pn, I rn, wv]] [vw v os, velg y8 os [l], vw wv (By wl)] [] fun v D => v = .bool true ∧ D = [] := by
  have hG := fun b => PGet_tr b l hl hin
  rw [hg] at hG
  dsimp only at hG
  have hSP := fun av ha => SamePacket_tr kd 9 bn pn rn av wv wl ha hw hwl
  refine Tr.enter env _ Tryz.func52 (by kernel_rfl) rfl Tryz.ntmps52 rfl (by repeat (first | exact has00 | refine has01 ?_)) fun w0 => ?_
  refine TC.elg (g := y8) (hs := os) (ls := [l]) (fun hol => ?_)
  repeat' first|(refine gca ?_; first|(refine ca (hG (os.getD 0 nS)) ?_ (hp := has1 (has_elg (g := y8) (ls := [l]) (i := 0) (has_velg (by (repeat (first | apply List.Mem.head | apply List.Mem.tail)); first | done | fail)) (by simp)) has0); rintro _ _ ⟨dv, rfl, hdv, rfl⟩)|(refine ca (hSP dv hdv) ?_; rintro _ _ ⟨rfl, rfl⟩))|refine bx fun p => ?_|(refine ln (xs := os) ?_; rw [hos])|refine al fun z => ?_|refine srz ?_|refine lda ?_|(refine wo ?_; first|(refine ao ?_; first|refine oa ?_)|refine oa ?_|refine ld ?_|refine lv ?_|refine ix ?_|refine sr ?_|refine gy ?_)|(refine gc ?_; first|refine cf ?_|(refine ci (fun hB => ?_) (fun hB => ?_) <;> try (exfalso; omega)))|refine sq ?_|refine rg ?_|refine xc ?_|refine nl ?_|refine sk ?_|refine rt ?_
  all_goals first | (exfalso; omega) | exact r1 ⟨rfl, rfl⟩
abbrev m3 : MfS := ⟨3, 1, 2, 0, [0, 1]⟩
theorem three_tr : Tr Tryz.prog 53 [] [] [] fun v D => ∃ tv, v = .agg #[I 3, I 1, I 2, I 0, tv] ∧ tv.oneCell' = true ∧ D = [own 3 tv (Is [0, 1])] := by
  refine Tr.enter env _ Tryz.func53 (by kernel_rfl) rfl Tryz.ntmps53 rfl (by repeat (first | exact has00 | refine has01 ?_)) fun w0 => ?_
  repeat' first|refine al fun p => ?_|(refine sli (vs := [I 0, I 1]) (fun tv => ?_) (h1 := one_cons rfl (one_cons rfl one_nil)); refine TO.one (v := tv) (xs := [I 0, I 1]) fun h1 => ?_)|(refine bdz ?_)|refine srz ?_|refine sq ?_|refine rg ?_|refine xc ?_|refine nl ?_|refine rt ?_
  exact rca1 (vs := [I 3, I 1, I 2, I 0, tv]) ⟨tv, rfl, h1, rfl⟩
theorem m3_ok : m3.ok := by unfold MfS.ok; exact ⟨by decide, by decide, by decide, by decide, by decide⟩
theorem made_tr (bud tmo : Int) (hb : 0 ≤ bud ∧ bud ≤ 2147483647) (ht : 1 ≤ tmo ∧ tmo ≤ 2147483647) : Tr Tryz.prog 24 [I bud, I tmo] [] []
    fun v D => ∃ p h, v = ptr p ∧ (SP.new m3 [5, 6, 7] 9 bud tmo).ok h ∧ D = sndP p h (SP.new m3 [5, 6, 7] 9 bud tmo) := by
  have e : newSE m3 [5, 6, 7] 9 bud tmo = 0 := by rw [newSE, if_pos ⟨m3_ok, rfl⟩, if_pos ⟨by decide, hb, ht⟩]
  have hN : ∀ tv dv, tv.oneCell' = true → Tr Tryz.prog 11 [.agg #[I 3, I 1, I 2, I 0, tv], dv, I 9, I bud, I tmo] [vw tv (Is [0, 1]), vw dv (By [5, 6, 7])] []
      fun v D => ∃ p h, v = tup2 (ptr p) (I 0) ∧ (SP.new m3 [5, 6, 7] 9 bud tmo).ok h ∧ D = sndP p h (SP.new m3 [5, 6, 7] 9 bud tmo) := by
    intro tv dv hv
    refine (SNew_tr m3 tv dv [5, 6, 7] 9 bud tmo hv (by decide) (by decide)).mono ?_
    rintro v D (⟨_, p, h, rfl, hok, rfl⟩ | ⟨hne, _, _⟩)
    · exact ⟨p, h, rfl, hok, rfl⟩
    · exact absurd e hne
  generalize SP.new m3 [5, 6, 7] 9 bud tmo = s0 at *
  refine Tr.enter env _ Tryz.func24 (by kernel_rfl) rfl Tryz.ntmps24 rfl (by repeat (first | exact has00 | refine has01 ?_)) fun w0 => ?_
  repeat' first|(refine gca ?_; first|(refine ca three_tr ?_; rintro _ _ ⟨tv, rfl, htv, rfl⟩)|(refine ca (hN tv dv htv) ?_; rintro _ _ ⟨p, h, rfl, hok, rfl⟩))|(refine sli (vs := By [5, 6, 7]) (fun dv => ?_) (h1 := By_one _))|(refine wo ?_; first|(refine ao ?_; first|refine oa ?_)|refine oa ?_)|(refine gc ?_; first|refine cf ?_)|refine sq ?_|refine rg ?_|refine xc ?_|refine nl ?_|refine sk ?_|refine rt ?_
  exact r1 ⟨p, h, rfl, hok, rfl⟩
theorem open9_tr : Tr Tryz.prog 23 [] [] [] fun v D => ∃ o, v = .agg #[I 5, I 0, I 0, I 0, I 0, o] ∧ o.oneCell' = true ∧ D = [own TyB o (By m3.bytes)] := by
  have hP : ∀ tv, tv.oneCell' = true → Tr Tryz.prog 29 [.agg #[I 3, I 1, I 2, I 0, tv]] [vw tv (Is [0, 1])] [] fun v D => ∃ o, v = tup2 o (I 0) ∧ o.oneCell' = true ∧ D = [own TyB o (By m3.bytes)] := by
    intro tv hv
    have := MPut_tr m3 tv hv (by decide)
    rw [if_pos m3_ok, show mfE m3 = 0 from if_pos m3_ok] at this
    exact this
  generalize m3.bytes = mb at *
  refine Tr.enter env _ Tryz.func23 (by kernel_rfl) rfl Tryz.ntmps23 rfl (by repeat (first | exact has00 | refine has01 ?_)) fun w0 => ?_
  repeat' first|(refine gca ?_; first|(refine ca three_tr ?_; rintro _ _ ⟨tv, rfl, htv, rfl⟩)|(refine ca (hP tv htv) ?_; rintro _ _ ⟨o, rfl, ho, rfl⟩))|refine al fun p => ?_|refine bdz ?_|refine srz ?_|(refine wo ?_; first|refine oa ?_)|refine sq ?_|refine rg ?_|refine xc ?_|refine nl ?_|refine rt ?_
  exact rca1 (vs := [I 5, I 0, I 0, I 0, I 0, o]) ⟨o, rfl, ho, rfl⟩
end Go.Art.Sn
set_option linter.unusedSimpArgs false
set_option linter.unusedVariables false
namespace Go.Art
open Go Go.RowKit

/-- The m-th cell of a slice. -/
def adr (v : Value) (m : Nat) : Addr := (addrAt v 0).add m
theorem adr_add (v : Value) (m o : Nat) : (adr v m).add o = adr v (m + o) := Deep.add_add _ _ _
/-- The slice value v is of n elements, whose cells read xs. -/
def SlW (w : World) (v : Value) (n : Nat) (xs : List Value) : Prop :=
  ∃ a cap, v = .slice a n cap ∧ n ≤ cap ∧ cap ≤ maxLen ∧ (0 < n → ∃ x, a = some x) ∧ ∀ i u, xs[i]? = some u → ∃ x, a = some x ∧ w.cell? (x.add i) = some u
theorem SlW.cell {w : World} {v : Value} {n : Nat} {xs : List Value} (h : SlW w v n xs) {i : Nat} {u : Value} (hi : xs[i]? = some u) : w.cell? (adr v i) = some u := by
  obtain ⟨a, cap, rfl, _, _, _, hc⟩ := h
  obtain ⟨x, rfl, hx⟩ := hc i u hi
  show w.cell? ((x.add 0).add i) = _
  rw [Deep.add_add, Nat.zero_add]; exact hx
theorem SlW.len {w : World} {v : Value} {n : Nat} {xs : List Value} (h : SlW w v n xs) : n ≤ 9223372036854775807 := by
  obtain ⟨_, cap, _, h1, h2, _⟩ := h
  unfold maxLen at h2; omega
theorem add_block (x : Addr) (i : Nat) : (x.add i).block = x.block := by unfold Addr.add; split <;> rfl
/-- A slice of structs that is lent. -/
def vwf (v : Value) (n : Nat) (xs : List Value) : Ch where
  wr := fun _ => False
  rd := fun _ => False
  bd := fun x => xs ≠ [] ∧ v.ownBlock = some x
  P := fun w => SlW w v n xs
  loc := fun {w w'} h hb => by
    obtain ⟨a, cap, rfl, h1, h2, h0, h3⟩ := h
    refine ⟨a, cap, rfl, h1, h2, h0, fun i u hi => ?_⟩
    obtain ⟨x, rfl, hx⟩ := h3 i u hi
    exact ⟨x, rfl, (World.cell?_of_block (by rw [add_block]; exact hb _ (.inr (.inr ⟨by rintro rfl; simp at hi, rfl⟩)))).trans hx⟩
  lt := fun {w b} h hb => by
    rcases hb with hb | hb | ⟨h4, h5⟩
    · exact hb.elim
    · exact hb.elim
    · obtain ⟨a, cap, rfl, h1, h2, h0, h3⟩ := h
      cases xs with
      | nil => exact absurd rfl h4
      | cons u r =>
        obtain ⟨x, rfl, hx⟩ := h3 0 u rfl
        have := World.block_lt_of_cell? w _ hx
        rw [add_block] at this
        simp only [Value.ownBlock, Option.some.injEq] at h5
        rw [← h5]; exact this
instance (v : Value) (n : Nat) (xs : List Value) : Lent (vwf v n xs) := ⟨fun _ => ⟨fun h => h, fun h => h⟩⟩
theorem has_vwf {F : List Ch} {v : Value} {n : Nat} {xs : List Value} (h : vwf v n xs ∈ F) : Has F (vwf v n xs) := ⟨fun _ hw => hw.h _ h, fun _ h => h, fun _ h => h, fun _ hb => ⟨_, h, hb⟩⟩
theorem has_wf {A : List Ch} {w : World} {v : Value} {n : Nat} {xs : List Value} (h : vwf v n xs ∈ A) (hw : Sat A w) : SlW w v n xs := hw.h (vwf v n xs) h
/-- Cells of rows that are all of sz cells. -/
theorem flat_row : ∀ {rs : List (List Value)} {sz : Nat}, (∀ r ∈ rs, r.length = sz) → ∀ {i : Nat} {r : List Value}, rs[i]? = some r → (rs.flatten.drop (sz * i)).take sz = r
  | [], _, _, i, r, h => by simp at h
  | a :: rs, sz, hl, 0, r, h => by
    simp at h; subst h
    have := hl a (by simp)
    simp [List.take_append, this, List.take_of_length_le]
  | a :: rs, sz, hl, i + 1, r, h => by
    have ha := hl a (by simp)
    have ih := flat_row (rs := rs) (sz := sz) (fun r hr => hl r (by simp [hr])) (i := i) (r := r) (by simpa using h)
    rw [List.flatten_cons, show sz * (i + 1) = a.length + sz * i by rw [ha, Nat.mul_succ]; omega, List.drop_append, List.drop_eq_nil_of_le (by omega), List.nil_append, Nat.add_sub_cancel_left]
    exact ih
theorem flat_at {rs : List (List Value)} {sz i o : Nat} {r : List Value} {u : Value} (hl : ∀ r ∈ rs, r.length = sz) (h : rs[i]? = some r) (ho : r[o]? = some u) : rs.flatten[sz * i + o]? = some u := by
  have h1 := flat_row hl h
  have h2 : ((rs.flatten.drop (sz * i)).take sz)[o]? = some u := by rw [h1]; exact ho
  rw [List.getElem?_take] at h2
  split at h2
  · rwa [List.getElem?_drop] at h2
  · cases h2
section
variable {P : Program} {E : Env P} {n : Sh} {X : Cx} {s : List K} {fr : Fr} {A A' : List Ch} {ops : Array Oper} {rest : List Oper} {d m N sz by_ : Nat} {ty t el : TypeId} {pos : String} {after : Array Edge} {v u z : Value} {x y : Operand} {xs vs : List Value} {dt : TypeDesc} {k1 : IntKind} {w : World} {fs : Array Field} {f : Nat} {fld : Field}
theorem TC.lenf {c0 : Code} (k : N ≤ 9223372036854775807 → TC E n X s c0 fr A) (hm : vwf v N xs ∈ A := by (repeat (first | apply List.Mem.head | apply List.Mem.tail)); first | done | fail) : TC E n X s c0 fr A := TC.fact (fun w hw => (has_wf hm hw).len) k
theorem lnf (k : TO E n X s ops rest ((d, I N) :: fr) A) (hx : ev fr x = some v := by rfl) (hm : vwf v N xs ∈ A := by (repeat (first | apply List.Mem.head | apply List.Mem.tail)); first | done | fail) (ht : lk E.und t = some (.slice el) := by rfl) (hd : Nat.blt d n.n = true := by rfl) :
    TO E n X s ops (⟨some d, .call ⟨.builtin .len, #[x], #[t]⟩, ty, pos, after, none⟩ :: rest) fr A := TO.val (v := I N) (fun w h => ⟨fun a ha _ _ _ _ => by
  obtain ⟨_, cap, rfl, _⟩ := has_wf hm h
  simp only [execOp, resolve]
  simp [ha.ev hx, invoke, builtin, Builtin.len_, run_underlying (P := P) (E.un ht) w, goInt]⟩) k hd
theorem R_idxW {i : Int} (ht : lk E.und t = some (.slice el)) (he : lk E.inf el = some (z, sz, by_)) (hx : ev fr x = some v) (hy : ev fr y = some (.int k1 i)) (hS : SlW w v N xs) (h : 0 ≤ i ∧ i < N) : OpV P n fr (.indexAddr t x y) ty w (.pointer (some (adr v (sz * i.toNat)))) w := ⟨fun b hb _ _ _ _ => by
  obtain ⟨a, cap, rfl, h1, h2, h0, hc⟩ := hS
  obtain ⟨inf, hi, _, hsz, _⟩ := E.info he
  obtain ⟨ad, rfl⟩ := h0 (by omega)
  simp only [execOp, hb.ev hx, hb.ev hy]
  simp [Instr.indexAt, asIntOf, run_underlying (P := P) (E.un ht) w, h, sizeOf, typeInfo, hi, hsz, adr, addrAt, Deep.add_add, Nat.mul_comm]⟩
theorem ixf {i : Int} (k : TO E n X s ops rest ((d, .pointer (some (adr v (sz * i.toNat)))) :: fr) A) (hx : ev fr x = some v := by rfl) (hy : ev fr y = some (.int k1 i) := by rfl) (hm : vwf v N xs ∈ A := by (repeat (first | apply List.Mem.head | apply List.Mem.tail)); first | done | fail) (hb : 0 ≤ i ∧ i < N := by omega)
    (ht : lk E.und t = some (.slice el) := by rfl) (he : lk E.inf el = some (z, sz, by_) := by rfl) (hd : Nat.blt d n.n = true := by rfl) : TO E n X s ops (⟨some d, .indexAddr t x y, ty, pos, after, none⟩ :: rest) fr A := TO.val (fun _ h => R_idxW ht he hx hy (has_wf hm h) hb) k hd
theorem ixfn {i : Nat} (k : TO E n X s ops rest ((d, .pointer (some (adr v (sz * i)))) :: fr) A) (hx : ev fr x = some v := by rfl) (hy : ev fr y = some (.int k1 (i : Int)) := by rfl) (hm : vwf v N xs ∈ A := by (repeat (first | apply List.Mem.head | apply List.Mem.tail)); first | done | fail) (hb : i < N := by omega)
    (ht : lk E.und t = some (.slice el) := by rfl) (he : lk E.inf el = some (z, sz, by_) := by rfl) (hd : Nat.blt d n.n = true := by rfl) : TO E n X s ops (⟨some d, .indexAddr t x y, ty, pos, after, none⟩ :: rest) fr A := ixf (i := (i : Int)) k hx hy hm (by omega) ht he hd
theorem qixf {i : Int} (k : TQ E n X s ops rest ((d, .pointer (some (adr v (sz * i.toNat)))) :: fr) A) (hx : ev fr x = some v := by rfl) (hy : ev fr y = some (.int k1 i) := by rfl) (hm : vwf v N xs ∈ A := by (repeat (first | apply List.Mem.head | apply List.Mem.tail)); first | done | fail) (hb : 0 ≤ i ∧ i < N := by omega)
    (ht : lk E.und t = some (.slice el) := by rfl) (he : lk E.inf el = some (z, sz, by_) := by rfl) (hd : Nat.blt d n.n = true := by rfl) : TQ E n X s ops (⟨some d, .indexAddr t x y, ty, pos, after, none⟩ :: rest) fr A := TQ.val (fun _ h => R_idxW ht he hx hy (has_wf hm h) hb) k hd
theorem qixfn {i : Nat} (k : TQ E n X s ops rest ((d, .pointer (some (adr v (sz * i)))) :: fr) A) (hx : ev fr x = some v := by rfl) (hy : ev fr y = some (.int k1 (i : Int)) := by rfl) (hm : vwf v N xs ∈ A := by (repeat (first | apply List.Mem.head | apply List.Mem.tail)); first | done | fail) (hb : i < N := by omega)
    (ht : lk E.und t = some (.slice el) := by rfl) (he : lk E.inf el = some (z, sz, by_) := by rfl) (hd : Nat.blt d n.n = true := by rfl) : TQ E n X s ops (⟨some d, .indexAddr t x y, ty, pos, after, none⟩ :: rest) fr A := qixf (i := (i : Int)) k hx hy hm (by omega) ht he hd
theorem qlnf (k : TQ E n X s ops rest ((d, I N) :: fr) A) (hx : ev fr x = some v := by rfl) (hm : vwf v N xs ∈ A := by (repeat (first | apply List.Mem.head | apply List.Mem.tail)); first | done | fail) (ht : lk E.und t = some (.slice el) := by rfl) (hd : Nat.blt d n.n = true := by rfl) :
    TQ E n X s ops (⟨some d, .call ⟨.builtin .len, #[x], #[t]⟩, ty, pos, after, none⟩ :: rest) fr A := TQ.val (v := I N) (fun w h => ⟨fun a ha _ _ _ _ => by
  obtain ⟨_, cap, rfl, _⟩ := has_wf hm h
  simp only [execOp, resolve]
  simp [ha.ev hx, invoke, builtin, Builtin.len_, run_underlying (P := P) (E.un ht) w, goInt]⟩) k hd
theorem R_fldW (ht : lk E.und t = some (.struct fs)) (hf : fs[f]? = some fld) (he : lk E.inf fld.type = some (z, sz, by_)) (hsz : Nat.beq sz 0 = false) (hx : ev fr x = some (.pointer (some (adr v m)))) : OpV P n fr (.fieldAddr t x f) ty w (.pointer (some (adr v (m + fld.offset)))) w := ⟨fun a ha _ _ _ _ => by
  obtain ⟨inf, hi, _, hs, _⟩ := E.info he
  have h0 : ¬ sz = 0 := nbeq_ne hsz
  simp only [execOp, ha.ev hx]
  simp [Instr.fieldAt, run_underlying (P := P) (E.un ht) w, hf, Instr.sureAddr, fieldPlace, sizeOf, typeInfo, hi, hs, h0, adr_add]⟩
theorem faf {nm tg pk : String} {fty : TypeId} {off bo : Nat} {em : Bool} (k : TO E n X s ops rest ((d, .pointer (some (adr v (m + off)))) :: fr) A) (hx : ev fr x = some (.pointer (some (adr v m))) := by rfl) (ht : lk E.und t = some (.struct fs) := by rfl) (hf : fs[f]? = some ⟨nm, fty, off, em, tg, pk, bo⟩ := by rfl) (he : lk E.inf fty = some (z, sz, by_) := by rfl) (hsz : Nat.beq sz 0 = false := by rfl) (hd : Nat.blt d n.n = true := by rfl) :
    TO E n X s ops (⟨some d, .fieldAddr t x f, ty, pos, after, none⟩ :: rest) fr A := TO.val (fun _ _ => R_fldW ht hf he hsz hx) k hd
theorem qfaf {nm tg pk : String} {fty : TypeId} {off bo : Nat} {em : Bool} (k : TQ E n X s ops rest ((d, .pointer (some (adr v (m + off)))) :: fr) A) (hx : ev fr x = some (.pointer (some (adr v m))) := by rfl) (ht : lk E.und t = some (.struct fs) := by rfl) (hf : fs[f]? = some ⟨nm, fty, off, em, tg, pk, bo⟩ := by rfl) (he : lk E.inf fty = some (z, sz, by_) := by rfl) (hsz : Nat.beq sz 0 = false := by rfl) (hd : Nat.blt d n.n = true := by rfl) :
    TQ E n X s ops (⟨some d, .fieldAddr t x f, ty, pos, after, none⟩ :: rest) fr A := TQ.val (fun _ _ => R_fldW ht hf he hsz hx) k hd
theorem ldf (hj : xs[m]? = some u) (k : TO E n X s ops rest ((d, u) :: fr) A) (hx : ev fr x = some (.pointer (some (adr v m))) := by rfl) (hm : vwf v N xs ∈ A := by (repeat (first | apply List.Mem.head | apply List.Mem.tail)); first | done | fail) (ht : lk E.und t = some dt := by rfl) (hg : aggB dt = false := by rfl) (hd : Nat.blt d n.n = true := by rfl) :
    TO E n X s ops (⟨some d, .load t x, ty, pos, after, none⟩ :: rest) fr A := TO.val (fun _ h => R_load ht hg hx ((has_wf hm h).cell hj)) k hd
theorem qldf (hj : xs[m]? = some u) (k : TQ E n X s ops rest ((d, u) :: fr) A) (hx : ev fr x = some (.pointer (some (adr v m))) := by rfl) (hm : vwf v N xs ∈ A := by (repeat (first | apply List.Mem.head | apply List.Mem.tail)); first | done | fail) (ht : lk E.und t = some dt := by rfl) (hg : aggB dt = false := by rfl) (hd : Nat.blt d n.n = true := by rfl) :
    TQ E n X s ops (⟨some d, .load t x, ty, pos, after, none⟩ :: rest) fr A := TQ.val (fun _ h => R_load ht hg hx ((has_wf hm h).cell hj)) k hd
theorem R_loadW (ht : lk E.und t = some dt) (hg : aggB dt = true) (hi : lk E.inf t = some (z, sz, by_)) (hx : ev fr x = some (.pointer (some (adr v m)))) (hS : SlW w v N xs) (hv : (xs.drop m).take sz = vs) (hl : vs.length = sz) : OpV P n fr (.load t x) ty w (.agg vs.toArray) w := ⟨fun a ha _ _ _ _ => by
  obtain ⟨inf, h1, _, h2, _⟩ := E.info hi
  have h3 := run_loadCells_list (P := P) w (adr v m) vs (fun j u hm => by
    rw [adr_add]
    refine hS.cell ?_
    rw [← hv, List.getElem?_take] at hm
    split at hm
    · rw [List.getElem?_drop] at hm; simpa using hm
    · cases hm)
  rw [hl] at h3
  simp only [execOp, ha.ev hx]
  simp [Instr.loadAt, Instr.sureAddr, loadVar, aggB_t (w := w) ht hg, sizeOf, typeInfo, h1, h2, h3]⟩
theorem ldaf (hv : (xs.drop m).take sz = vs) (k : TO E n X s ops rest ((d, .agg vs.toArray) :: fr) A) (hx : ev fr x = some (.pointer (some (adr v m))) := by rfl) (hm : vwf v N xs ∈ A := by (repeat (first | apply List.Mem.head | apply List.Mem.tail)); first | done | fail) (ht : lk E.und t = some dt := by rfl) (hg : aggB dt = true := by rfl) (hi : lk E.inf t = some (z, sz, by_) := by rfl) (hl : vs.length = sz := by rfl) (hd : Nat.blt d n.n = true := by rfl) :
    TO E n X s ops (⟨some d, .load t x, ty, pos, after, none⟩ :: rest) fr A := TO.val (fun _ h => R_loadW ht hg hi hx (has_wf hm h) hv hl) k hd
end
end Go.Art
set_option linter.unusedSimpArgs false
set_option linter.unusedVariables false
namespace Go.Art
open Go Go.RowKit

/-- All of a list are lent. -/
structure SatL (A : List Ch) (w : World) : Prop where
  s : Sat A w
  l : ∀ c ∈ A, ∀ b, ¬ c.wr b
theorem SatL.nil (w : World) : SatL [] w := ⟨Sat.nil w, fun _ h => nomatch h⟩
theorem SatL.cons {c : Ch} {A : List Ch} {w : World} [hc : Lent c] (h : c.P w) (k : SatL A w) : SatL (c :: A) w :=
  ⟨Sat.cons.2 ⟨h, fun a ha => ⟨fun b hb => absurd hb (hc.lent b).1, fun b hb => absurd hb (k.l a ha b)⟩, k.s⟩, fun x hx b => by rcases List.mem_cons.1 hx with rfl | hx; exact (hc.lent b).1; exact k.l x hx b⟩

/-- What the walk is told of a slice of slices of integers that came in. -/
structure IsMat (k : IntKind) (w : World) (v : Value) (hs : List Value) (ls : List (List Int)) : Prop where
  sl : Sl w v hs
  len : hs.length = ls.length
  el : ∀ i, i < ls.length → Sl w (hs.getD i nS) ((ls.getD i []).map (.int k)) ∧ ∀ n ∈ ls.getD i [], (Lit.int k n).wf = true
theorem IsMat.els {w : World} {v : Value} {hs : List Value} {ls : List (List Int)} (h : IsMat .i64 w v hs ls) : elsP hs ls w := ⟨h.len, fun i hi => (h.el i hi).1⟩
theorem getD_map_range {α : Type} (f : Nat → α) (n i : Nat) (z : α) (h : i < n) : ((List.range n).map f).getD i z = f i := by simp [List.getD_eq_getElem?_getD, h]
theorem isMat_of {H : Type} {enc : TypeId × Value → H} {P : Program} {w : World} {base fuel : Nat} {t e q : TypeId} {k : IntKind} {a : Option Addr} {len cap : Nat} {x : DataW H × List MemPlace} (ht : P.underlying t = some (.slice e)) (he : P.underlying e = some (.slice q)) (hq : P.underlying q = some (.int k))
    (ce : P.cellsOf e = 1) (cq : P.cellsOf q = 1) (h : DataW.trod enc P w base (fun _ => true) true fuel t [.slice a len cap] = some x) : ∃ hs ls, IsMat k w (.slice a len cap) hs ls := by
  rcases Deep.open_int_rows ht he hq ce cq h with ⟨hcs, _⟩ | ⟨ad, l, c, A, L, C, Z, hcs, _, hl, hm, _, hr⟩
  · injection hcs with hcs; injection hcs with h1 h2 h3
    subst h1 h2 h3
    exact ⟨[], [], Sl.nil w, rfl, fun i hi => by simp at hi⟩
  · injection hcs with hcs; injection hcs with h1 h2 h3
    subst h1 h2 h3
    refine ⟨(List.range len).map fun r => .slice (A r) (L r) (C r), (List.range len).map fun r => (Z r).take (L r), ?_, by simp, fun i hi => ?_⟩
    · refine ⟨some ad, cap, by simp, by simpa using hl, hm, fun i u hi => ⟨ad, rfl, ?_⟩⟩
      simp only [List.getElem?_map, Option.map_eq_some_iff] at hi
      obtain ⟨r, hr1, rfl⟩ := hi
      have : i < len := by
        have := (List.getElem?_eq_some_iff.1 hr1).1
        simpa using this
      rw [List.getElem?_range this] at hr1; cases hr1
      exact (hr i (by omega)).1
    · have hi' : i < len := by simpa using hi
      obtain ⟨_, h4, h5, h6, h7, h8, h9⟩ := hr i (by omega)
      rw [getD_map_range _ _ _ _ hi', getD_map_range _ _ _ _ hi']
      refine ⟨?_, fun n hn => h7 n (List.mem_of_mem_take hn)⟩
      cases hA : A i with
      | none =>
        have hc := h8 hA
        have hz : Z i = [] := List.eq_nil_of_length_eq_zero (by omega)
        have h0 : L i = 0 := by omega
        rw [hz, hc, h0]; exact Sl.nil w
      | some a' =>
        refine ⟨some a', C i, by simp; omega, by simp; omega, h5, fun j u hj => ⟨a', rfl, ?_⟩⟩
        simp only [List.getElem?_map, Option.map_eq_some_iff] at hj
        obtain ⟨z, hz1, rfl⟩ := hj
        rw [List.getElem?_take] at hz1
        split at hz1
        · rw [(h9 a' hA).2 j (by omega)]
          simp [List.getD_eq_getElem?_getD, hz1]
        · cases hz1
end Go.Art
set_option linter.unusedSimpArgs false
set_option linter.unusedVariables false
namespace Go.Art
open Go Go.RowKit
section
variable {H : Type} {enc : TypeId × Value → H} {P : Program} {w : World} {base fuel : Nat} {t e : TypeId} {k : IntKind} {cs : List Value} {x : DataW H × List MemPlace}
theorem Env.cells (E : Env P) {z : Value} {s b : Nat} (h : lk E.inf t = some (z, s, b)) : P.cellsOf t = s := by
  obtain ⟨i, h1, _, h2, _⟩ := E.info h
  simp [Program.cellsOf, h1, h2]
theorem leaf_int (E : Env P) (h : DataW.trod enc P w base (fun _ => true) true fuel t cs = some x) (ht : lk E.und t = some (.int k) := by rfl) : ∃ n, cs = [.int k n] ∧ (Lit.int k n).wf = true := by
  obtain ⟨n, h1, _, h2⟩ := DataW.trod_int (E.un ht) h
  exact ⟨n, h1, h2⟩
theorem leaf_field (E : Env P) {fs : Array Field} (h : DataW.trod enc P w base (fun _ => true) true fuel t cs = some x) (ht : lk E.und t = some (.struct fs) := by rfl) {i : Nat} {f : Field} {z : Value} {s b : Nat} (hf : fs[i]? = some f) (he : lk E.inf f.type = some (z, s, b)) :
    ∃ n y, DataW.trod enc P w base (fun _ => true) true n f.type ((cs.drop f.offset).take s) = some y := by
  obtain ⟨xs, n, _, _, _, hl, hx⟩ := DataW.trod_struct (E.un ht) h
  have h1 := hx i f hf
  rw [E.cells he] at h1
  have : i < xs.length := by rw [hl]; exact (Array.getElem?_eq_some_iff.1 hf).1
  exact ⟨n, xs[i], by rw [h1, List.getElem?_eq_getElem this]⟩
theorem leaf_len (E : Env P) {fs : Array Field} (h : DataW.trod enc P w base (fun _ => true) true fuel t cs = some x) (ht : lk E.und t = some (.struct fs) := by rfl) {z : Value} {s b : Nat} (he : lk E.inf t = some (z, s, b)) : cs.length = s := by
  obtain ⟨xs, n, _, _, h1, _⟩ := DataW.trod_struct (E.un ht) h
  rw [h1, E.cells he]
/-- A slice of integers. -/
theorem leaf_row (E : Env P) (h : DataW.trod enc P w base (fun _ => true) true fuel t cs = some x) {z : Value} {b : Nat} (ht : lk E.und t = some (.slice e) := by rfl) (he : lk E.und e = some (.int k) := by rfl) (hc : lk E.inf e = some (z, 1, b) := by rfl) :
    ∃ (v : Value) (l : List Int), cs = [v] ∧ Sl w v (l.map (.int k)) ∧ (∀ n ∈ l, (Lit.int k n).wf = true) ∧ v.oneCell' = true := by
  rcases Go.ChangeShapes.open_ints (E.un ht) (E.un he) (E.cells hc) h with ⟨rfl, _⟩ | ⟨a, len, cap, zs, rfl, _, hl, hm, hz, _, hcell, hw⟩
  · exact ⟨_, [], rfl, Sl.nil w, by simp, rfl⟩
  · simp only [if_true] at hz
    refine ⟨_, zs.take len, rfl, ⟨some a, cap, by simp; omega, by simp; omega, hm, fun i u hi => ⟨a, rfl, ?_⟩⟩, fun n hn => hw n (List.mem_of_mem_take hn), rfl⟩
    have hlt : i < len ∧ i < zs.length := by
      have := (List.getElem?_eq_some_iff.1 hi).1
      simp at this; omega
    rw [hcell i hlt.2]
    simp [hlt.1, hlt.2] at hi
    rw [← hi]; simp [List.getD_eq_getElem?_getD, hlt.2]
/-- A slice of structs: its rows. -/
theorem leaf_rows (E : Env P) (h : DataW.trod enc P w base (fun _ => true) true fuel t cs = some x) {z : Value} {s b : Nat} (ht : lk E.und t = some (.slice e) := by rfl) (hc : lk E.inf e = some (z, s, b) := by rfl) :
    ∃ (v : Value) (rs : List (List Value)), cs = [v] ∧ SlW w v rs.length rs.flatten ∧ (∀ r ∈ rs, r.length = s) ∧ (∀ (i : Nat) (r : List Value), rs[i]? = some r → ∃ n y, DataW.trod enc P w base (fun _ => true) true n e r = some y) ∧ v.oneCell' = true := by
  rcases Deep.open_slice (E.un ht) h with ⟨rfl, _⟩ | ⟨a, len, cap, m, n, D, Pl, rfl, _, hl, hm, hmm, _, hx⟩
  · exact ⟨_, [], rfl, ⟨none, 0, rfl, Nat.le_refl _, Nat.zero_le _, fun h => absurd h (Nat.lt_irrefl _), fun i u hi => by simp at hi⟩, by simp, fun i r h => by simp at h, rfl⟩
  · simp only [if_true] at hmm
    subst hmm
    rw [E.cells hc] at hx
    obtain ⟨R, hR⟩ := Deep.choose_lt (α := List Value) (n := m) (p := fun i cs' => w.cells? base (a.add (i * s)) s = some cs' ∧ DataW.trod enc P w base (fun _ => true) true n e cs' = some (D i, Pl i)) hx
    have hlen : ∀ i, i < m → (R i).length = s := fun i hi => (World.cells?_some (hR i hi).1).2.1
    refine ⟨_, (List.range len).map R, rfl, ⟨some a, m, by simp, by simpa using hl, hm, fun _ => ⟨a, rfl⟩, fun i u hi => ⟨a, rfl, ?_⟩⟩, ?_, ?_, rfl⟩
    · have key : ∀ (k : Nat), k ≤ m → ∀ i u, (((List.range k).map R).flatten)[i]? = some u → w.cell? (a.add i) = some u := by
        intro k
        induction k with
        | zero => intro _ i u h; simp at h
        | succ k ih =>
          intro hk i u h
          rw [List.range_succ, List.map_append, List.flatten_append] at h
          have hfl : (((List.range k).map R).flatten).length = k * s := by
            have : ∀ j, j ≤ k → (((List.range j).map R).flatten).length = j * s := by
              intro j
              induction j with
              | zero => intro _; simp
              | succ j ihj => intro hj; rw [List.range_succ, List.map_append, List.flatten_append, List.length_append, ihj (by omega)]; simp [hlen j (by omega), Nat.succ_mul]
            exact this k (Nat.le_refl _)
          by_cases hlt : i < k * s
          · rw [List.getElem?_append_left (by omega)] at h
            exact ih (by omega) i u h
          · rw [List.getElem?_append_right (by omega), hfl] at h
            simp at h
            have hs : i - k * s < s := by
              have := (List.getElem?_eq_some_iff.1 h).1
              rw [hlen k (by omega)] at this; exact this
            have h3 := (World.cells?_some (hR k (by omega)).1).2.2 (i - k * s) hs
            rw [Deep.add_add, show k * s + (i - k * s) = i by omega, h] at h3
            exact h3
      exact key len hl i u hi
    · intro r hr
      obtain ⟨i, hi, rfl⟩ := List.mem_map.1 hr
      exact hlen i (by have := List.mem_range.1 hi; omega)
    · intro i r hi
      simp only [List.getElem?_map, Option.map_eq_some_iff] at hi
      obtain ⟨j, hj, rfl⟩ := hi
      have hj' : i < len := by simpa using (List.getElem?_eq_some_iff.1 hj).1
      rw [List.getElem?_range hj'] at hj
      cases hj
      exact ⟨n, _, (hR i (by omega)).2⟩
theorem wide_agg (E : Env P) {fs : Array Field} {r : Reach} {v : Value} (h : Value.okWide P w r base t v) (ht : lk E.und t = some (.struct fs) := by rfl) : ∃ cs, v = .agg cs := by
  unfold Value.okWide at h
  rw [E.un ht] at h
  obtain ⟨cs, rfl, _⟩ := h
  exact ⟨cs, rfl⟩
theorem wide_sl (E : Env P) {r : Reach} {v : Value} (h : Value.okWide P w r base t v) (ht : lk E.und t = some (.slice e) := by rfl) : v.cells.toList = [v] := by
  obtain ⟨a, l, c, rfl⟩ := Go.WideShapes.okWide_slice (E.un ht) h
  rfl
end
end Go.Art
set_option linter.unusedSimpArgs false
set_option linter.unusedVariables false
namespace Go.Art
open Go Go.Proofs Go.RowKit
/-- What an argument of the type All reads. -/
def InAll (w : World) (v : Value) : Prop :=
  ∃ (m : MfS) (tv dv : Value) (d : List Int) (ses bud tmo : Int), v = .agg #[I m.size, I m.sym, I m.k, I m.seed, tv, dv, I ses, I bud, I tmo] ∧ tv.oneCell' = true ∧ dv.oneCell' = true ∧ Sl w tv (Is m.t) ∧ Sl w dv (By d) ∧
    inB d ∧ m.seed ≤ 9223372036854775807 ∧ (-9223372036854775808 ≤ m.sym ∧ m.sym ≤ 9223372036854775807) ∧ (-9223372036854775808 ≤ tmo ∧ tmo ≤ 9223372036854775807)
theorem one_list {α : Type} {l : List α} (h : l.length = 1) : ∃ a, l = [a] := by
  match l, h with
  | [a], _ => exact ⟨a, rfl⟩
theorem wf_i {n : Int} (h : (Lit.int .i64 n).wf = true) : -9223372036854775808 ≤ n ∧ n ≤ 9223372036854775807 := by have := Go.bounds_i64 h; omega
theorem wf_b {l : List Int} (h : ∀ n ∈ l, (Lit.int .u8 n).wf = true) : inB l := fun n hn => by have := Go.bounds_u8 (h n hn); omega
set_option maxRecDepth 20000 in
theorem inAll_of {H : Type} {enc : TypeId × Value → H} {w : World} {r : Reach} {base : Nat} {v : Value} {d : DataW H} {ps : List MemPlace} (hv : Value.okWide Tryz.prog w r base 27 v)
    (h : DataW.Trod enc Tryz.prog w 0 (fun _ => true) true 27 v d ps) : InAll w v := by
  obtain ⟨cs, rfl⟩ := wide_agg env hv
  obtain ⟨fuel, h⟩ := h
  have h : DataW.trod enc Tryz.prog w 0 (fun _ => true) true fuel 27 cs.toList = some (d, ps) := h
  have hl := leaf_len env h rfl rfl
  have hc : cs = cs.toList.toArray := by simp
  rw [hc]
  generalize cs.toList = l at *
  match l, hl with
  | [c0, c1, c2, c3, c4, c5, c6, c7, c8], _ =>
    obtain ⟨_, _, g0⟩ := leaf_field env h (i := 0) rfl rfl rfl
    obtain ⟨_, _, g1⟩ := leaf_field env h (i := 1) rfl rfl rfl
    obtain ⟨_, _, g2⟩ := leaf_field env h (i := 2) rfl rfl rfl
    obtain ⟨_, _, g3⟩ := leaf_field env h (i := 3) rfl rfl rfl
    obtain ⟨_, _, g4⟩ := leaf_field env h (i := 4) rfl rfl rfl
    obtain ⟨_, _, k0⟩ := leaf_field env g0 (i := 0) rfl rfl rfl
    obtain ⟨_, _, k1⟩ := leaf_field env g0 (i := 1) rfl rfl rfl
    obtain ⟨_, _, k2⟩ := leaf_field env g0 (i := 2) rfl rfl rfl
    obtain ⟨_, _, k3⟩ := leaf_field env g0 (i := 3) rfl rfl rfl
    obtain ⟨_, _, k4⟩ := leaf_field env g0 (i := 4) rfl rfl rfl
    obtain ⟨size, e0, b0⟩ := leaf_int env k0
    obtain ⟨sym, e1, b1⟩ := leaf_int env k1
    obtain ⟨k, e2, b2⟩ := leaf_int env k2
    obtain ⟨seed, e3, b3⟩ := leaf_int env k3
    obtain ⟨tv, t, e4, s4, b4, o4⟩ := leaf_row env k4
    obtain ⟨dv, dl, e5, s5, b5, o5⟩ := leaf_row env g1
    obtain ⟨ses, e6, b6⟩ := leaf_int env g2
    obtain ⟨bud, e7, b7⟩ := leaf_int env g3
    obtain ⟨tmo, e8, b8⟩ := leaf_int env g4
    injection e0 with e0; injection e1 with e1; injection e2 with e2; injection e3 with e3; injection e4 with e4; injection e5 with e5; injection e6 with e6; injection e7 with e7; injection e8 with e8
    subst e0 e1 e2 e3 e4 e5 e6 e7 e8
    exact ⟨⟨size, sym, k, seed, t⟩, c4, c5, dl, ses, bud, tmo, rfl, o4, o5, s4, s5, wf_b b5, (wf_i b3).2, wf_i b1, wf_i b8⟩
/-- What an argument of the type []Act reads: numbers, and bytes. -/
def InActs (w : World) (v : Value) : Prop :=
  ∃ (ts : List Int) (hs : List Value) (ls : List (List Int)), ts.length = ls.length ∧ SlW w v ls.length (pc ((Is ts).zip hs)) ∧ elgP y8 hs ls w ∧ (∀ l ∈ ls, inB l) ∧ ∀ h ∈ hs, h.oneCell' = true
set_option maxRecDepth 20000 in
theorem acts_rows {H : Type} {enc : TypeId × Value → H} {w : World} : ∀ (rs : List (List Value)), (∀ r ∈ rs, r.length = 2) →
    (∀ (i : Nat) (r : List Value), rs[i]? = some r → ∃ n y, DataW.trod enc Tryz.prog w 0 (fun _ => true) true n 63 r = some y) →
    ∃ (ts : List Int) (hs : List Value) (ls : List (List Int)), ts.length = ls.length ∧ rs.length = ls.length ∧ rs.flatten = pc ((Is ts).zip hs) ∧ elgP y8 hs ls w ∧ (∀ l ∈ ls, inB l) ∧ ∀ h ∈ hs, h.oneCell' = true
  | [], _, _ => ⟨[], [], [], rfl, rfl, rfl, ⟨rfl, fun i hi => by simp at hi⟩, by simp, by simp⟩
  | r :: rs, hl, hx => by
    obtain ⟨ts, hs, ls, h1, h2, h3, h4, h5, h6⟩ := acts_rows rs (fun r hr => hl r (by simp [hr])) (fun i r hi => hx (i + 1) r (by simpa using hi))
    obtain ⟨_, _, g⟩ := hx 0 r rfl
    have h0 := hl r (by simp)
    match r, h0 with
    | [c0, c1], _ =>
      obtain ⟨_, _, g0⟩ := leaf_field env g (i := 0) rfl rfl rfl
      obtain ⟨_, _, g1⟩ := leaf_field env g (i := 1) rfl rfl rfl
      obtain ⟨n, e0, b0⟩ := leaf_int env g0
      obtain ⟨bv, bl, e1, s1, b1, o1⟩ := leaf_row env g1
      injection e0 with e0; injection e1 with e1
      subst e0 e1
      refine ⟨n :: ts, c1 :: hs, bl :: ls, by simp [h1], by simp [h2], by simp [h3, pc], ⟨by simp [h4.1], fun i hi => ?_⟩, ?_, ?_⟩
      · cases i with
        | zero => exact s1
        | succ i => exact h4.2 i (by simpa using hi)
      · intro l hm
        rcases List.mem_cons.1 hm with rfl | hm
        · exact wf_b b1
        · exact h5 l hm
      · intro l hm
        rcases List.mem_cons.1 hm with rfl | hm
        · exact o1
        · exact h6 l hm
set_option maxRecDepth 20000 in
theorem inActs_of {H : Type} {enc : TypeId × Value → H} {w : World} {r : Reach} {base : Nat} {v : Value} {d : DataW H} {ps : List MemPlace} (hv : Value.okWide Tryz.prog w r base 59 v)
    (h : DataW.Trod enc Tryz.prog w 0 (fun _ => true) true 59 v d ps) : InActs w v := by
  obtain ⟨fuel, h⟩ := h
  rw [wide_sl env hv] at h
  obtain ⟨v', rs, e, hs, hl, hx, _⟩ := leaf_rows env h rfl rfl
  injection e with e
  subst e
  obtain ⟨ts, hs', ls, h1, h2, h3, h4, h5, h6⟩ := acts_rows rs hl hx
  exact ⟨ts, hs', ls, h1, by rw [← h2, ← h3]; exact hs, h4, h5, h6⟩
theorem acts_get {ts : List Int} {hs : List Value} {i : Nat} (h1 : i < ts.length) (h2 : i < hs.length) : ((Is ts).zip hs)[i]? = some (I (ts.getD i 0), hs.getD i nS) := by
  rw [List.getElem?_eq_getElem (by simp; omega)]
  simp [List.getD_eq_getElem?_getD, h1, h2]
theorem act0 {ts : List Int} {hs : List Value} {i : Nat} (h1 : i < ts.length) (h2 : i < hs.length) : (pc ((Is ts).zip hs))[2 * i]? = some (I (ts.getD i 0)) := pc_get0 _ _ _ (acts_get h1 h2)
theorem act1 {ts : List Int} {hs : List Value} {i : Nat} (h1 : i < ts.length) (h2 : i < hs.length) : (pc ((Is ts).zip hs))[2 * i + 1]? = some (hs.getD i nS) := pc_get1 _ _ _ (acts_get h1 h2)
theorem act2 {ts : List Int} {hs : List Value} {i : Nat} (h1 : i < ts.length) (h2 : i < hs.length) : ((pc ((Is ts).zip hs)).drop (2 * i)).take 2 = [I (ts.getD i 0), hs.getD i nS] := by
  have a := act0 h1 h2
  have b := act1 h1 h2
  have la := (List.getElem?_eq_some_iff.1 a)
  have lb := (List.getElem?_eq_some_iff.1 b)
  obtain ⟨la1, la2⟩ := la
  obtain ⟨lb1, lb2⟩ := lb
  rw [List.drop_eq_getElem_cons la1, List.drop_eq_getElem_cons lb1, la2, lb2]
  rfl
/-- As pieces that are lent. -/
theorem acts_sat {w : World} {v : Value} {ts : List Int} {hs : List Value} {ls : List (List Int)} {A : List Ch} (h1 : SlW w v ls.length (pc ((Is ts).zip hs))) (h2 : elgP y8 hs ls w) (k : SatL A w) : SatL (vwf v ls.length (pc ((Is ts).zip hs)) :: velg y8 hs ls :: A) w :=
  SatL.cons h1 (SatL.cons h2 k)
end Go.Art
set_option linter.unusedSimpArgs false
set_option linter.unusedVariables false
namespace Go.Art
open Go Go.Proofs Go.RowKit
attribute [local irreducible] Fit pt own ro vw mpc lpt vels rels mow lrc dfr
theorem Pick_tr (x m : Int) (hm : m ≤ 9223372036854775807) : Tr Tryz.prog 9 [I x, I m] [] [] fun v D => v = I (pick x m) ∧ D = [] := by
  have hf : m ≤ 0 ∨ (0 < m ∧ 0 ≤ x % m ∧ x % m < m ∧ (x.tmod m < 0 → x.tmod m = x % m - m) ∧ (¬ x.tmod m < 0 → x.tmod m = x % m)) := by
    by_cases h : m ≤ 0
    · exact .inl h
    · have h1 := tmod_pick x m (by omega)
      refine .inr ⟨by omega, Int.emod_nonneg x (by omega), Int.emod_lt_of_pos x (by omega), fun hc => ?_, fun hc => ?_⟩
      · rw [if_pos hc] at h1; exact h1
      · rw [if_neg hc] at h1; exact h1
  refine Tr.enter env _ Tryz.func9 (by kernel_rfl) rfl Tryz.ntmps9 rfl (by repeat (first | exact has00 | refine has01 ?_)) fun w0 => ?_
  repeat' first|refine amodw ?_|(refine wo ?_; first|(refine ao ?_; first|refine aw ?_|refine oa ?_)|refine oa ?_)|(refine gc ?_; first|(refine ci (fun hB => ?_) (fun hB => ?_) <;> try (exfalso; omega)))|refine sq ?_|refine rg ?_|refine xc ?_|refine nl ?_|refine sk ?_|refine rt ?_
  all_goals refine r1 ⟨?_, rfl⟩; simp only [pick]
  · rw [if_pos hB]
  · rw [if_neg (by omega)]; congr 1; omega
  · rw [if_neg (by omega)]; congr 1; omega

end Go.Art
set_option linter.unusedSimpArgs false
set_option linter.unusedVariables false
namespace Go.Art.Sn
open Go Go.Proofs Go.RowKit Go.Art
attribute [local irreducible] Fit pt own ro vw mpc lpt vels rels mow lrc dfr
attribute [local irreducible] lmp lme mit velg relg vwf
set_option maxHeartbeats 4000000 in
theorem Long_tr (m : MfS) (tv dv : Value) (d : List Int) (ses bud tmo : Int) (v : Value) (ts : List Int) (hs : List Value) (ls : List (List Int)) (hts : ts.length = ls.length) (htv : tv.oneCell' = true) (hdv : dv.oneCell' = true) :
    Tr Tryz.prog 10 [.agg #[I m.size, I m.sym, I m.k, I m.seed, tv, dv, I ses, I bud, I tmo], v] [vw tv (Is m.t), vw dv (By d), vwf v ls.length (pc ((Is ts).zip hs)), velg y8 hs ls] []
      fun r D => ∃ b, r = .bool b ∧ D = [] ∧ (b = false → d.length ≤ 2000 ∧ ls.length ≤ 30 ∧ ∀ i, i < ls.length → (ls.getD i []).length ≤ 400) := by
  obtain ⟨size, sym, k, seed, t⟩ := m
  dsimp only
  have hmul : (0 < k ∧ k ≤ 200 ∧ 0 < sym ∧ sym ≤ 65535) → -9223372036854775808 ≤ k * sym ∧ k * sym ≤ 9223372036854775807 := fun ⟨h1, h2, h3, h4⟩ => by
    have a := Int.mul_le_mul h2 h4 (by omega) (by omega)
    have b := Int.mul_nonneg (show 0 ≤ k by omega) (show 0 ≤ sym by omega)
    omega
  have hbl := By_len d
  have hil := Is_len t
  refine Tr.enter env _ Tryz.func10 (by kernel_rfl) rfl Tryz.ntmps10 rfl (by repeat (first | exact has00 | refine has01 ?_)) fun w0 => ?_
  refine TC.elg (g := y8) (hs := hs) (ls := ls) (fun hhl => ?_)
  refine TC.lenf (v := v) (N := ls.length) (xs := pc ((Is ts).zip hs)) (fun hln => ?_)
  refine sq ?_
  refine rg ?_
  refine bx fun q => ?_
  refine oa ?_
  refine nl ?_
  refine xc ?_
  refine sq_cut (31 ≤ ls.length ∨ ∀ j, j < ls.length → (ls.getD j []).length ≤ 400) [(1, v), (2, ptr q), (4, .bool false)] (fun hp => ?_) fun kb => ?_
  · repeat' first|refine lnf ?_|(refine ln (xs := By d) ?_; rw [hbl])|(refine aw ?_ (hb := hmul (by omega)))|(refine wo ?_; first|(refine ao ?_; first|refine oa ?_)|refine oa ?_|refine ld ?_|refine lnm ?_|refine gy ?_|refine gn ?_|refine gu ?_|(refine gsi (fun hB => ?_) (fun hB => ?_) <;> try (exfalso; omega)))|(refine gc ?_; first|refine cf ?_|(refine ci (fun hB => ?_) (fun hB => ?_) <;> try (exfalso; omega)))|refine sq ?_|refine rg ?_|refine xc ?_|refine nl ?_|refine sk ?_|refine rt ?_
    all_goals first
      | (exfalso; omega)
      | exact r1 ⟨true, rfl, rfl, fun h => by cases h⟩
      | (refine r1 ⟨_, rfl, rfl, fun h => ?_⟩; have h2 := of_decide_eq_false h; exact ⟨by omega, by omega, by rcases hp with hp | hp; omega; exact hp⟩)
  repeat' first|(refine wo ?_; first|refine oa ?_)|refine sq ?_|refine rg ?_|refine xc ?_|refine nl ?_|refine bk ?_
  refine TC.loop (ι := Nat) (fun i => [(5, I i)]) (fun _ => []) (fun i => i ≤ ls.length ∧ ∀ j, j < i → (ls.getD j []).length ≤ 400) (fun i => ls.length - i) 0 [0, 1, 2, 4] ⟨by omega, by omega⟩ ?_ (hf := by first | apply Fit.all | ((repeat (first | (apply Fit.nilN; (repeat (first | apply nrm_nil | apply nrm_cons)); try apply nrm_rfl) | (apply Fit.cons; focus ((repeat (first | apply Tk.here | apply Tk.there)); first | done | fail)))); first | done | fail))
  rintro i ⟨hi, hI⟩
  by_cases hlt : i < ls.length
  · have hbi := By_len (ls.getD i [])
    repeat' first|exact kb (by left; omega) _ (by (repeat (refine Sub.cons rfl (by first | rfl | go_num) ?_)); exact Sub.nil)|refine lnf ?_|refine ixfn ?_|refine faf ?_|(refine ldf (act1 (ts := ts) (hs := hs) (i := i) (by omega) (by omega)) ?_)|(refine ln (xs := By (ls.getD i [])) ?_; rw [hbi])|(refine wo ?_; first|(refine ao ?_; first|refine aw ?_|refine oa ?_)|refine oa ?_|refine gy ?_|(refine gsi (fun hB => ?_) (fun hB => ?_) <;> try (exfalso; omega)))|(refine gc ?_; first|(refine ci (fun hB => ?_) (fun hB => ?_) <;> try (exfalso; omega)))|refine sq ?_|refine rg ?_|refine xc ?_|refine nl ?_|refine sk ?_|refine bk ?_|refine xe ?_|refine rt ?_|refine xb ?_
    all_goals first
      | (exfalso; omega)
      | exact r1 ⟨true, rfl, rfl, fun h => by cases h⟩
      | exact lp (i + 1) ⟨by omega, fun j hj => by rcases (by omega : j < i ∨ j = i) with h | rfl; exact hI j h; omega⟩
  · repeat' first|exact kb (by right; intro j hj; exact hI j (by omega)) _ (by (repeat (refine Sub.cons rfl (by first | rfl | go_num) ?_)); exact Sub.nil)|refine lnf ?_|(refine wo ?_; first|(refine ao ?_; first|refine oa ?_)|refine oa ?_|refine gn ?_|(refine gsi (fun hB => ?_) (fun hB => ?_) <;> try (exfalso; omega)))|(refine gc ?_; first|refine cf ?_)|refine sq ?_|refine rg ?_|refine xc ?_|refine nl ?_|refine xe ?_
    all_goals first | (exfalso; omega)
theorem ticks_tr (n : Int) (bv : Value) : Tr Tryz.prog 26 [.agg #[I n, bv]] [] [] fun v D => v = I (pick n 21) ∧ D = [] := by
  refine Tr.enter env _ Tryz.func26 (by kernel_rfl) rfl Tryz.ntmps26 rfl (by repeat (first | exact has00 | refine has01 ?_)) fun w0 => ?_
  repeat' first|(refine gca ?_; first|(refine ca (Pick_tr n 21 (by decide)) ?_; rintro _ _ ⟨rfl, rfl⟩))|refine bx fun q => ?_|(refine wo ?_; first|refine oa ?_|refine ld ?_)|refine sq ?_|refine rg ?_|refine xc ?_|refine nl ?_|refine rt ?_
  exact r1 ⟨rfl, rfl⟩
theorem over_tr (n : Int) : Tr Tryz.prog 16 [I n] [] [] fun v D => v = .bool (decide (2 < n)) ∧ D = [] := by
  refine Tr.enter env _ Tryz.func16 (by kernel_rfl) rfl Tryz.ntmps16 rfl (by repeat (first | exact has00 | refine has01 ?_)) fun w0 => ?_
  repeat' first|(refine wo ?_; first|(refine ao ?_; first|refine oa ?_)|refine oa ?_)|refine sq ?_|refine rg ?_|refine xc ?_|refine nl ?_|refine rt ?_
  exact r1 ⟨rfl, rfl⟩
end Go.Art.Sn
set_option linter.unusedSimpArgs false
set_option linter.unusedVariables false
namespace Go.Art
open Go Go.Proofs Go.RowKit
theorem be1 {n : Int} (h : 0 ≤ n ∧ n < 256) : beV (beB 1 n) = n := by
  simp only [beB, beV, List.foldl_cons, List.foldl_nil]
  omega
theorem be4 {n : Int} (h : 0 ≤ n ∧ n ≤ 4294967295) : beV (beB 4 n) = n := by
  simp only [beB, beV, List.foldl_cons, List.foldl_nil]
  have e3 : (256 : Int) ^ 3 = 16777216 := by decide
  have e2 : (256 : Int) ^ 2 = 65536 := by decide
  have e1 : (256 : Int) ^ 1 = 256 := by decide
  have e0 : (256 : Int) ^ 0 = 1 := by decide
  rw [e3, e2, e1, e0]
  omega
theorem mid_of (p x q : List Int) : ((p ++ (x ++ q)).take (p.length + x.length)).drop p.length = x := by
  rw [List.take_append, List.take_of_length_le (by omega), Nat.add_sub_cancel_left, List.take_left, List.drop_left]
theorem takes_mid (p x q : List Int) (fa : Int) (n : Int) (hn : n = x.length) : takesR (p ++ (x ++ q)) ⟨p.length, 0, fa⟩ n true = (x, ⟨p.length + n, 0, fa⟩) := by
  subst hn
  unfold takesR
  dsimp only
  rw [if_pos rfl, if_pos ⟨rfl, by omega⟩, if_neg (by simp only [List.length_append]; omega)]
  rw [show ((p.length : Int) + (x.length : Int)).toNat = p.length + x.length by omega, Int.toNat_natCast, mid_of]
theorem get1 (p q : List Int) (n fa : Int) (h : 0 ≤ n ∧ n < 256) : getR (p ++ (beB 1 n ++ q)) ⟨p.length, 0, fa⟩ 1 = (n, ⟨p.length + 1, 0, fa⟩) := by
  unfold getR
  rw [show wideB 1 = true from rfl, takes_mid p (beB 1 n) q fa 1 (by rw [beB_len]; rfl)]
  dsimp only
  rw [be1 h, if_pos (by omega)]
theorem get4 (p q : List Int) (n fa : Int) (h : 0 ≤ n ∧ n ≤ 4294967295) : getR (p ++ (beB 4 n ++ q)) ⟨p.length, 0, fa⟩ 4 = (n, ⟨p.length + 4, 0, fa⟩) := by
  unfold getR
  rw [show wideB 4 = true from rfl, takes_mid p (beB 4 n) q fa 4 (by rw [beB_len]; rfl)]
  dsimp only
  rw [be4 h, if_pos (by omega)]
/-- At a place that is told as a number. -/
theorem get1a {l p q : List Int} {n fa at_ : Int} (hl : l = p ++ (beB 1 n ++ q)) (ha : at_ = p.length) (h : 0 ≤ n ∧ n < 256) : getR l ⟨at_, 0, fa⟩ 1 = (n, ⟨at_ + 1, 0, fa⟩) := by subst hl; subst ha; exact get1 p q n fa h
theorem get4a {l p q : List Int} {n fa at_ : Int} (hl : l = p ++ (beB 4 n ++ q)) (ha : at_ = p.length) (h : 0 ≤ n ∧ n ≤ 4294967295) : getR l ⟨at_, 0, fa⟩ 4 = (n, ⟨at_ + 4, 0, fa⟩) := by subst hl; subst ha; exact get4 p q n fa h
theorem takea {l p x : List Int} {fa at_ : Int} (hl : l = p ++ x) (ha : at_ = p.length) : takesR l ⟨at_, 0, fa⟩ (restR l ⟨at_, 0, fa⟩) true = (x, ⟨l.length, 0, fa⟩) := by
  subst hl; subst ha
  have h := takes_mid p x [] fa x.length rfl
  rw [List.append_nil] at h
  have e : restR (p ++ x) ⟨p.length, 0, fa⟩ = x.length := by
    unfold restR; dsimp only; rw [if_pos rfl]; simp only [List.length_append]; omega
  rw [e, h]
  simp
theorem body_back {kd sn bn pn rn : Int} {l : List Int} (hok : pkOk kd sn bn pn rn l.length) : bodyR (pkB kd sn bn pn rn l) = (⟨kd, sn, bn, pn, rn, l⟩, 0) := by
  have hok0 := hok
  obtain ⟨h1, h2, h3, h4, ⟨h5, h6⟩, h7, h8⟩ := hok
  have h5' : kd = 1 ∨ kd = 2 ∨ kd = 3 ∨ kd = 4 ∨ kd = 5 := by omega
  rcases h5' with rfl | rfl | rfl | rfl | rfl
  · have hr : rn = 0 := by simp [frmR] at h7 h8; omega
    subst hr
    have hB : pkB 1 sn bn pn 0 l = beB 1 1 ++ beB 4 sn ++ beB 4 bn ++ beB 4 pn ++ l := rfl
    have g1 : gk (pkB 1 sn bn pn 0 l) = (1, ⟨1, 0, 0⟩) := get1a (p := []) (q := beB 4 sn ++ (beB 4 bn ++ (beB 4 pn ++ (l)))) (at_ := 0) (by rw [hB]; simp) rfl (by decide)
    have g2 : gs_ (pkB 1 sn bn pn 0 l) = (sn, ⟨5, 0, 0⟩) := by unfold gs_; rw [g1]; exact get4a (p := beB 1 1) (q := beB 4 bn ++ (beB 4 pn ++ (l))) (at_ := 1) (by rw [hB]; simp) rfl h2
    have g3 : gb (pkB 1 sn bn pn 0 l) = (bn, ⟨9, 0, 0⟩) := by unfold gb gIf; rw [g1, g2]; exact get4a (p := beB 1 1 ++ beB 4 sn) (q := beB 4 pn ++ (l)) (at_ := 5) (by rw [hB]; simp) (by simp [beB_len]) h3
    have g4 : gp (pkB 1 sn bn pn 0 l) = (pn, ⟨13, 0, 0⟩) := by unfold gp gIf; rw [g1, g3]; exact get4a (p := beB 1 1 ++ beB 4 sn ++ beB 4 bn) (q := l) (at_ := 9) (by rw [hB]; simp) (by simp [beB_len]) h4
    have g5 : gr (pkB 1 sn bn pn 0 l) = (0, ⟨13, 0, 0⟩) := by unfold gr gIf; rw [g1, g4]; rfl
    have g6 : gd (pkB 1 sn bn pn 0 l) = (l, ⟨(pkB 1 sn bn pn 0 l).length, 0, 0⟩) := by unfold gd; rw [g1, g5]; exact takea (p := beB 1 1 ++ beB 4 sn ++ beB 4 bn ++ beB 4 pn) (by rw [hB]) (by simp [beB_len])
    unfold bodyR gAll
    rw [g1, g2, g3, g4, g5, g6]
    dsimp only
    rw [if_pos (by decide), if_pos ⟨by unfold endR; dsimp only; rw [if_neg (by omega)], hok0⟩]
  · have hp : pn = 0 := by simp [frmB, frmD] at h4; omega
    subst hp
    have hr : rn = 0 := by simp [frmR] at h7 h8; omega
    subst hr
    have hl : l = [] := List.eq_nil_of_length_eq_zero (by have e : frmD 2 = false := (by decide); rw [e, cond_false] at h6; omega)
    subst hl
    have hB : pkB 2 sn bn 0 0 [] = beB 1 2 ++ beB 4 sn ++ beB 4 bn ++ [] := rfl
    have g1 : gk (pkB 2 sn bn 0 0 []) = (2, ⟨1, 0, 0⟩) := get1a (p := []) (q := beB 4 sn ++ (beB 4 bn)) (at_ := 0) (by rw [hB]; simp) rfl (by decide)
    have g2 : gs_ (pkB 2 sn bn 0 0 []) = (sn, ⟨5, 0, 0⟩) := by unfold gs_; rw [g1]; exact get4a (p := beB 1 2) (q := beB 4 bn) (at_ := 1) (by rw [hB]; simp) rfl h2
    have g3 : gb (pkB 2 sn bn 0 0 []) = (bn, ⟨9, 0, 0⟩) := by unfold gb gIf; rw [g1, g2]; exact get4a (p := beB 1 2 ++ beB 4 sn) (q := []) (at_ := 5) (by rw [hB]; simp) (by simp [beB_len]) h3
    have g4 : gp (pkB 2 sn bn 0 0 []) = (0, ⟨9, 0, 0⟩) := by unfold gp gIf; rw [g1, g3]; rfl
    have g5 : gr (pkB 2 sn bn 0 0 []) = (0, ⟨9, 0, 0⟩) := by unfold gr gIf; rw [g1, g4]; rfl
    have g6 : gd (pkB 2 sn bn 0 0 []) = ([], ⟨(pkB 2 sn bn 0 0 []).length, 0, 0⟩) := by unfold gd; rw [g1, g5, hB]; simp [frmD, beB_len]
    unfold bodyR gAll
    rw [g1, g2, g3, g4, g5, g6]
    dsimp only
    rw [if_pos (by decide), if_pos ⟨by unfold endR; dsimp only; rw [if_neg (by omega)], hok0⟩]
  · have hb : bn = 0 := by simp [frmB] at h3; omega
    subst hb
    have hp : pn = 0 := by simp [frmB, frmD] at h4; omega
    subst hp
    have hr : rn = 0 := by simp [frmR] at h7 h8; omega
    subst hr
    have hl : l = [] := List.eq_nil_of_length_eq_zero (by have e : frmD 3 = false := (by decide); rw [e, cond_false] at h6; omega)
    subst hl
    have hB : pkB 3 sn 0 0 0 [] = beB 1 3 ++ beB 4 sn ++ [] := rfl
    have g1 : gk (pkB 3 sn 0 0 0 []) = (3, ⟨1, 0, 0⟩) := get1a (p := []) (q := beB 4 sn) (at_ := 0) (by rw [hB]; simp) rfl (by decide)
    have g2 : gs_ (pkB 3 sn 0 0 0 []) = (sn, ⟨5, 0, 0⟩) := by unfold gs_; rw [g1]; exact get4a (p := beB 1 3) (q := []) (at_ := 1) (by rw [hB]; simp) rfl h2
    have g3 : gb (pkB 3 sn 0 0 0 []) = (0, ⟨5, 0, 0⟩) := by unfold gb gIf; rw [g1, g2]; rfl
    have g4 : gp (pkB 3 sn 0 0 0 []) = (0, ⟨5, 0, 0⟩) := by unfold gp gIf; rw [g1, g3]; rfl
    have g5 : gr (pkB 3 sn 0 0 0 []) = (0, ⟨5, 0, 0⟩) := by unfold gr gIf; rw [g1, g4]; rfl
    have g6 : gd (pkB 3 sn 0 0 0 []) = ([], ⟨(pkB 3 sn 0 0 0 []).length, 0, 0⟩) := by unfold gd; rw [g1, g5, hB]; simp [frmD, beB_len]
    unfold bodyR gAll
    rw [g1, g2, g3, g4, g5, g6]
    dsimp only
    rw [if_pos (by decide), if_pos ⟨by unfold endR; dsimp only; rw [if_neg (by omega)], hok0⟩]
  · have hb : bn = 0 := by simp [frmB] at h3; omega
    subst hb
    have hp : pn = 0 := by simp [frmB, frmD] at h4; omega
    subst hp
    have hl : l = [] := List.eq_nil_of_length_eq_zero (by have e : frmD 4 = false := (by decide); rw [e, cond_false] at h6; omega)
    subst hl
    have hB : pkB 4 sn 0 0 rn [] = beB 1 4 ++ beB 4 sn ++ beB 1 rn ++ [] := rfl
    have g1 : gk (pkB 4 sn 0 0 rn []) = (4, ⟨1, 0, 0⟩) := get1a (p := []) (q := beB 4 sn ++ (beB 1 rn)) (at_ := 0) (by rw [hB]; simp) rfl (by decide)
    have g2 : gs_ (pkB 4 sn 0 0 rn []) = (sn, ⟨5, 0, 0⟩) := by unfold gs_; rw [g1]; exact get4a (p := beB 1 4) (q := beB 1 rn) (at_ := 1) (by rw [hB]; simp) rfl h2
    have g3 : gb (pkB 4 sn 0 0 rn []) = (0, ⟨5, 0, 0⟩) := by unfold gb gIf; rw [g1, g2]; rfl
    have g4 : gp (pkB 4 sn 0 0 rn []) = (0, ⟨5, 0, 0⟩) := by unfold gp gIf; rw [g1, g3]; rfl
    have g5 : gr (pkB 4 sn 0 0 rn []) = (rn, ⟨6, 0, 0⟩) := by unfold gr gIf; rw [g1, g4]; exact get1a (p := beB 1 4 ++ beB 4 sn) (q := []) (at_ := 5) (by rw [hB]; simp) (by simp [beB_len]) (by simp [frmR] at h7 h8; omega)
    have g6 : gd (pkB 4 sn 0 0 rn []) = ([], ⟨(pkB 4 sn 0 0 rn []).length, 0, 0⟩) := by unfold gd; rw [g1, g5, hB]; simp [frmD, beB_len]
    unfold bodyR gAll
    rw [g1, g2, g3, g4, g5, g6]
    dsimp only
    rw [if_pos (by decide), if_pos ⟨by unfold endR; dsimp only; rw [if_neg (by omega)], hok0⟩]
  · have hb : bn = 0 := by simp [frmB] at h3; omega
    subst hb
    have hp : pn = 0 := by simp [frmB, frmD] at h4; omega
    subst hp
    have hr : rn = 0 := by simp [frmR] at h7 h8; omega
    subst hr
    have hB : pkB 5 sn 0 0 0 l = beB 1 5 ++ beB 4 sn ++ l := rfl
    have g1 : gk (pkB 5 sn 0 0 0 l) = (5, ⟨1, 0, 0⟩) := get1a (p := []) (q := beB 4 sn ++ (l)) (at_ := 0) (by rw [hB]; simp) rfl (by decide)
    have g2 : gs_ (pkB 5 sn 0 0 0 l) = (sn, ⟨5, 0, 0⟩) := by unfold gs_; rw [g1]; exact get4a (p := beB 1 5) (q := l) (at_ := 1) (by rw [hB]; simp) rfl h2
    have g3 : gb (pkB 5 sn 0 0 0 l) = (0, ⟨5, 0, 0⟩) := by unfold gb gIf; rw [g1, g2]; rfl
    have g4 : gp (pkB 5 sn 0 0 0 l) = (0, ⟨5, 0, 0⟩) := by unfold gp gIf; rw [g1, g3]; rfl
    have g5 : gr (pkB 5 sn 0 0 0 l) = (0, ⟨5, 0, 0⟩) := by unfold gr gIf; rw [g1, g4]; rfl
    have g6 : gd (pkB 5 sn 0 0 0 l) = (l, ⟨(pkB 5 sn 0 0 0 l).length, 0, 0⟩) := by unfold gd; rw [g1, g5]; exact takea (p := beB 1 5 ++ beB 4 sn) (by rw [hB]) (by simp [beB_len])
    unfold bodyR gAll
    rw [g1, g2, g3, g4, g5, g6]
    dsimp only
    rw [if_pos (by decide), if_pos ⟨by unfold endR; dsimp only; rw [if_neg (by omega)], hok0⟩]
theorem pk_back {kd sn bn pn rn : Int} {l : List Int} (hok : pkOk kd sn bn pn rn l.length) : pgetR (putR kd sn bn pn rn l).1 = (⟨kd, sn, bn, pn, rn, l⟩, 0) := by
  rw [putR, if_pos hok]
  unfold pgetR
  rw [openR_seal]
  exact body_back hok
end Go.Art
set_option linter.unusedSimpArgs false
set_option linter.unusedVariables false
namespace Go.Art.Sn
open Go Go.Proofs Go.RowKit Go.Art
theorem tick_ok {s : SP} {h : SH} (hk : s.ok h) : s.tick.1.ok h := by
  have hsl := hk.sil
  have htm := hk.tmo
  have hbd := hk.bud
  unfold SP.tick
  by_cases ha : s.alive
  rotate_left
  · rw [if_neg ha]; exact hk
  rw [if_pos ha]
  have hal := hk.alv ha
  by_cases hti : s.tmo ≤ s.sil + 1
  · rw [if_pos hti]
    exact { hk with
      sil := by dsimp only; omega
      alv := fun h => by unfold SP.alive at h; dsimp only at h; split at h <;> omega }
  rw [if_neg hti]
  have hopen : ({ s with sil := s.sil + 1 } : SP).ok h := { hk with
    sil := by dsimp only; omega
    alv := fun _ => by dsimp only; omega }
  cases hto : turnO s.ack s.last with
  | none => exact hopen
  | some a =>
    dsimp only
    obtain ⟨hal2, _⟩ := turnO_lt hto
    have hn3 := hk.n3
    by_cases h1 : s.st = 1
    · rw [if_pos h1]; exact hopen
    rw [if_neg h1]
    by_cases h2 : 0 < s.bud
    · rw [if_pos h2]
      exact { hk with
        n1 := by dsimp only; rw [List.length_set]; exact hk.n1
        bud := by dsimp only; omega
        sil := by dsimp only; omega
        last := by dsimp only; omega
        alv := fun _ => by dsimp only; omega
        sent := fun j => by
          have h0 := hk.sent j
          have ha0 := hk.sent a
          dsimp only
          rw [List.getD_eq_getElem?_getD, List.getElem?_set]
          by_cases e : a = j
          · subst e
            rw [if_pos rfl]
            split
            · simp only [Option.getD_some]; omega
            · simp only [Option.getD_none]; omega
          · rw [if_neg e, ← List.getD_eq_getElem?_getD]; omega }
    · rw [if_neg h2]; exact hopen
theorem take_ok {s : SP} {h : SH} (hk : s.ok h) (l : List Int) : (s.take l).1.1.ok h := by
  have hsl := hk.sil
  have htm := hk.tmo
  have h0 : ∀ x, ({ s with st := x, sil := 0 } : SP).ok h := fun x => { hk with
    sil := by dsimp only; omega
    alv := fun _ => by dsimp only; omega }
  unfold SP.take
  split
  · split
    · exact hk
    · split
      · split
        · exact hk
        · split
          · split
            · split
              · exact hk
              · split
                · exact { h0 2 with
                    n1 := by dsimp only; rw [List.length_set]; exact hk.n1
                    n2 := by dsimp only; rw [List.length_set]; exact hk.n2
                    n3 := by dsimp only; rw [List.length_set]; exact hk.n3 }
                · exact h0 2
            · split
              · exact h0 3
              · exact h0 6
          · split
            · exact hk
            · exact hk
      · exact hk
  · exact hk
attribute [local irreducible] Fit pt own ro vw mpc lpt vels rels mow lrc dfr
attribute [local irreducible] lmp lme mit velg relg
theorem told0_tr (v : Value) (sn0 bn pn rn : Int) (wv : Value) : Tr Tryz.prog 52 [v, I 0, .agg #[I 0, I sn0, I bn, I pn, I rn, wv]] [vw v []] [] fun v D => v = .bool true ∧ D = [] := by
  refine Tr.enter env _ Tryz.func52 (by kernel_rfl) rfl Tryz.ntmps52 rfl (by repeat (first | exact has00 | refine has01 ?_)) fun w0 => ?_
  repeat' first|refine bx fun p => ?_|refine ln (xs := []) ?_|(refine wo ?_; first|(refine ao ?_; first|refine oa ?_)|refine oa ?_|refine ld ?_)|(refine gc ?_; first|refine ct ?_|refine cf ?_)|refine sq ?_|refine rg ?_|refine xc ?_|refine nl ?_|refine sk ?_|refine rt ?_
  all_goals first | (exfalso; omega) | exact r1 ⟨rfl, rfl⟩
theorem ticks9_tr1 (p : Nat) (h : SH) (s s' : SP) (hk : s.ok h) (l : List Int) (kd bn pn rn sn0 : Int) (wv : Value) (wl : List Int) (ht : s.tick = (s', [l])) (hg : pgetR l = (⟨kd, 9, bn, pn, rn, wl⟩, 0)) (hw : wv.oneCell' = true) (hl : l.length ≤ 1099511627776) (hin : inB l) (hwl : inB wl) (hkd : kd ≠ 0) :
    Tr Tryz.prog 21 [ptr p, .agg #[I kd, I sn0, I bn, I pn, I rn, wv]] [vw wv (By wl)] (sndP p h s) fun v D => v = .bool true ∧ D = sndP p h s' := by
  have hT := Tick_tr p h s hk
  rw [ht] at hT
  dsimp only at hT
  refine Tr.enter env _ Tryz.func21 (by kernel_rfl) rfl Tryz.ntmps21 rfl (by repeat (first | exact has00 | refine has01 ?_)) fun w0 => ?_
  repeat' first|(refine gca ?_; first|(refine ca hT ?_; rintro _ _ ⟨o, os, rfl, ho, hos, rfl⟩)|(refine ca (told1_tr o os l kd bn pn rn sn0 wv wl hos hg hw hl hin hwl hkd) ?_; rintro _ _ ⟨rfl, rfl⟩))|refine bx fun b => ?_|refine lda ?_|(refine wo ?_; first|refine oa ?_)|refine sq ?_|refine rg ?_|refine xc ?_|refine nl ?_|refine rt ?_
  exact r1 ⟨rfl, rfl⟩
theorem ticks9_tr0 (p : Nat) (h : SH) (s s' : SP) (hk : s.ok h) (bn pn rn sn0 : Int) (wv : Value) (ht : s.tick = (s', [])) :
    Tr Tryz.prog 21 [ptr p, .agg #[I 0, I sn0, I bn, I pn, I rn, wv]] [] (sndP p h s) fun v D => v = .bool true ∧ D = sndP p h s' := by
  have hT := Tick_tr p h s hk
  rw [ht] at hT
  dsimp only at hT
  refine Tr.enter env _ Tryz.func21 (by kernel_rfl) rfl Tryz.ntmps21 rfl (by repeat (first | exact has00 | refine has01 ?_)) fun w0 => ?_
  repeat' first|(refine gca ?_; first|(refine ca hT ?_; rintro _ _ ⟨o, os, rfl, ho, hos, rfl⟩; (have hos2 := List.eq_nil_of_length_eq_zero hos); subst hos2)|(refine ca (told0_tr o sn0 bn pn rn wv) ?_; rintro _ _ ⟨rfl, rfl⟩))|refine bx fun b => ?_|refine lda ?_|(refine wo ?_; first|refine oa ?_)|refine sq ?_|refine rg ?_|refine xc ?_|refine nl ?_|refine rt ?_
  exact r1 ⟨rfl, rfl⟩
end Go.Art.Sn
set_option linter.unusedSimpArgs false
set_option linter.unusedVariables false
namespace Go.Art.Sn
open Go Go.Proofs Go.RowKit Go.Art
attribute [local irreducible] Fit pt own ro vw mpc lpt vels rels mow lrc dfr
attribute [local irreducible] lmp lme mit velg relg
theorem takes9_tr1 (p : Nat) (h : SH) (s s' : SP) (hk : s.ok h) (k0 s0 b0 p0 r0 : Int) (pv : Value) (pl B : List Int) (l : List Int) (kd bn pn rn sn0 : Int) (wv : Value) (wl : List Int) (hB : (putR k0 9 b0 p0 r0 pl).1 = B) (hBl : B.length ≤ 1099511627776) (hBi : inB B) (hp : pv.oneCell' = true)
    (ht : s.take B = ((s', [l]), 0)) (hg : pgetR l = (⟨kd, 9, bn, pn, rn, wl⟩, 0)) (hw : wv.oneCell' = true) (hl : l.length ≤ 1099511627776) (hin : inB l) (hwl : inB wl) (hkd : kd ≠ 0) :
    Tr Tryz.prog 22 [ptr p, .agg #[I k0, I s0, I b0, I p0, I r0, pv], .agg #[I kd, I sn0, I bn, I pn, I rn, wv]] [vw pv (By pl), vw wv (By wl)] (sndP p h s) fun v D => v = .bool true ∧ D = sndP p h s' := by
  have hP := PPut_tr k0 9 b0 p0 r0 pv pl hp
  rw [hB] at hP
  have hT := fun b hb => Take_tr p h s hk b B hBl hBi hb
  rw [ht] at hT
  dsimp only at hT
  refine Tr.enter env _ Tryz.func22 (by kernel_rfl) rfl Tryz.ntmps22 rfl (by repeat (first | exact has00 | refine has01 ?_)) fun w0 => ?_
  repeat' first|(refine gca ?_; first|(refine ca hP ?_; rintro _ _ ⟨o1, rfl, ho1, rfl⟩)|(refine ca (hT o1 ho1) ?_; rintro _ _ ⟨o, os, rfl, ho, hos, rfl⟩)|(refine ca (told1_tr o os l kd bn pn rn sn0 wv wl hos hg hw hl hin hwl hkd) ?_; rintro _ _ ⟨rfl, rfl⟩))|refine bx fun b => ?_|refine lda ?_|(refine wo ?_; first|refine oa ?_|refine sr ?_)|refine sq ?_|refine rg ?_|refine xc ?_|refine nl ?_|refine rt ?_
  exact r1 ⟨rfl, rfl⟩
theorem takes9_tr0 (p : Nat) (h : SH) (s s' : SP) (hk : s.ok h) (k0 s0 b0 p0 r0 : Int) (pv : Value) (pl B : List Int) (bn pn rn sn0 : Int) (wv : Value) (hB : (putR k0 9 b0 p0 r0 pl).1 = B) (hBl : B.length ≤ 1099511627776) (hBi : inB B) (hp : pv.oneCell' = true)
    (ht : s.take B = ((s', []), 0)) :
    Tr Tryz.prog 22 [ptr p, .agg #[I k0, I s0, I b0, I p0, I r0, pv], .agg #[I 0, I sn0, I bn, I pn, I rn, wv]] [vw pv (By pl)] (sndP p h s) fun v D => v = .bool true ∧ D = sndP p h s' := by
  have hP := PPut_tr k0 9 b0 p0 r0 pv pl hp
  rw [hB] at hP
  have hT := fun b hb => Take_tr p h s hk b B hBl hBi hb
  rw [ht] at hT
  dsimp only at hT
  refine Tr.enter env _ Tryz.func22 (by kernel_rfl) rfl Tryz.ntmps22 rfl (by repeat (first | exact has00 | refine has01 ?_)) fun w0 => ?_
  repeat' first|(refine gca ?_; first|(refine ca hP ?_; rintro _ _ ⟨o1, rfl, ho1, rfl⟩)|(refine ca (hT o1 ho1) ?_; rintro _ _ ⟨o, os, rfl, ho, hos, rfl⟩; (have hos2 := List.eq_nil_of_length_eq_zero hos); subst hos2)|(refine ca (told0_tr o sn0 bn pn rn wv) ?_; rintro _ _ ⟨rfl, rfl⟩))|refine bx fun b => ?_|refine lda ?_|(refine wo ?_; first|refine oa ?_|refine sr ?_)|refine sq ?_|refine rg ?_|refine xc ?_|refine nl ?_|refine rt ?_
  exact r1 ⟨rfl, rfl⟩
/-! ### The chapter's states -/
def mS (st sil bud last : Int) (sent : List Int) (ack : List Bool) (tmo : Int) : SP := ⟨9, bud, tmo, last, sil, st, m3, [5, 6, 7], sent, ack, m3.bytes⟩
theorem new9 (bud tmo : Int) : SP.new m3 [5, 6, 7] 9 bud tmo = mS 1 0 bud (-1) [0, 0] [false, false] tmo := by
  have : m3.blocks = 2 := by kernel_rfl
  unfold SP.new; rw [this]; rfl
theorem g_open : pgetR (putR 5 9 0 0 0 m3.bytes).1 = (⟨5, 9, 0, 0, 0, m3.bytes⟩, 0) := by kernel_rfl
theorem t1 : (mS 1 0 3 (-1) [0, 0] [false, false] 5).tick = (mS 1 1 3 (-1) [0, 0] [false, false] 5, [(putR 5 9 0 0 0 m3.bytes).1]) := by kernel_rfl
theorem a2 : (mS 1 1 3 (-1) [0, 0] [false, false] 5).take (putR 2 9 2 0 0 []).1 = ((mS 2 0 3 (-1) [0, 0] [false, false] 5, []), 0) := by kernel_rfl
theorem rise_full {is : List Int} {k : Int} (h : Rise is k) : ∀ i : Nat, i < is.length → (i : Int) ≤ is.getD i 0
  | 0, hi => by have := (h.lt _ (mem_getD.2 ⟨0, hi, rfl⟩)).1; omega
  | i + 1, hi => by
    have h1 := rise_full h i (by omega)
    have h2 := h.up (i + 1) hi
    unfold lastOf at h2
    rw [if_neg (by omega), Nat.add_sub_cancel] at h2
    omega
theorem rise_two {is : List Int} (h : Rise is 2) (hl : is.length = 2) : is = [0, 1] := by
  have h0 := rise_full h 0 (by omega)
  have h1 := rise_full h 1 (by omega)
  have h2 := h.up 1 (by omega)
  have h3 := h.lt _ (mem_getD.2 ⟨1, by omega, rfl⟩)
  unfold lastOf at h2
  rw [if_neg (by omega)] at h2
  match is, hl with
  | [a, b], _ =>
    simp at h0 h1 h2 h3
    have e1 : a = 0 := by omega
    have e2 : b = 1 := by omega
    rw [e1, e2]
theorem set01 (seed blk id : Int) : setT [0, 1] 2 seed blk id = [0, 1] := by
  obtain ⟨_, h2, h3, h4⟩ := setR_ok (t := [0, 1]) (k := 2) (by decide) (seedOf (c64 seed) (c64 blk) (c64 id))
  change Rise (setT [0, 1] 2 seed blk id) 2 at h2
  change 1 ≤ (setT [0, 1] 2 seed blk id).length ∧ (setT [0, 1] 2 seed blk id).length ≤ 2 at h3
  change 0 < List.getD [0, 1] ((setT [0, 1] 2 seed blk id).length - 1) 0 at h4
  refine rise_two h2 ?_
  have : (setT [0, 1] 2 seed blk id).length ≠ 1 := fun e => by rw [e] at h4; exact absurd h4 (by decide)
  omega
theorem tick_data {s : SP} {a : Nat} (ha : s.alive) (hti : ¬ s.tmo ≤ s.sil + 1) (hto : turnO s.ack s.last = some a) (h1 : ¬ s.st = 1) (h2 : 0 < s.bud) :
    s.tick = ({ s with sil := s.sil + 1, bud := s.bud - 1, last := a, sent := s.sent.set a (s.sent.getD a 0 + 1) }, [(putR 1 s.ses a (s.sent.getD a 0) 0 (pktW s.m.t (s.m.syms s.d a) s.m.seed a (s.sent.getD a 0)).1).1]) := by
  rw [SP.tick, if_pos ha, if_neg hti, hto]; dsimp only; rw [if_neg h1, if_pos h2]
theorem pk3 (ls : List (List Int)) (seed blk id : Int) (hid : 0 ≤ id ∧ id ≤ 4294967295) (hl : ls.length = 2) : pktW [0, 1] ls seed blk id = (sumL ls [0, 1], 0) := by
  rw [pktW, if_pos (show numOk id from hid), hl]
  rw [show setT [0, 1] ((2 : Nat) : Int) seed blk id = [0, 1] from set01 seed blk id]
theorem t2 : (mS 2 0 3 (-1) [0, 0] [false, false] 5).tick = (mS 2 1 2 0 [1, 0] [false, false] 5, [(putR 1 9 0 0 0 [3]).1]) := by
  rw [tick_data (a := 0) (by decide) (by decide) (by kernel_rfl) (by decide) (by decide)]
  rw [show (mS 2 0 3 (-1) [0, 0] [false, false] 5).m.t = [0, 1] from rfl, pk3 _ _ _ _ (by decide) (by kernel_rfl)]
  kernel_rfl
theorem g_data : pgetR (putR 1 9 0 0 0 [3]).1 = (⟨1, 9, 0, 0, 0, [3]⟩, 0) := by kernel_rfl
end Go.Art.Sn
set_option linter.unusedSimpArgs false
set_option linter.unusedVariables false
namespace Go.Art.Sn
open Go Go.Proofs Go.RowKit Go.Art
theorem inB_of {l : List Int} (h : l.all (fun x => decide (0 ≤ x ∧ x ≤ 255)) = true) : inB l := fun x hx => of_decide_eq_true (List.all_eq_true.1 h x hx)
theorem len_of {l : List Int} (h : Nat.ble l.length 1099511627776 = true) : l.length ≤ 1099511627776 := Nat.le_of_ble_eq_true h
attribute [local irreducible] Fit pt own ro vw mpc lpt vels rels mow lrc dfr
attribute [local irreducible] lmp lme mit velg relg
theorem State_is (p : Nat) (h : SH) (s : SP) (x : Int) (hx : s.st = x) : Tr Tryz.prog 17 [ptr p] [lpt p [I s.ses, I s.bud, I s.tmo, h.opn, h.pts, h.ack, I s.last, I s.sil, I s.st, chv h.c] TSn] [] fun v D => v = I x ∧ D = [] := by
  subst hx; exact State_tr p s.ses s.bud s.tmo s.last s.sil s.st h.opn h.pts h.ack h.c
theorem Left_is (p : Nat) (h : SH) (s : SP) (x : Int) (hx : s.bud = x) : Tr Tryz.prog 19 [ptr p] [lpt p [I s.ses, I s.bud, I s.tmo, h.opn, h.pts, h.ack, I s.last, I s.sil, I s.st, chv h.c] TSn] [] fun v D => v = I x ∧ D = [] := by
  subst hx; exact Left_tr p s.ses s.bud s.tmo s.last s.sil s.st h.opn h.pts h.ack h.c
theorem begun_tr : Tr Tryz.prog 20 [] [] [] fun v D => ∃ p h, v = ptr p ∧ (mS 2 0 3 (-1) [0, 0] [false, false] 5).ok h ∧ D = sndP p h (mS 2 0 3 (-1) [0, 0] [false, false] 5) := by
  have M := made_tr 3 5 (by decide) (by decide)
  rw [new9] at M
  have T1 := t1
  have A2 := a2
  have hs2 : (mS 2 0 3 (-1) [0, 0] [false, false] 5).st = 2 := rfl
  have gO := g_open
  have hOl : (putR 5 9 0 0 0 m3.bytes).1.length ≤ 1099511627776 := len_of (by kernel_rfl)
  have hOi : inB (putR 5 9 0 0 0 m3.bytes).1 := inB_of (by kernel_rfl)
  have hBl : (putR 2 9 2 0 0 []).1.length ≤ 1099511627776 := len_of (by kernel_rfl)
  have hBi : inB (putR 2 9 2 0 0 []).1 := inB_of (by kernel_rfl)
  have hMi : inB m3.bytes := inB_of (by kernel_rfl)
  have O9 := open9_tr
  generalize mS 1 0 3 (-1) [0, 0] [false, false] 5 = S0 at *
  generalize mS 1 1 3 (-1) [0, 0] [false, false] 5 = S1 at *
  generalize mS 2 0 3 (-1) [0, 0] [false, false] 5 = S2 at *
  generalize (putR 5 9 0 0 0 m3.bytes).1 = OB at *
  generalize hBB : (putR 2 9 2 0 0 []).1 = BB at *
  generalize m3.bytes = MB at *
  have ok1 : ∀ h, S0.ok h → S1.ok h := fun h hk => by have := tick_ok hk; rw [T1] at this; exact this
  have ok2 : ∀ h, S1.ok h → S2.ok h := fun h hk => by have := take_ok hk BB; rw [A2] at this; exact this
  refine Tr.enter env _ Tryz.func20 (by kernel_rfl) rfl Tryz.ntmps20 rfl (by repeat (first | exact has00 | refine has01 ?_)) fun w0 => ?_
  repeat' first|(refine gca ?_; first|(refine ca M ?_; rintro _ _ ⟨p, h, rfl, hok, rfl⟩)|(refine ca O9 ?_; rintro _ _ ⟨o, rfl, ho, rfl⟩)|(refine ca (ticks9_tr1 p h S0 S1 hok OB 5 0 0 0 0 o MB T1 gO ho hOl hOi hMi (by decide)) ?_; rintro _ _ ⟨rfl, rfl⟩)|(refine ca (takes9_tr0 p h S1 S2 (ok1 h hok) 2 0 2 0 0 nS [] BB 0 0 0 0 nS hBB hBl hBi rfl A2) ?_; rintro _ _ ⟨rfl, rfl⟩)|(refine ca (State_is p h S2 2 hs2) ?_; rintro _ _ ⟨rfl, rfl⟩))|refine bdz ?_|(refine wo ?_; first|(refine ao ?_; first|refine oa ?_|refine ipe ?_)|refine oa ?_|refine gy ?_)|(refine gc ?_; first|refine cf ?_)|refine sq ?_|refine rg ?_|refine xc ?_|refine nl ?_|refine sk ?_|refine rt ?_
  exact r1 ⟨p, h, rfl, ok2 h (ok1 h hok), rfl⟩
theorem awake_tr : Tr Tryz.prog 8 [] [] [] fun v D => v = .bool true ∧ D = [] := by
  have M := begun_tr
  have T2 := t2
  have hb2 : (mS 2 1 2 0 [1, 0] [false, false] 5).bud = 2 := rfl
  have gD := g_data
  have hOl : (putR 1 9 0 0 0 [3]).1.length ≤ 1099511627776 := len_of (by kernel_rfl)
  have hOi : inB (putR 1 9 0 0 0 [3]).1 := inB_of (by kernel_rfl)
  generalize mS 2 0 3 (-1) [0, 0] [false, false] 5 = S2 at *
  generalize mS 2 1 2 0 [1, 0] [false, false] 5 = S3 at *
  generalize (putR 1 9 0 0 0 [3]).1 = OB at *
  refine Tr.enter env _ Tryz.func8 (by kernel_rfl) rfl Tryz.ntmps8 rfl (by repeat (first | exact has00 | refine has01 ?_)) fun w0 => ?_
  repeat' first|(refine gca ?_; first|(refine ca M ?_; rintro _ _ ⟨p, h, rfl, hok, rfl⟩)|(refine ca (ticks9_tr1 p h S2 S3 hok OB 1 0 0 0 0 o [3] T2 gD ho hOl hOi (inB_of rfl) (by decide)) ?_; rintro _ _ ⟨rfl, rfl⟩)|(refine ca (Left_is p h S3 2 hb2) ?_; rintro _ _ ⟨rfl, rfl⟩))|(refine sli (vs := By [3]) (fun o => ?_) (h1 := By_one _); refine TO.one (v := o) (xs := By [3]) fun ho => ?_)|refine bdz ?_|(refine wo ?_; first|(refine ao ?_; first|refine oa ?_|refine ipn ?_)|refine oa ?_|refine gy ?_)|refine sq ?_|refine rg ?_|refine xc ?_|refine nl ?_|refine rt ?_
  exact r1 ⟨rfl, rfl⟩
end Go.Art.Sn
set_option linter.unusedSimpArgs false
set_option linter.unusedVariables false
namespace Go.Art.Sn
open Go Go.Proofs Go.RowKit Go.Art
theorem tick_over {s : SP} (h : 2 < s.st) : s.tick = (s, []) := if_neg fun ha => by rcases ha with ha | ha <;> omega
theorem take_over {s : SP} (l : List Int) (h : 2 < s.st) : (s.take l).1.1 = s ∧ ((s.take l).1.2 = [] ∨ ∃ r : Int, (r = 1 ∨ r = 2) ∧ (s.take l).1.2 = [(putR 4 s.ses 0 0 r []).1]) := by
  have ha : ¬ s.alive := fun ha => by rcases ha with ha | ha <;> omega
  unfold SP.take
  split
  · split
    · exact ⟨rfl, .inl rfl⟩
    · split
      · split
        · exact ⟨rfl, .inl rfl⟩
        · split
          · exact ⟨rfl, .inl rfl⟩
          · refine ⟨rfl, .inr ⟨_, ?_, rfl⟩⟩
            split
            · exact .inl rfl
            · exact .inr rfl
      · exact ⟨rfl, .inl rfl⟩
  · exact ⟨rfl, .inl rfl⟩
theorem tick_ses (s : SP) : s.tick.1.ses = s.ses := by
  unfold SP.tick
  split
  · split
    · rfl
    · split
      · rfl
      · split
        · rfl
        · split
          · rfl
          · rfl
  · rfl
theorem take_ses (s : SP) (l : List Int) : (s.take l).1.1.ses = s.ses := by
  unfold SP.take
  split
  · split
    · rfl
    · split
      · split
        · rfl
        · split
          · split
            · split
              · rfl
              · split
                · rfl
                · rfl
            · split
              · rfl
              · rfl
          · split
            · rfl
            · rfl
      · rfl
  · rfl
theorem ab_ok {ses r : Int} (hs : 0 ≤ ses ∧ ses ≤ 4294967295) (hr : r = 1 ∨ r = 2) : pkOk 4 ses 0 0 r ([] : List Int).length := by
  rcases hr with rfl | rfl
  · exact ⟨by decide, hs, by decide, by decide, by decide, by decide, by decide⟩
  · exact ⟨by decide, hs, by decide, by decide, by decide, by decide, by decide⟩
theorem ab_get {ses r : Int} (hs : 0 ≤ ses ∧ ses ≤ 4294967295) (hr : r = 1 ∨ r = 2) : pgetR (putR 4 ses 0 0 r []).1 = (⟨4, ses, 0, 0, r, []⟩, 0) := pk_back (ab_ok hs hr)
theorem ab_snd {ses r : Int} (hs : 0 ≤ ses ∧ ses ≤ 4294967295) (hr : r = 1 ∨ r = 2) : sndB ⟨4, ses, 0, 0, r, []⟩ = true := by
  unfold sndB
  dsimp only
  rw [decide_eq_true (ab_ok hs hr), if_pos rfl]
  rcases hr with rfl | rfl <;> rfl
attribute [local irreducible] Fit pt own ro vw mpc lpt vels rels mow lrc dfr
attribute [local irreducible] lmp lme mit velg relg vwf frz prs chp SP.tick SP.take
/-- What comes out of a tick or a datagram of one that has ended. -/
def abO (ses : Int) (outs : List (List Int)) : Prop := outs = [] ∨ ∃ r : Int, (r = 1 ∨ r = 2) ∧ outs = [(putR 4 ses 0 0 r []).1]
theorem st_tick {ses : Int} {s : SP} (h : 2 < s.st) : s.tick.1.st = s.st ∧ (ackN s.tick.1.ack s.tick.1.ack.length : Int) = ackN s.ack s.ack.length ∧ s.tick.1.bud = s.bud ∧ abO ses s.tick.2 := by
  rw [tick_over h]; exact ⟨rfl, rfl, rfl, .inl rfl⟩
theorem st_take {ses : Int} {s : SP} (l : List Int) (hs : s.ses = ses) (h : 2 < s.st) : (s.take l).1.1.st = s.st ∧ (ackN (s.take l).1.1.ack (s.take l).1.1.ack.length : Int) = ackN s.ack s.ack.length ∧ (s.take l).1.1.bud = s.bud ∧ abO ses (s.take l).1.2 := by
  obtain ⟨h1, h2⟩ := take_over l h
  subst hs
  rw [h1]; exact ⟨rfl, rfl, rfl, h2⟩
theorem pkB_in (kd sn bn pn rn : Int) {l : List Int} (hl : inB l) : inB (pkB kd sn bn pn rn l) := by
  have h1 := beB_in 1 kd
  have h2 := beB_in 4 sn
  have h3 := beB_in 4 bn
  have h4 := beB_in 4 pn
  have h5 := beB_in 1 rn
  have h0 : inB [] := inB.nil
  unfold pkB
  refine inB.app ?_ hl
  cases (decide (0 < frmR kd)) <;> cases frmB kd <;> cases frmD kd <;> simp only [cond_true, cond_false, Bool.and_true, Bool.and_false] <;> (repeat (first | assumption | apply inB.app))
theorem pkB_len (kd sn bn pn rn : Int) (l : List Int) : (pkB kd sn bn pn rn l).length ≤ l.length + 14 := by
  have h1 := beB_len 1 kd
  have h2 := beB_len 4 sn
  have h3 := beB_len 4 bn
  have h4 := beB_len 4 pn
  have h5 := beB_len 1 rn
  unfold pkB
  cases (decide (0 < frmR kd)) <;> cases frmB kd <;> cases frmD kd <;> simp only [cond_true, cond_false, Bool.and_true, Bool.and_false, List.length_append, List.length_nil] <;> omega
theorem putR_len (kd sn bn pn rn : Int) (l : List Int) : (putR kd sn bn pn rn l).1.length ≤ l.length + 18 := by
  unfold putR
  split
  · have := pkB_len kd sn bn pn rn l
    rw [sealF_len]; omega
  · exact Nat.zero_le _
theorem putR_in (kd sn bn pn rn : Int) {l : List Int} (hl : inB l) : inB (putR kd sn bn pn rn l).1 := by
  unfold putR
  split
  · exact sealF_in (pkB_in kd sn bn pn rn hl)
  · exact inB.nil
theorem ab_len (ses r : Int) : (putR 4 ses 0 0 r []).1.length ≤ 1099511627776 := by
  have := putR_len 4 ses 0 0 r []
  simp at this
  omega
set_option maxHeartbeats 4000000 in
theorem SenderStays_tr (m : MfS) (tv dv : Value) (d : List Int) (ses bud tmo : Int) (v : Value) (ts : List Int) (hs : List Value) (ls : List (List Int)) (hts : ts.length = ls.length) (htv : tv.oneCell' = true) (hdv : dv.oneCell' = true)
    (hsd : m.seed ≤ 9223372036854775807) (hin : ∀ l ∈ ls, inB l) (hone : ∀ h ∈ hs, h.oneCell' = true) :
    Tr Tryz.prog 7 [.agg #[I m.size, I m.sym, I m.k, I m.seed, tv, dv, I ses, I bud, I tmo], v] [vw tv (Is m.t), vw dv (By d), vwf v ls.length (pc ((Is ts).zip hs)), velg y8 hs ls] []
      fun r D => r = .bool true ∧ D = [] := by
  have hL := Long_tr m tv dv d ses bud tmo v ts hs ls hts htv hdv
  have hN := fun hd => SNew_tr m tv dv d ses bud tmo htv hsd hd
  refine Tr.enter env _ Tryz.func7 (by kernel_rfl) rfl Tryz.ntmps7 rfl (by repeat (first | exact has00 | refine has01 ?_)) fun w0 => ?_
  refine TC.elg (g := y8) (hs := hs) (ls := ls) (fun hhl => ?_)
  refine sq ?_
  refine rg ?_
  refine bx fun q => ?_
  refine oa ?_
  refine nl ?_
  refine xc ?_
  refine sq ?_
  refine rg ?_
  refine ca awake_tr ?_
  rintro _ _ ⟨rfl, rfl⟩
  refine oa ?_
  refine nl ?_
  refine xc ?_
  refine sq_cut (d.length ≤ 2000 ∧ ls.length ≤ 30 ∧ ∀ i, i < ls.length → (ls.getD i []).length ≤ 400) [(1, v), (2, ptr q), (4, .bool false), (5, .bool true)] ?_ fun kb => ?_
  rotate_left
  · refine sq ?_
    refine rg ?_
    refine lda ?_
    refine oa ?_
    refine ca hL ?_ (hp := has1 (has_vw (by (repeat (first | apply List.Mem.head | apply List.Mem.tail)); first | done | fail)) (has1 (has_vw (by (repeat (first | apply List.Mem.head | apply List.Mem.tail)); first | done | fail)) (has1 (has_vwf (by (repeat (first | apply List.Mem.head | apply List.Mem.tail)); first | done | fail)) (has1 (has_velg (by (repeat (first | apply List.Mem.head | apply List.Mem.tail)); first | done | fail)) has0))))
    rintro _ _ ⟨b, rfl, rfl, hb⟩
    cases b
    · repeat' first|exact kb (hb rfl) _ (by (repeat (refine Sub.cons rfl (by first | rfl | go_num) ?_)); exact Sub.nil)|(refine gc ?_; first|refine cf ?_)|refine xc ?_|refine nl ?_|refine sk ?_
    · repeat' first|(refine wo ?_; first|refine oa ?_)|(refine gc ?_; first|refine ct ?_)|refine sq ?_|refine rg ?_|refine xc ?_|refine nl ?_|refine rt ?_
      exact r1 ⟨rfl, rfl⟩
  rintro ⟨hd2, hl30, h400⟩
  have hN := hN (by omega)
  by_cases hE : newSE m d ses bud tmo = 0
  rotate_left
  · have hN := hN.mono (R' := fun v D => v = tup2 nP (I (newSE m d ses bud tmo)) ∧ D = []) (by rintro v D (⟨h0, _⟩ | ⟨_, h⟩); exact absurd h0 hE; exact h)
    repeat' first|(refine gca ?_; first|(refine ca hN ?_; rintro _ _ ⟨rfl, rfl⟩))|refine lda ?_|(refine wo ?_; first|(refine ao ?_; first|refine oa ?_|refine ipn ?_|refine ibe ?_)|refine oa ?_|refine ld ?_|refine gy ?_|refine gn ?_|(refine gsn (fun hB => ?_) (fun hB => ?_) <;> try (exfalso; omega)))|(refine gc ?_; first|refine ct ?_)|refine sq ?_|refine rg ?_|refine xc ?_|refine nl ?_|refine rt ?_
    exact r1 (v := .bool (decide (newSE m d ses bud tmo = 0) == false)) ⟨by rw [decide_eq_false hE]; rfl, rfl⟩
  have hN := hN.mono (R' := fun v D => ∃ p h, v = tup2 (ptr p) (I 0) ∧ (SP.new m d ses bud tmo).ok h ∧ D = sndP p h (SP.new m d ses bud tmo)) (by rintro v D (⟨_, h⟩ | ⟨h0, _⟩); exact h; exact absurd hE h0)
  have hses : 0 ≤ ses ∧ ses ≤ 4294967295 := by
    unfold newSE at hE
    split at hE
    · split at hE
      · rename_i h; exact h.1
      · cases hE
    · cases hE
  have hs0 : (SP.new m d ses bud tmo).ses = ses := rfl
  generalize SP.new m d ses bud tmo = s0 at *
  repeat' first|(refine gca ?_; first|(refine ca hN ?_; rintro _ _ ⟨p, h, rfl, hok0, rfl⟩))|refine lda ?_|(refine wo ?_; first|(refine ao ?_; first|refine oa ?_|refine ipe ?_)|refine oa ?_|refine ld ?_|refine gy ?_)|(refine gc ?_; first|refine cf ?_)|refine sq ?_|refine rg ?_|refine xc ?_|refine nl ?_|refine sk ?_|refine bk ?_
  refine TC.loop (ι := Nat × SP) (fun g => [(8, I g.1)]) (fun g => sndP p h g.2) (fun g => g.1 ≤ ls.length ∧ g.2.ok h ∧ g.2.ses = ses) (fun g => ls.length - g.1) (0, s0) [1, 2, 4, 5, 6] ⟨by simp, hok0, hs0⟩ ?_ (hf := by first | apply Fit.all | ((repeat (first | (apply Fit.nilN; (repeat (first | apply nrm_nil | apply nrm_cons)); try apply nrm_rfl) | (apply Fit.cons; focus ((repeat (first | apply Tk.here | apply Tk.there)); first | done | fail)))); first | done | fail))
  rintro ⟨i, s1⟩ ⟨hi, hk1, hs1⟩
  dsimp only at hi hk1 hs1
  by_cases hlt : i < ls.length
  rotate_left
  · repeat' first|refine lnf ?_|(refine wo ?_; first|(refine ao ?_; first|refine oa ?_)|refine oa ?_)|(refine gc ?_; first|(refine ci (fun hB => ?_) (fun hB => ?_) <;> try (exfalso; omega)))|refine sq ?_|refine rg ?_|refine xc ?_|refine nl ?_|refine xe ?_|refine rt ?_
    exact r1 ⟨rfl, rfl⟩
  repeat' first|(refine gca ?_; first|(refine ca (ticks_tr _ _) ?_; rintro _ _ ⟨rfl, rfl⟩))|refine lnf ?_|refine ixfn ?_|(refine ldaf (act2 (ts := ts) (hs := hs) (i := i) (by omega) (by omega)) ?_)|(refine wo ?_; first|(refine ao ?_; first|refine oa ?_)|refine oa ?_)|(refine gc ?_; first|(refine ci (fun hB => ?_) (fun hB => ?_) <;> try (exfalso; omega)))|refine sq ?_|refine rg ?_|refine xc ?_|refine nl ?_|refine sk ?_|refine bk ?_
  have hpk := pick_in (ts.getD i 0) (n := 21) (by decide)
  generalize pick (ts.getD i 0) 21 = tk at *
  have hli := h400 i hlt
  have hini : inB (ls.getD i []) := hin _ (getD_memL hlt)
  have honi : (hs.getD i nS).oneCell' = true := hone _ (by rw [List.getD_eq_getElem?_getD, List.getElem?_eq_getElem (by omega)]; exact List.getElem_mem _)
  refine TC.loop (ι := Nat × SP) (fun g => [(9, I ((g.1 : Int) - 1))]) (fun g => sndP p h g.2) (fun g => g.1 ≤ 21 ∧ g.2.ok h ∧ g.2.ses = ses) (fun g => g.1) ((tk + 1).toNat, s1) [1, 2, 4, 5, 6, 8] ⟨by dsimp only; omega, hk1, hs1⟩ ?_ (hs := by rw [show (((tk + 1).toNat : Nat) : Int) - 1 = tk by omega]; (repeat (refine Sub.cons rfl (by first | rfl | go_num) ?_)); exact Sub.nil) (hf := by first | apply Fit.all | ((repeat (first | (apply Fit.nilN; (repeat (first | apply nrm_nil | apply nrm_cons)); try apply nrm_rfl) | (apply Fit.cons; focus ((repeat (first | apply Tk.here | apply Tk.there)); first | done | fail)))); first | done | fail))
  rintro ⟨k, s⟩ ⟨hk, hks, hss⟩
  dsimp only at hk hks hss
  obtain ⟨ha1, ha2, ha3⟩ : s.ack.length ≤ 1099511627776 ∧ s.tick.1.ack.length ≤ 1099511627776 ∧ (s.tick.1.take (ls.getD i [])).1.1.ack.length ≤ 1099511627776 :=
    ⟨by have := hks.n3; omega, by have := (tick_ok hks).n3; omega, by have := (take_ok (tick_ok hks) (ls.getD i [])).n3; omega⟩
  by_cases hk0 : k = 0
  · subst hk0
    repeat' first|(refine wo ?_; first|(refine ao ?_; first|refine aw ?_|refine oa ?_)|refine oa ?_)|(refine gc ?_; first|refine cf ?_)|refine sq ?_|refine rg ?_|refine xc ?_|refine nl ?_|refine xe ?_|refine xb ?_
    exact lp (i + 1, s) ⟨by dsimp only; omega, hks, hss⟩
  repeat' first|(refine gca ?_; first|(refine ca (State_tr p s.ses s.bud s.tmo s.last s.sil s.st h.opn h.pts h.ack h.c) ?_; rintro _ _ ⟨rfl, rfl⟩)|(refine ca (Acked_tr p s.ses s.bud s.tmo s.last s.sil s.st h.opn h.pts h.ack h.c s.ack ha1) ?_; rintro _ _ ⟨rfl, rfl⟩)|(refine ca (Left_tr p s.ses s.bud s.tmo s.last s.sil s.st h.opn h.pts h.ack h.c) ?_; rintro _ _ ⟨rfl, rfl⟩)|(refine ca (Tick_tr p h s hks) ?_; rintro _ _ ⟨o, os, rfl, ho, hos, rfl⟩)|(refine ca (State_tr p s.tick.1.ses s.tick.1.bud s.tick.1.tmo s.tick.1.last s.tick.1.sil s.tick.1.st h.opn h.pts h.ack h.c) ?_; rintro _ _ ⟨rfl, rfl⟩)|(refine ca (Acked_tr p s.tick.1.ses s.tick.1.bud s.tick.1.tmo s.tick.1.last s.tick.1.sil s.tick.1.st h.opn h.pts h.ack h.c s.tick.1.ack ha2) ?_; rintro _ _ ⟨rfl, rfl⟩)|(refine ca (Left_tr p s.tick.1.ses s.tick.1.bud s.tick.1.tmo s.tick.1.last s.tick.1.sil s.tick.1.st h.opn h.pts h.ack h.c) ?_; rintro _ _ ⟨rfl, rfl⟩)|(refine ca (Take_tr p h s.tick.1 (tick_ok hks) (hs.getD i nS) (ls.getD i []) (by omega) hini honi) ?_; rintro _ _ ⟨o2, os2, rfl, ho2, hos2, rfl⟩))|refine sq_cutX (a := .seq (.region 15 _ _) _) (ι := SP × Int × Int × Int × Value × List Value × List (List Int)) (fun g => g.1.ok h ∧ g.1.ses = ses ∧ g.2.2.2.2.2.1.length = g.2.2.2.2.2.2.length ∧ (2 < g.2.1 → g.1.st = g.2.1 ∧ (ackN g.1.ack g.1.ack.length : Int) = g.2.2.1 ∧ g.1.bud = g.2.2.2.1 ∧ abO ses g.2.2.2.2.2.2)) (fun g => [(1, v), (2, ptr q), (4, .bool false), (5, .bool true), (6, ptr p), (8, I i), (9, I ((k : Int) - 1)), (10, I g.2.1), (11, I g.2.2.1), (12, I g.2.2.2.1), (13, g.2.2.2.2.1)]) (fun g => sndQ p h g.1 g.2.2.2.2.1 g.2.2.2.2.2.1 g.2.2.2.2.2.2 ++ [pt q (Value.agg #[I m.size, I m.sym, I m.k, I m.seed, tv, dv, I ses, I bud, I tmo]).cells.toList 27, vw tv (Is m.t), vw dv (By d), vwf v ls.length (pc ((Is ts).zip hs)), velg y8 hs ls]) ?_ (fun kb => ?_)|refine ixfn ?_|refine faf ?_|(refine ldf (act1 (ts := ts) (hs := hs) (i := i) (by omega) (by omega)) ?_)|exact kb (s.tick.1, s.st, (ackN s.ack s.ack.length : Int), s.bud, o, os, s.tick.2) ⟨tick_ok hks, (tick_ses s).trans hss, hos, st_tick⟩ _ _ (by (repeat (refine Sub.cons rfl (by first | rfl | go_num) ?_)); exact Sub.nil) (by first | apply Fit.all | ((repeat (first | (apply Fit.nilN; (repeat (first | apply nrm_nil | apply nrm_cons)); try apply nrm_rfl) | (apply Fit.cons; focus ((repeat (first | apply Tk.here | apply Tk.there)); first | done | fail)))); first | done | fail))|exact kb ((s.tick.1.take (ls.getD i [])).1.1, s.tick.1.st, (ackN s.tick.1.ack s.tick.1.ack.length : Int), s.tick.1.bud, o2, os2, (s.tick.1.take (ls.getD i [])).1.2) ⟨take_ok (tick_ok hks) _, (take_ses _ _).trans ((tick_ses s).trans hss), hos2, st_take _ ((tick_ses s).trans hss)⟩ _ _ (by (repeat (refine Sub.cons rfl (by first | rfl | go_num) ?_)); exact Sub.nil) (by first | apply Fit.all | ((repeat (first | (apply Fit.nilN; (repeat (first | apply nrm_nil | apply nrm_cons)); try apply nrm_rfl) | (apply Fit.cons; focus ((repeat (first | apply Tk.here | apply Tk.there)); first | done | fail)))); first | done | fail))|(refine wo ?_; first|(refine ao ?_; first|refine oa ?_)|refine oa ?_)|(refine gc ?_; first|(refine ci (fun hB => ?_) (fun hB => ?_) <;> try (exfalso; omega)))|refine sq ?_|refine rg ?_|refine xc ?_|refine nl ?_|refine sk ?_|refine bk ?_
  rintro ⟨s2, was, ac, lf, o, os, outs⟩ ⟨hk2, hs2, hos, hov⟩
  dsimp only at hk2 hs2 hos hov ⊢
  have ha4 : s2.ack.length ≤ 1099511627776 := by have := hk2.n3; omega
  by_cases hw : 2 < was
  rotate_left
  · repeat' first|(refine gca ?_; first|(refine ca (over_tr was) ?_; rintro _ _ ⟨rfl, rfl⟩))|(refine wo ?_; first|(refine ao ?_; first|refine aw ?_)|refine oa ?_)|(refine gc ?_; first|(refine cn (fun hB => ?_) (fun hB => ?_) <;> try (exfalso; omega)))|refine sq ?_|refine rg ?_|refine xc ?_|refine nl ?_|refine xe ?_
    exact lp (k - 1, s2) ⟨by dsimp only; omega, hk2, hs2⟩
  obtain ⟨rfl, rfl, rfl, hab⟩ := hov hw
  have hov' : (decide (2 < s2.st)) = true := decide_eq_true hw
  have hon2 : hs.length = ls.length := hhl
  rcases hab with rfl | ⟨r, hr, rfl⟩
  · repeat' first|(refine gca ?_; first|(refine ca (over_tr s2.st) ?_; rintro _ _ ⟨rfl, rfl⟩; rw [hov'])|(refine ca (State_tr p s2.ses s2.bud s2.tmo s2.last s2.sil s2.st h.opn h.pts h.ack h.c) ?_; rintro _ _ ⟨rfl, rfl⟩)|(refine ca (Acked_tr p s2.ses s2.bud s2.tmo s2.last s2.sil s2.st h.opn h.pts h.ack h.c s2.ack ha4) ?_; rintro _ _ ⟨rfl, rfl⟩)|(refine ca (Left_tr p s2.ses s2.bud s2.tmo s2.last s2.sil s2.st h.opn h.pts h.ack h.c) ?_; rintro _ _ ⟨rfl, rfl⟩))|(refine ln (xs := os) ?_; rw [hos])|(refine wo ?_; first|(refine ao ?_; first|refine oa ?_)|refine oa ?_|refine gy ?_|(refine gsn (fun hB => ?_) (fun hB => ?_) <;> try (exfalso; omega)))|(refine gc ?_; first|refine cf ?_)|refine sq ?_|refine rg ?_|refine xc ?_|refine nl ?_|refine sk ?_|refine bk ?_
    all_goals try (exfalso; omega)
    refine TC.loop (ι := Nat) (fun j => [(15, I j)]) (fun _ => []) (fun j => j = 0) (fun j => j) 0 [1, 2, 4, 5, 6, 8, 9, 13] rfl ?_ (hf := by first | apply Fit.all | ((repeat (first | (apply Fit.nilN; (repeat (first | apply nrm_nil | apply nrm_cons)); try apply nrm_rfl) | (apply Fit.cons; focus ((repeat (first | apply Tk.here | apply Tk.there)); first | done | fail)))); first | done | fail))
    rintro j rfl
    repeat' first|(refine ln (xs := os) ?_; rw [hos])|(refine wo ?_; first|(refine ao ?_; first|refine aw ?_|refine oa ?_)|refine oa ?_)|(refine gc ?_; first|refine cf ?_)|refine sq ?_|refine rg ?_|refine xc ?_|refine nl ?_|refine xe ?_|refine xb ?_
    all_goals try (exfalso; omega)
    exact lp (k - 1, s2) ⟨by dsimp only; omega, hk2, hs2⟩
  have hos1 : os.length = 1 := hos
  have hG := fun b => PGet_tr b (putR 4 ses 0 0 r []).1 (ab_len ses r) (putR_in 4 ses 0 0 r inB.nil)
  rw [ab_get hses hr] at hG
  dsimp only at hG
  have hS := fun dv hd => Sends_tr 4 ses 0 0 r dv [] hd
  rw [ab_snd hses hr] at hS
  generalize (putR 4 ses 0 0 r []).1 = B at *
  repeat' first|(refine gca ?_; first|(refine ca (over_tr s2.st) ?_; rintro _ _ ⟨rfl, rfl⟩; rw [hov'])|(refine ca (State_tr p s2.ses s2.bud s2.tmo s2.last s2.sil s2.st h.opn h.pts h.ack h.c) ?_; rintro _ _ ⟨rfl, rfl⟩)|(refine ca (Acked_tr p s2.ses s2.bud s2.tmo s2.last s2.sil s2.st h.opn h.pts h.ack h.c s2.ack ha4) ?_; rintro _ _ ⟨rfl, rfl⟩)|(refine ca (Left_tr p s2.ses s2.bud s2.tmo s2.last s2.sil s2.st h.opn h.pts h.ack h.c) ?_; rintro _ _ ⟨rfl, rfl⟩))|(refine ln (xs := os) ?_; rw [hos1])|(refine wo ?_; first|(refine ao ?_; first|refine oa ?_)|refine oa ?_|refine gy ?_|(refine gsn (fun hB => ?_) (fun hB => ?_) <;> try (exfalso; omega)))|(refine gc ?_; first|refine cf ?_)|refine sq ?_|refine rg ?_|refine xc ?_|refine nl ?_|refine sk ?_|refine bk ?_
  all_goals try (exfalso; omega)
  refine TC.loop (ι := Nat) (fun j => [(15, I j)]) (fun _ => []) (fun j => j ≤ 1) (fun j => 1 - j) 0 [1, 2, 4, 5, 6, 8, 9, 13] (by omega) ?_ (hf := by first | apply Fit.all | ((repeat (first | (apply Fit.nilN; (repeat (first | apply nrm_nil | apply nrm_cons)); try apply nrm_rfl) | (apply Fit.cons; focus ((repeat (first | apply Tk.here | apply Tk.there)); first | done | fail)))); first | done | fail))
  intro j hj
  rcases (by omega : j = 0 ∨ j = 1) with rfl | rfl
  · repeat' first|(refine gca ?_; first|(refine ca (hG (os.getD 0 nS)) ?_ (hp := has1 (has_elg (g := y8) (ls := [B]) (i := 0) (has_relg (by (repeat (first | apply List.Mem.head | apply List.Mem.tail)); first | done | fail)) (by simp)) has0); rintro _ _ ⟨dv, rfl, hdv, rfl⟩)|(refine ca (hS dv hdv) ?_; rintro _ _ ⟨rfl, rfl⟩))|(refine ln (xs := os) ?_; rw [hos1])|refine al fun z => ?_|refine srz ?_|refine lda ?_|(refine wo ?_; first|(refine ao ?_; first|refine aw ?_|refine oa ?_)|refine oa ?_|refine ld ?_|refine lv ?_|refine ixn ?_|refine gy ?_)|(refine gc ?_; first|refine ct ?_|refine cf ?_)|refine sq ?_|refine rg ?_|refine xc ?_|refine nl ?_|refine sk ?_|refine bk ?_|refine xb ?_
    all_goals first | (exfalso; omega) | exact lp 1 (by omega) (by omega) (hs := by (repeat (refine Sub.cons rfl (by first | rfl | go_num) ?_)); exact Sub.nil) (hf := by first | apply Fit.all | ((repeat (first | (apply Fit.nilN; (repeat (first | apply nrm_nil | apply nrm_cons)); try apply nrm_rfl) | (apply Fit.cons; focus ((repeat (first | apply Tk.here | apply Tk.there)); first | done | fail)))); first | done | fail))
  · repeat' first|(refine ln (xs := os) ?_; rw [hos1])|(refine wo ?_; first|(refine ao ?_; first|refine aw ?_|refine oa ?_)|refine oa ?_)|(refine gc ?_; first|refine cf ?_)|refine sq ?_|refine rg ?_|refine xc ?_|refine nl ?_|refine xe ?_|refine xb ?_
    all_goals try (exfalso; omega)
    exact lp (k - 1, s2) ⟨by dsimp only; omega, hk2, hs2⟩
end Go.Art.Sn
