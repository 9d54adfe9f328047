/- Texts put together: Ta Nw Ln Lo Lp Lq Lr Ls. Conditions: none. -/
import Derived.Test.YtmlepnlejdfdjaaGreatJh
namespace Go.Art.Sn
open Go Go.Proofs Go.RowKit Go.Art
/-- Is it what a sender sends? -/
def sndB (q : PkS) : Bool := decide (pkOk q.kd q.sn q.bn q.pn q.rn q.l.length) && (if q.kd = 4 then decide (q.rn < 8) else decide (q.kd = 1) || decide (q.kd = 5))
theorem pgetR_ok {l : List Int} (h : (pgetR l).2 = 0) : pkOk (pgetR l).1.kd (pgetR l).1.sn (pgetR l).1.bn (pgetR l).1.pn (pgetR l).1.rn (pgetR l).1.l.length := by
  unfold pgetR at *
  split at h
  · rename_i h0
    rw [if_pos h0]
    unfold bodyR at *
    split at h
    · rename_i h1
      rw [if_pos h1]
      split at h
      · rename_i h2
        rw [if_pos h2]
        exact h2.2
      · cases h
    · cases h
  · exact absurd h (by assumption)
section
variable {P : Program} {E : Env P} {n : Sh} {X : Cx} {s : List K} {fr : Fr} {A A' : List Ch} {ops : Array Oper} {rest : List Oper} {d : Nat} {ty t e : TypeId} {pos : String} {after : Array Edge} {v : Value} {x : Operand} {L : List (Value × Value)}
theorem qlnp (k : TQ E n X s ops rest ((d, I L.length) :: fr) A) (hx : ev fr x = some v := by rfl) (hm : prs e v L ∈ A := by (repeat (first | apply List.Mem.head | apply List.Mem.tail)); first | done | fail) (ht : lk E.und t = some (.slice e) := by rfl) (hd : Nat.blt d n.n = true := by rfl) :
    TQ E n X s ops (⟨some d, .call ⟨.builtin .len, #[x], #[t]⟩, ty, pos, after, none⟩ :: rest) fr A := TQ.val (v := I L.length) (fun w h => ⟨fun a ha _ _ _ _ => by
  simp only [execOp, resolve]
  rcases prs_at hm h with ⟨rfl, rfl⟩ | ⟨b, cap, cur, rfl, _⟩ <;> simp [ha.ev hx, invoke, builtin, Builtin.len_, run_underlying (P := P) (E.un ht) w, goInt]⟩) k hd
end
theorem prsL_len : ∀ {es : List EnH} {l : List Int}, es.length = l.length → (prsL es l).length = l.length
  | [], [], _ => rfl
  | [], _ :: _, h => by simp at h
  | _ :: _, [], h => by simp at h
  | _ :: r, _ :: q, h => by simp [prsL, prsL_len (es := r) (l := q) (by simpa using h)]
/-- What a datagram does. -/
def SP.take (s : SP) (l : List Int) : (SP × List (List Int)) × Int :=
  if (pgetR l).2 = 0 then
    if sndB (pgetR l).1 = true then ((s, []), 2)
    else if (pgetR l).1.sn = s.ses then
      if s.st = 3 ∨ s.st = 6 then ((s, []), 0)
      else if s.alive then
        if (pgetR l).1.kd = 2 then
          if (s.ack.length : Int) < (pgetR l).1.bn then ((s, []), 3)
          else if (pgetR l).1.bn < s.ack.length then (({ s with st := 2, sil := 0, ack := s.ack.set (pgetR l).1.bn.toNat true }, []), 0)
          else (({ s with st := 2, sil := 0 }, []), 0)
        else if (pgetR l).1.kd = 3 then (({ s with st := 3, sil := 0 }, []), 0)
        else (({ s with st := 6, sil := 0 }, []), 0)
      else if (pgetR l).1.kd = 4 then ((s, []), 0)
      else ((s, [(putR 4 s.ses 0 0 (if s.st = 4 then 1 else 2) []).1]), 0)
    else ((s, []), 16)
  else ((s, []), (pgetR l).2)
attribute [local irreducible] Fit pt own ro vw mpc lpt vels rels mow lrc dfr
attribute [local irreducible] lmp lme mit velg relg
theorem Sends_tr (kd sn bn pn rn : Int) (dv : Value) (l : List Int) (hd : dv.oneCell' = true) : Tr Tryz.prog 13 [.agg #[I kd, I sn, I bn, I pn, I rn, dv]] [vw dv (By l)] [] fun v D => v = .bool (sndB ⟨kd, sn, bn, pn, rn, l⟩) ∧ D = [] := by
  have hC := PCheck_tr kd sn bn pn rn dv l hd
  unfold sndB pkE at *
  dsimp only
  by_cases hok : pkOk kd sn bn pn rn l.length
  rotate_left
  · rw [if_neg hok] at hC
    rw [decide_eq_false hok]
    refine Tr.enter env _ Tryz.func13 (by kernel_rfl) rfl Tryz.ntmps13 rfl (by repeat (first | exact has00 | refine has01 ?_)) fun w0 => ?_
    repeat' first|(refine gca ?_; first|(refine ca hC ?_; rintro _ _ ⟨rfl, rfl⟩))|refine bx fun b => ?_|refine lda ?_|(refine wo ?_; first|(refine ao ?_; first|refine oa ?_)|refine oa ?_)|(refine gc ?_; first|refine ct ?_)|refine sq ?_|refine rg ?_|refine xc ?_|refine nl ?_|refine bk ?_|refine rt ?_
    exact r1 ⟨rfl, rfl⟩
  rw [if_pos hok] at hC
  rw [decide_eq_true hok]
  by_cases h4 : kd = 4
  · rw [if_pos h4]
    refine Tr.enter env _ Tryz.func13 (by kernel_rfl) rfl Tryz.ntmps13 rfl (by repeat (first | exact has00 | refine has01 ?_)) fun w0 => ?_
    repeat' first|(refine gca ?_; first|(refine ca hC ?_; rintro _ _ ⟨rfl, rfl⟩))|refine bx fun b => ?_|refine lda ?_|(refine wo ?_; first|(refine ao ?_; first|refine oa ?_)|refine oa ?_|refine ld ?_)|(refine gc ?_; first|refine cf ?_|(refine ci (fun hB => ?_) (fun hB => ?_) <;> try (exfalso; omega)))|refine sq ?_|refine rg ?_|refine xc ?_|refine nl ?_|refine bk ?_|refine rt ?_
    all_goals first | (exfalso; omega) | exact r1 ⟨rfl, rfl⟩
  · rw [if_neg h4]
    refine Tr.enter env _ Tryz.func13 (by kernel_rfl) rfl Tryz.ntmps13 rfl (by repeat (first | exact has00 | refine has01 ?_)) fun w0 => ?_
    by_cases h1 : kd = 1
    · rw [decide_eq_true h1]
      repeat' first|(refine gca ?_; first|(refine ca hC ?_; rintro _ _ ⟨rfl, rfl⟩))|refine bx fun b => ?_|refine lda ?_|(refine wo ?_; first|(refine ao ?_; first|refine oa ?_)|refine oa ?_|refine ld ?_|refine gn ?_|(refine gsi (fun hB => ?_) (fun hB => ?_) <;> try (exfalso; omega)))|(refine gc ?_; first|refine cf ?_|(refine ci (fun hB => ?_) (fun hB => ?_) <;> try (exfalso; omega)))|refine sq ?_|refine rg ?_|refine xc ?_|refine nl ?_|refine sk ?_|refine bk ?_|refine rt ?_|refine xb ?_
      all_goals first | (exfalso; omega) | exact r1 ⟨rfl, rfl⟩
    · rw [decide_eq_false h1]
      repeat' first|(refine gca ?_; first|(refine ca hC ?_; rintro _ _ ⟨rfl, rfl⟩))|refine bx fun b => ?_|refine lda ?_|(refine wo ?_; first|(refine ao ?_; first|refine oa ?_)|refine oa ?_|refine ld ?_|refine gy ?_|(refine gsi (fun hB => ?_) (fun hB => ?_) <;> try (exfalso; omega)))|(refine gc ?_; first|refine cf ?_|(refine ci (fun hB => ?_) (fun hB => ?_) <;> try (exfalso; omega)))|refine sq ?_|refine rg ?_|refine xc ?_|refine nl ?_|refine sk ?_|refine bk ?_|refine rt ?_|refine xb ?_
      all_goals first | (exfalso; omega) | exact r1 ⟨rfl, rfl⟩
set_option maxHeartbeats 4000000 in
theorem Take_tr (p : Nat) (h : SH) (s : SP) (hk : s.ok h) (b : Value) (l : List Int) (hl : l.length ≤ 1099511627776) (hin : inB l) (hb : b.oneCell' = true) : Tr Tryz.prog 14 [ptr p, b] [vw b (By l)] (sndP p h s)
    fun v D => ∃ o os, v = tup2 o (I (s.take l).2) ∧ o.oneCell' = true ∧ os.length = (s.take l).1.2.length ∧ D = sndQ p h (s.take l).1.1 o os (s.take l).1.2 := by
  have hG := PGet_tr b l hl hin
  have hpk := fun h => pgetR_ok (l := l) h
  have hpl := prsL_len (es := h.es) (l := s.sent) (by rw [hk.n2, hk.n1])
  have hn1 := hk.n1
  unfold SP.take
  generalize pgetR l = G at *
  obtain ⟨⟨kd, sn, bn, pn, rn, bl⟩, e⟩ := G
  dsimp only at *
  by_cases he : e = 0
  rotate_left
  · rw [if_neg he]
    refine Tr.enter env _ Tryz.func14 (by kernel_rfl) rfl Tryz.ntmps14 rfl (by repeat (first | exact has00 | refine has01 ?_)) fun w0 => ?_
    repeat' first|(refine gca ?_; first|(refine ca (none_tr p s.ses s.bud s.tmo s.last _ s.st h.opn h.pts h.ack h.c) ?_; rintro _ _ ⟨rfl, rfl⟩)|(refine ca hG ?_; rintro _ _ ⟨dv, rfl, hdv, rfl⟩)|(refine ca (Sends_tr kd sn bn pn rn dv bl hdv) ?_; rintro _ _ ⟨rfl, rfl⟩; rw [hX])|(refine ca (alive_tr p _ _ _ _ _ _ _ _ _ s.st) ?_; rintro _ _ ⟨rfl, rfl⟩; rw [hal])|(refine ca (abort_tr p s.ses s.bud s.tmo s.last s.sil s.st h.opn h.pts h.ack h.c) ?_; rintro _ _ ⟨o1, ho1, rfl⟩)|(refine ca (sends_tr p s.ses s.bud s.tmo s.last s.sil s.st h.opn h.pts h.ack h.c [o1] (one_cons ho1 one_nil) (by simp)) ?_; rintro o _ ⟨ho, rfl⟩)|(refine ca (sends_tr p s.ses s.bud s.tmo s.last s.sil s.st h.opn h.pts h.ack h.c [] one_nil (by simp)) ?_; rintro o _ ⟨ho, rfl⟩))|refine al fun z => ?_|refine srz ?_|refine lda ?_|(refine qlnp (L := prsL h.es s.sent) ?_; rw [hpl])|(refine wo ?_; first|(refine ao ?_; first|refine oa ?_)|refine oa ?_)|(refine gc ?_; first|refine cf ?_|(refine cn (fun hB => ?_) (fun hB => ?_) <;> try (exfalso; omega)))|refine sq ?_|refine rg ?_|refine xc ?_|refine nl ?_|refine sk ?_|refine bk ?_|refine rt ?_
    refine TX.im (relg_nil (g := y8) _) ?_
    refine TX.im (own_nil TyV _) ?_
    exact r2 ⟨nS, [], rfl, rfl, rfl, rfl⟩
  subst he
  rw [if_pos rfl]
  cases hX : sndB ⟨kd, sn, bn, pn, rn, bl⟩
  rotate_left
  · rw [if_pos rfl]
    refine Tr.enter env _ Tryz.func14 (by kernel_rfl) rfl Tryz.ntmps14 rfl (by repeat (first | exact has00 | refine has01 ?_)) fun w0 => ?_
    repeat' first|(refine gca ?_; first|(refine ca (none_tr p s.ses s.bud s.tmo s.last _ s.st h.opn h.pts h.ack h.c) ?_; rintro _ _ ⟨rfl, rfl⟩)|(refine ca hG ?_; rintro _ _ ⟨dv, rfl, hdv, rfl⟩)|(refine ca (Sends_tr kd sn bn pn rn dv bl hdv) ?_; rintro _ _ ⟨rfl, rfl⟩; rw [hX])|(refine ca (alive_tr p _ _ _ _ _ _ _ _ _ s.st) ?_; rintro _ _ ⟨rfl, rfl⟩; rw [hal])|(refine ca (abort_tr p s.ses s.bud s.tmo s.last s.sil s.st h.opn h.pts h.ack h.c) ?_; rintro _ _ ⟨o1, ho1, rfl⟩)|(refine ca (sends_tr p s.ses s.bud s.tmo s.last s.sil s.st h.opn h.pts h.ack h.c [o1] (one_cons ho1 one_nil) (by simp)) ?_; rintro o _ ⟨ho, rfl⟩)|(refine ca (sends_tr p s.ses s.bud s.tmo s.last s.sil s.st h.opn h.pts h.ack h.c [] one_nil (by simp)) ?_; rintro o _ ⟨ho, rfl⟩))|refine al fun z => ?_|refine srz ?_|refine lda ?_|(refine qlnp (L := prsL h.es s.sent) ?_; rw [hpl])|(refine wo ?_; first|(refine ao ?_; first|refine oa ?_)|refine oa ?_)|(refine gc ?_; first|refine ct ?_|refine cf ?_)|refine sq ?_|refine rg ?_|refine xc ?_|refine nl ?_|refine sk ?_|refine bk ?_|refine rt ?_
    refine TX.im (relg_nil (g := y8) _) ?_
    refine TX.im (own_nil TyV _) ?_
    exact r2 ⟨nS, [], rfl, rfl, rfl, rfl⟩
  rw [if_neg (by decide)]
  have hal' : s.alive ↔ (s.st = 1 ∨ s.st = 2) := Iff.rfl
  by_cases hsn : sn = s.ses
  rotate_left
  · rw [if_neg hsn]
    have hal : (decide (s.st = 1) || decide (s.st = 2)) = (decide (s.st = 1) || decide (s.st = 2)) := rfl
    refine Tr.enter env _ Tryz.func14 (by kernel_rfl) rfl Tryz.ntmps14 rfl (by repeat (first | exact has00 | refine has01 ?_)) fun w0 => ?_
    repeat' first|(refine gca ?_; first|(refine ca (none_tr p s.ses s.bud s.tmo s.last _ s.st h.opn h.pts h.ack h.c) ?_; rintro _ _ ⟨rfl, rfl⟩)|(refine ca hG ?_; rintro _ _ ⟨dv, rfl, hdv, rfl⟩)|(refine ca (Sends_tr kd sn bn pn rn dv bl hdv) ?_; rintro _ _ ⟨rfl, rfl⟩; rw [hX])|(refine ca (alive_tr p _ _ _ _ _ _ _ _ _ s.st) ?_; rintro _ _ ⟨rfl, rfl⟩; rw [hal])|(refine ca (abort_tr p s.ses s.bud s.tmo s.last s.sil s.st h.opn h.pts h.ack h.c) ?_; rintro _ _ ⟨o1, ho1, rfl⟩)|(refine ca (sends_tr p s.ses s.bud s.tmo s.last s.sil s.st h.opn h.pts h.ack h.c [o1] (one_cons ho1 one_nil) (by simp)) ?_; rintro o _ ⟨ho, rfl⟩)|(refine ca (sends_tr p s.ses s.bud s.tmo s.last s.sil s.st h.opn h.pts h.ack h.c [] one_nil (by simp)) ?_; rintro o _ ⟨ho, rfl⟩))|refine al fun z => ?_|refine srz ?_|refine lda ?_|(refine qlnp (L := prsL h.es s.sent) ?_; rw [hpl])|(refine wo ?_; first|(refine ao ?_; first|refine oa ?_)|refine oa ?_)|(refine gc ?_; first|refine cf ?_|(refine cn (fun hB => ?_) (fun hB => ?_) <;> try (exfalso; omega)))|refine sq ?_|refine rg ?_|refine xc ?_|refine nl ?_|refine sk ?_|refine bk ?_|refine rt ?_|refine rq ?_|refine nq ?_|(refine wq ?_; first|(refine qao ?_; first|refine qa ?_)|refine qa ?_|refine qld ?_)
    all_goals first | (exfalso; omega) | (refine TX.im (relg_nil (g := y8) _) ?_; refine TX.im (own_nil TyV _) ?_; exact r2 ⟨nS, [], rfl, rfl, rfl, rfl⟩)
  rw [if_pos hsn]
  by_cases h36 : s.st = 3 ∨ s.st = 6
  · rw [if_pos h36]
    have hal : (decide (s.st = 1) || decide (s.st = 2)) = false := by rw [decide_eq_false (by omega), decide_eq_false (by omega)]; rfl
    refine Tr.enter env _ Tryz.func14 (by kernel_rfl) rfl Tryz.ntmps14 rfl (by repeat (first | exact has00 | refine has01 ?_)) fun w0 => ?_
    repeat' first|(refine gca ?_; first|(refine ca (none_tr p s.ses s.bud s.tmo s.last _ s.st h.opn h.pts h.ack h.c) ?_; rintro _ _ ⟨rfl, rfl⟩)|(refine ca hG ?_; rintro _ _ ⟨dv, rfl, hdv, rfl⟩)|(refine ca (Sends_tr kd sn bn pn rn dv bl hdv) ?_; rintro _ _ ⟨rfl, rfl⟩; rw [hX])|(refine ca (alive_tr p _ _ _ _ _ _ _ _ _ s.st) ?_; rintro _ _ ⟨rfl, rfl⟩; rw [hal])|(refine ca (abort_tr p s.ses s.bud s.tmo s.last s.sil s.st h.opn h.pts h.ack h.c) ?_; rintro _ _ ⟨o1, ho1, rfl⟩)|(refine ca (sends_tr p s.ses s.bud s.tmo s.last s.sil s.st h.opn h.pts h.ack h.c [o1] (one_cons ho1 one_nil) (by simp)) ?_; rintro o _ ⟨ho, rfl⟩)|(refine ca (sends_tr p s.ses s.bud s.tmo s.last s.sil s.st h.opn h.pts h.ack h.c [] one_nil (by simp)) ?_; rintro o _ ⟨ho, rfl⟩))|refine al fun z => ?_|refine srz ?_|refine lda ?_|(refine qlnp (L := prsL h.es s.sent) ?_; rw [hpl])|(refine wo ?_; first|(refine ao ?_; first|refine oa ?_)|refine oa ?_|refine ld ?_|refine gy ?_|refine gn ?_|(refine gsi (fun hB => ?_) (fun hB => ?_) <;> try (exfalso; omega)))|(refine gc ?_; first|refine ct ?_|refine cf ?_|(refine ci (fun hB => ?_) (fun hB => ?_) <;> try (exfalso; omega))|(refine cn (fun hB => ?_) (fun hB => ?_) <;> try (exfalso; omega)))|refine sq ?_|refine rg ?_|refine xc ?_|refine nl ?_|refine sk ?_|refine bk ?_|refine rt ?_|refine rq ?_|refine nq ?_|(refine wq ?_; first|(refine qao ?_; first|refine qa ?_)|refine qa ?_|refine qld ?_)
    all_goals first | (exfalso; omega) | (refine TX.im (relg_nil (g := y8) _) ?_; refine TX.im (own_nil TyV _) ?_; exact r2 ⟨nS, [], rfl, rfl, rfl, rfl⟩)
  rw [if_neg h36]
  by_cases ha : s.alive
  rotate_left
  · rw [if_neg ha]
    have hal : (decide (s.st = 1) || decide (s.st = 2)) = false := by
      rw [hal'] at ha
      rw [decide_eq_false (by omega), decide_eq_false (by omega)]; rfl
    by_cases h4 : kd = 4
    · rw [if_pos h4]
      refine Tr.enter env _ Tryz.func14 (by kernel_rfl) rfl Tryz.ntmps14 rfl (by repeat (first | exact has00 | refine has01 ?_)) fun w0 => ?_
      repeat' first|(refine gca ?_; first|(refine ca (none_tr p s.ses s.bud s.tmo s.last _ s.st h.opn h.pts h.ack h.c) ?_; rintro _ _ ⟨rfl, rfl⟩)|(refine ca hG ?_; rintro _ _ ⟨dv, rfl, hdv, rfl⟩)|(refine ca (Sends_tr kd sn bn pn rn dv bl hdv) ?_; rintro _ _ ⟨rfl, rfl⟩; rw [hX])|(refine ca (alive_tr p _ _ _ _ _ _ _ _ _ s.st) ?_; rintro _ _ ⟨rfl, rfl⟩; rw [hal])|(refine ca (abort_tr p s.ses s.bud s.tmo s.last s.sil s.st h.opn h.pts h.ack h.c) ?_; rintro _ _ ⟨o1, ho1, rfl⟩)|(refine ca (sends_tr p s.ses s.bud s.tmo s.last s.sil s.st h.opn h.pts h.ack h.c [o1] (one_cons ho1 one_nil) (by simp)) ?_; rintro o _ ⟨ho, rfl⟩)|(refine ca (sends_tr p s.ses s.bud s.tmo s.last s.sil s.st h.opn h.pts h.ack h.c [] one_nil (by simp)) ?_; rintro o _ ⟨ho, rfl⟩))|refine al fun z => ?_|refine srz ?_|refine lda ?_|(refine qlnp (L := prsL h.es s.sent) ?_; rw [hpl])|(refine wo ?_; first|(refine ao ?_; first|refine oa ?_)|refine oa ?_|refine ld ?_|refine gy ?_|(refine gsi (fun hB => ?_) (fun hB => ?_) <;> try (exfalso; omega)))|(refine gc ?_; first|refine ct ?_|refine cf ?_|(refine ci (fun hB => ?_) (fun hB => ?_) <;> try (exfalso; omega))|(refine cn (fun hB => ?_) (fun hB => ?_) <;> try (exfalso; omega)))|refine sq ?_|refine rg ?_|refine xc ?_|refine nl ?_|refine sk ?_|refine bk ?_|refine rt ?_|refine rq ?_|refine nq ?_|(refine wq ?_; first|(refine qao ?_; first|refine qa ?_)|refine qa ?_|refine qld ?_)
      all_goals first | (exfalso; omega) | (refine TX.im (relg_nil (g := y8) _) ?_; exact r2 ⟨o, [], rfl, ho, rfl, rfl⟩)
    · rw [if_neg h4]
      refine Tr.enter env _ Tryz.func14 (by kernel_rfl) rfl Tryz.ntmps14 rfl (by repeat (first | exact has00 | refine has01 ?_)) fun w0 => ?_
      repeat' first|(refine gca ?_; first|(refine ca (none_tr p s.ses s.bud s.tmo s.last _ s.st h.opn h.pts h.ack h.c) ?_; rintro _ _ ⟨rfl, rfl⟩)|(refine ca hG ?_; rintro _ _ ⟨dv, rfl, hdv, rfl⟩)|(refine ca (Sends_tr kd sn bn pn rn dv bl hdv) ?_; rintro _ _ ⟨rfl, rfl⟩; rw [hX])|(refine ca (alive_tr p _ _ _ _ _ _ _ _ _ s.st) ?_; rintro _ _ ⟨rfl, rfl⟩; rw [hal])|(refine ca (abort_tr p s.ses s.bud s.tmo s.last s.sil s.st h.opn h.pts h.ack h.c) ?_; rintro _ _ ⟨o1, ho1, rfl⟩)|(refine ca (sends_tr p s.ses s.bud s.tmo s.last s.sil s.st h.opn h.pts h.ack h.c [o1] (one_cons ho1 one_nil) (by simp)) ?_; rintro o _ ⟨ho, rfl⟩)|(refine ca (sends_tr p s.ses s.bud s.tmo s.last s.sil s.st h.opn h.pts h.ack h.c [] one_nil (by simp)) ?_; rintro o _ ⟨ho, rfl⟩))|refine al fun z => ?_|refine srz ?_|refine lda ?_|(refine qlnp (L := prsL h.es s.sent) ?_; rw [hpl])|(refine wo ?_; first|(refine ao ?_; first|refine oa ?_)|refine oa ?_|refine ld ?_|refine gy ?_|(refine gsi (fun hB => ?_) (fun hB => ?_) <;> try (exfalso; omega)))|(refine gc ?_; first|refine ct ?_|refine cf ?_|(refine ci (fun hB => ?_) (fun hB => ?_) <;> try (exfalso; omega))|(refine cn (fun hB => ?_) (fun hB => ?_) <;> try (exfalso; omega)))|refine sq ?_|refine rg ?_|refine xc ?_|refine nl ?_|refine sk ?_|refine bk ?_|refine rt ?_|refine rq ?_|refine nq ?_|(refine wq ?_; first|(refine qao ?_; first|refine qa ?_)|refine qa ?_|refine qld ?_)
      all_goals first | (exfalso; omega) | (refine TX.im (one_out (o := o) (o1 := o1) (by first | apply Fit.all | ((repeat (first | (apply Fit.nilN; (repeat (first | apply nrm_nil | apply nrm_cons)); try apply nrm_rfl) | (apply Fit.cons; focus ((repeat (first | apply Tk.here | apply Tk.there)); first | done | fail)))); first | done | fail))) ?_; exact r2 ⟨o, [o1], rfl, ho, rfl, rfl⟩)
  rw [if_pos ha]
  have hal : (decide (s.st = 1) || decide (s.st = 2)) = true := by
    rw [hal'] at ha
    rcases ha with ha | ha <;> simp [ha]
  by_cases hk2 : kd = 2
  rotate_left
  · rw [if_neg hk2]
    by_cases hk3 : kd = 3
    · rw [if_pos hk3]
      refine Tr.enter env _ Tryz.func14 (by kernel_rfl) rfl Tryz.ntmps14 rfl (by repeat (first | exact has00 | refine has01 ?_)) fun w0 => ?_
      repeat' first|(refine gca ?_; first|(refine ca (none_tr p s.ses s.bud s.tmo s.last _ s.st h.opn h.pts h.ack h.c) ?_; rintro _ _ ⟨rfl, rfl⟩)|(refine ca hG ?_; rintro _ _ ⟨dv, rfl, hdv, rfl⟩)|(refine ca (Sends_tr kd sn bn pn rn dv bl hdv) ?_; rintro _ _ ⟨rfl, rfl⟩; rw [hX])|(refine ca (alive_tr p _ _ _ _ _ _ _ _ _ s.st) ?_; rintro _ _ ⟨rfl, rfl⟩; rw [hal])|(refine ca (abort_tr p s.ses s.bud s.tmo s.last s.sil s.st h.opn h.pts h.ack h.c) ?_; rintro _ _ ⟨o1, ho1, rfl⟩)|(refine ca (sends_tr p s.ses s.bud s.tmo s.last s.sil s.st h.opn h.pts h.ack h.c [o1] (one_cons ho1 one_nil) (by simp)) ?_; rintro o _ ⟨ho, rfl⟩)|(refine ca (sends_tr p s.ses s.bud s.tmo s.last s.sil s.st h.opn h.pts h.ack h.c [] one_nil (by simp)) ?_; rintro o _ ⟨ho, rfl⟩))|refine al fun z => ?_|refine srz ?_|refine lda ?_|(refine qlnp (L := prsL h.es s.sent) ?_; rw [hpl])|(refine wo ?_; first|(refine ao ?_; first|refine oa ?_)|refine oa ?_|refine ld ?_|refine sr ?_|refine gy ?_|(refine gsi (fun hB => ?_) (fun hB => ?_) <;> try (exfalso; omega)))|(refine gc ?_; first|refine cf ?_|(refine ci (fun hB => ?_) (fun hB => ?_) <;> try (exfalso; omega))|(refine cn (fun hB => ?_) (fun hB => ?_) <;> try (exfalso; omega)))|refine sq ?_|refine rg ?_|refine xc ?_|refine nl ?_|refine sk ?_|refine bk ?_|refine rt ?_|refine xb ?_|refine rq ?_|refine nq ?_|(refine wq ?_; first|(refine qao ?_; first|refine qa ?_)|refine qa ?_|refine qld ?_)
      all_goals first | (exfalso; omega) | (refine TX.im (relg_nil (g := y8) _) ?_; refine TX.im (own_nil TyV _) ?_; exact r2 ⟨nS, [], rfl, rfl, rfl, rfl⟩)
    · rw [if_neg hk3]
      refine Tr.enter env _ Tryz.func14 (by kernel_rfl) rfl Tryz.ntmps14 rfl (by repeat (first | exact has00 | refine has01 ?_)) fun w0 => ?_
      repeat' first|(refine gca ?_; first|(refine ca (none_tr p s.ses s.bud s.tmo s.last _ s.st h.opn h.pts h.ack h.c) ?_; rintro _ _ ⟨rfl, rfl⟩)|(refine ca hG ?_; rintro _ _ ⟨dv, rfl, hdv, rfl⟩)|(refine ca (Sends_tr kd sn bn pn rn dv bl hdv) ?_; rintro _ _ ⟨rfl, rfl⟩; rw [hX])|(refine ca (alive_tr p _ _ _ _ _ _ _ _ _ s.st) ?_; rintro _ _ ⟨rfl, rfl⟩; rw [hal])|(refine ca (abort_tr p s.ses s.bud s.tmo s.last s.sil s.st h.opn h.pts h.ack h.c) ?_; rintro _ _ ⟨o1, ho1, rfl⟩)|(refine ca (sends_tr p s.ses s.bud s.tmo s.last s.sil s.st h.opn h.pts h.ack h.c [o1] (one_cons ho1 one_nil) (by simp)) ?_; rintro o _ ⟨ho, rfl⟩)|(refine ca (sends_tr p s.ses s.bud s.tmo s.last s.sil s.st h.opn h.pts h.ack h.c [] one_nil (by simp)) ?_; rintro o _ ⟨ho, rfl⟩))|refine al fun z => ?_|refine srz ?_|refine lda ?_|(refine qlnp (L := prsL h.es s.sent) ?_; rw [hpl])|(refine wo ?_; first|(refine ao ?_; first|refine oa ?_)|refine oa ?_|refine ld ?_|refine sr ?_|refine gy ?_|(refine gsi (fun hB => ?_) (fun hB => ?_) <;> try (exfalso; omega)))|(refine gc ?_; first|refine cf ?_|(refine ci (fun hB => ?_) (fun hB => ?_) <;> try (exfalso; omega))|(refine cn (fun hB => ?_) (fun hB => ?_) <;> try (exfalso; omega)))|refine sq ?_|refine rg ?_|refine xc ?_|refine nl ?_|refine sk ?_|refine bk ?_|refine rt ?_|refine xb ?_|refine rq ?_|refine nq ?_|(refine wq ?_; first|(refine qao ?_; first|refine qa ?_)|refine qa ?_|refine qld ?_)
      all_goals first | (exfalso; omega) | (refine TX.im (relg_nil (g := y8) _) ?_; refine TX.im (own_nil TyV _) ?_; exact r2 ⟨nS, [], rfl, rfl, rfl, rfl⟩)
  rw [if_pos hk2]
  have hbn : 0 ≤ bn := (hpk rfl).2.2.1.1
  by_cases hb1 : (s.ack.length : Int) < bn
  · rw [if_pos hb1]
    refine Tr.enter env _ Tryz.func14 (by kernel_rfl) rfl Tryz.ntmps14 rfl (by repeat (first | exact has00 | refine has01 ?_)) fun w0 => ?_
    repeat' first|(refine gca ?_; first|(refine ca (none_tr p s.ses s.bud s.tmo s.last _ s.st h.opn h.pts h.ack h.c) ?_; rintro _ _ ⟨rfl, rfl⟩)|(refine ca hG ?_; rintro _ _ ⟨dv, rfl, hdv, rfl⟩)|(refine ca (Sends_tr kd sn bn pn rn dv bl hdv) ?_; rintro _ _ ⟨rfl, rfl⟩; rw [hX])|(refine ca (alive_tr p _ _ _ _ _ _ _ _ _ s.st) ?_; rintro _ _ ⟨rfl, rfl⟩; rw [hal])|(refine ca (abort_tr p s.ses s.bud s.tmo s.last s.sil s.st h.opn h.pts h.ack h.c) ?_; rintro _ _ ⟨o1, ho1, rfl⟩)|(refine ca (sends_tr p s.ses s.bud s.tmo s.last s.sil s.st h.opn h.pts h.ack h.c [o1] (one_cons ho1 one_nil) (by simp)) ?_; rintro o _ ⟨ho, rfl⟩)|(refine ca (sends_tr p s.ses s.bud s.tmo s.last s.sil s.st h.opn h.pts h.ack h.c [] one_nil (by simp)) ?_; rintro o _ ⟨ho, rfl⟩))|refine al fun z => ?_|refine srz ?_|refine lda ?_|(refine qlnp (L := prsL h.es s.sent) ?_; rw [hpl])|(refine wo ?_; first|(refine ao ?_; first|refine oa ?_)|refine oa ?_|refine ld ?_|refine gy ?_|(refine gsi (fun hB => ?_) (fun hB => ?_) <;> try (exfalso; omega)))|(refine gc ?_; first|refine cf ?_|(refine ci (fun hB => ?_) (fun hB => ?_) <;> try (exfalso; omega))|(refine cn (fun hB => ?_) (fun hB => ?_) <;> try (exfalso; omega)))|refine sq ?_|refine rg ?_|refine xc ?_|refine nl ?_|refine sk ?_|refine bk ?_|refine rt ?_|refine xb ?_|refine rq ?_|refine nq ?_|(refine wq ?_; first|(refine qao ?_; first|refine qa ?_)|refine qa ?_|refine qld ?_)
    all_goals first | (exfalso; omega) | (refine TX.im (relg_nil (g := y8) _) ?_; refine TX.im (own_nil TyV _) ?_; exact r2 ⟨nS, [], rfl, rfl, rfl, rfl⟩)
  rw [if_neg hb1]
  by_cases hb2 : bn < (s.ack.length : Int)
  rotate_left
  · rw [if_neg hb2]
    refine Tr.enter env _ Tryz.func14 (by kernel_rfl) rfl Tryz.ntmps14 rfl (by repeat (first | exact has00 | refine has01 ?_)) fun w0 => ?_
    repeat' first|(refine gca ?_; first|(refine ca (none_tr p s.ses s.bud s.tmo s.last _ s.st h.opn h.pts h.ack h.c) ?_; rintro _ _ ⟨rfl, rfl⟩)|(refine ca hG ?_; rintro _ _ ⟨dv, rfl, hdv, rfl⟩)|(refine ca (Sends_tr kd sn bn pn rn dv bl hdv) ?_; rintro _ _ ⟨rfl, rfl⟩; rw [hX])|(refine ca (alive_tr p _ _ _ _ _ _ _ _ _ s.st) ?_; rintro _ _ ⟨rfl, rfl⟩; rw [hal])|(refine ca (abort_tr p s.ses s.bud s.tmo s.last s.sil s.st h.opn h.pts h.ack h.c) ?_; rintro _ _ ⟨o1, ho1, rfl⟩)|(refine ca (sends_tr p s.ses s.bud s.tmo s.last s.sil s.st h.opn h.pts h.ack h.c [o1] (one_cons ho1 one_nil) (by simp)) ?_; rintro o _ ⟨ho, rfl⟩)|(refine ca (sends_tr p s.ses s.bud s.tmo s.last s.sil s.st h.opn h.pts h.ack h.c [] one_nil (by simp)) ?_; rintro o _ ⟨ho, rfl⟩))|refine al fun z => ?_|refine srz ?_|refine lda ?_|(refine qlnp (L := prsL h.es s.sent) ?_; rw [hpl])|(refine wo ?_; first|(refine ao ?_; first|refine oa ?_)|refine oa ?_|refine ld ?_|refine sr ?_|refine gy ?_|(refine gsi (fun hB => ?_) (fun hB => ?_) <;> try (exfalso; omega)))|(refine gc ?_; first|refine cf ?_|(refine ci (fun hB => ?_) (fun hB => ?_) <;> try (exfalso; omega))|(refine cn (fun hB => ?_) (fun hB => ?_) <;> try (exfalso; omega)))|refine sq ?_|refine rg ?_|refine xc ?_|refine nl ?_|refine sk ?_|refine bk ?_|refine rt ?_|refine xb ?_|refine rq ?_|refine nq ?_|(refine wq ?_; first|(refine qao ?_; first|refine qa ?_)|refine qa ?_|refine qld ?_)
    all_goals first | (exfalso; omega) | (refine TX.im (relg_nil (g := y8) _) ?_; refine TX.im (own_nil TyV _) ?_; exact r2 ⟨nS, [], rfl, rfl, rfl, rfl⟩)
  rw [if_pos hb2]
  have hbl := Bo_len s.ack
  have hsB : Bo (s.ack.set bn.toNat true) = (Bo s.ack).set bn.toNat (.bool true) := List.map_set ..
  refine Tr.enter env _ Tryz.func14 (by kernel_rfl) rfl Tryz.ntmps14 rfl (by repeat (first | exact has00 | refine has01 ?_)) fun w0 => ?_
  repeat' first|(refine gca ?_; first|(refine ca (none_tr p s.ses s.bud s.tmo s.last _ s.st h.opn h.pts h.ack h.c) ?_; rintro _ _ ⟨rfl, rfl⟩)|(refine ca hG ?_; rintro _ _ ⟨dv, rfl, hdv, rfl⟩)|(refine ca (Sends_tr kd sn bn pn rn dv bl hdv) ?_; rintro _ _ ⟨rfl, rfl⟩; rw [hX])|(refine ca (alive_tr p _ _ _ _ _ _ _ _ _ s.st) ?_; rintro _ _ ⟨rfl, rfl⟩; rw [hal])|(refine ca (abort_tr p s.ses s.bud s.tmo s.last s.sil s.st h.opn h.pts h.ack h.c) ?_; rintro _ _ ⟨o1, ho1, rfl⟩)|(refine ca (sends_tr p s.ses s.bud s.tmo s.last s.sil s.st h.opn h.pts h.ack h.c [o1] (one_cons ho1 one_nil) (by simp)) ?_; rintro o _ ⟨ho, rfl⟩)|(refine ca (sends_tr p s.ses s.bud s.tmo s.last s.sil s.st h.opn h.pts h.ack h.c [] one_nil (by simp)) ?_; rintro o _ ⟨ho, rfl⟩))|refine rs (id := 23) (fun w => w.heap[p]? = some (.cells [I s.ses, I s.bud, I s.tmo, h.opn, h.pts, h.ack, I s.last, I s.sil, I 2, chv h.c].toArray TSn (0, 0)) ∧ w.heap[z]? = some (.cells [I kd, I sn, I bn, I pn, I rn, dv].toArray TPk (0, 0))) ?_ (fun w hw => ⟨pt_at (by (repeat (first | apply List.Mem.head | apply List.Mem.tail)); first | done | fail) hw, pt_at (by (repeat (first | apply List.Mem.head | apply List.Mem.tail)); first | done | fail) hw⟩)|refine al fun z => ?_|refine srz ?_|refine lda ?_|(refine qlnp (L := prsL h.es s.sent) ?_; rw [hpl])|(refine wo ?_; first|(refine ao ?_; first|refine oa ?_)|refine oa ?_|refine ld ?_|refine sr ?_|refine gy ?_|(refine gsi (fun hB => ?_) (fun hB => ?_) <;> try (exfalso; omega)))|(refine gc ?_; first|refine cf ?_|(refine ci (fun hB => ?_) (fun hB => ?_) <;> try (exfalso; omega))|(refine cn (fun hB => ?_) (fun hB => ?_) <;> try (exfalso; omega)))|refine sq ?_|refine rg ?_|refine xc ?_|refine nl ?_|refine sk ?_|refine bk ?_|refine xb ?_|refine rq ?_|refine nq ?_|(refine wq ?_; first|(refine qao ?_; first|refine qa ?_)|refine qa ?_|refine qld ?_)
  all_goals try (exfalso; omega)
  refine tka 0 ?_
  refine tka 1 ?_
  refine tka 2 ?_
  refine tkl 3 (cs := [I s.ses, I s.bud, I s.tmo, h.opn, h.pts, h.ack, I s.last, I s.sil, I 2, chv h.c]) (fun w h => h.1) ?_
  refine tka 4 ?_
  refine tkl 5 (cs := [I kd, I sn, I bn, I pn, I rn, dv]) (fun w h => h.2) ?_
  refine t1 6 ?_
  refine ix (xs := Bo s.ack) ?_
  refine nl ?_
  refine te (fun w hw => ⟨pt_at (by (repeat (first | apply List.Mem.head | apply List.Mem.tail)); first | done | fail) hw, pt_at (by (repeat (first | apply List.Mem.head | apply List.Mem.tail)); first | done | fail) hw⟩) ?_
  refine t1 7 ?_
  refine so (xs := Bo s.ack) (ys := Bo (s.ack.set bn.toNat true)) ?_ (hs := hsB) (hj := by omega)
  refine nl ?_
  refine te (fun w hw => ⟨pt_at (by (repeat (first | apply List.Mem.head | apply List.Mem.tail)); first | done | fail) hw, pt_at (by (repeat (first | apply List.Mem.head | apply List.Mem.tail)); first | done | fail) hw⟩) ?_
  refine t0 ?_
  repeat' first|(refine wo ?_; first|refine oa ?_|refine sr ?_)|refine sq ?_|refine rg ?_|refine xc ?_|refine nl ?_|refine rt ?_|refine xb ?_
  (refine TX.im (relg_nil (g := y8) _) ?_; refine TX.im (own_nil TyV _) ?_; exact r2 ⟨nS, [], rfl, rfl, rfl, rfl⟩)
end Go.Art.Sn
namespace Go.Art.Sn
open Go Go.Proofs Go.RowKit Go.Art
theorem bytes_len (m : MfS) : m.bytes.length = 20 + 4 * m.t.length := by
  unfold MfS.bytes
  rw [List.length_append, wB_len _ _ (Nat.le_refl _)]
  simp [headB, beB_len]
theorem syms_len (m : MfS) (d : List Int) (n : Int) : (m.syms d n).length = m.k.toNat := chL_len _ _ _
/-- A manifest's encoders are all made. -/
theorem enc_ok {m : MfS} (hok : m.ok) (d : List Int) {n : Int} (hn : 0 ≤ n ∧ n < m.blocks) : newE m.t n (m.syms d n) = 0 := by
  have hbi := MfS.blocks_in hok
  obtain ⟨_, g2, g3, _, g5⟩ := hok
  have hl := syms_len m d n
  have hall : ∀ l ∈ m.syms d n, l.length = m.sym.toNat := by
    intro l hl
    unfold MfS.syms chL at hl
    obtain ⟨i, _, rfl⟩ := List.mem_map.1 hl
    unfold chP
    exact padL_len (by rw [List.length_take]; omega)
  have h0 : ((m.syms d n).getD 0 []).length = m.sym.toNat := hall _ (getD_memL (by omega))
  have hb : blkE (m.syms d n) = 0 := by
    unfold blkE
    rw [if_neg (by omega), if_neg]
    rw [List.any_eq_true]
    rintro ⟨l, hl, h⟩
    have := hall l hl
    rw [this, h0] at h
    simp at h
  rw [newE, if_pos hb, smpE, hl, Int.toNat_of_nonneg (by omega), if_pos (mtB_sol g3 g5).1, if_pos (by unfold numOk; omega)]
theorem prsL_app : ∀ (es : List EnH) (j : Nat) (e : EnH), es.length = j → prsL (es ++ [e]) (List.replicate (j + 1) 0) = prsL es (List.replicate j 0) ++ [(srcV e.b, I 0)]
  | [], j, e, h => by subst h; rfl
  | a :: r, j, e, h => by
    cases j with
    | zero => simp at h
    | succ j => simp only [List.cons_append, List.replicate_succ, prsL]; rw [← prsL_app r j e (by simpa using h), List.replicate_succ]
theorem frz_snoc {A F C D : List Ch} (hn : ∀ c ∈ D, ∀ b, ¬ c.bd b) (hf : Fit A (frz C :: D) F) : Im A (frz (C ++ D) :: F) := by
  unfold Fit at hf
  exact Im.trans hf (Im.trans (Im.cons _ (im_frz D hn F)) (frz_app C D F))
structure NwG2 where
  j : Nat
  pts : Value
  es : List EnH
def newSE (m : MfS) (d : List Int) (ses bud tmo : Int) : Int :=
  if m.ok ∧ (d.length : Int) = m.size then (if (0 ≤ ses ∧ ses ≤ 4294967295) ∧ (0 ≤ bud ∧ bud ≤ 2147483647) ∧ 1 ≤ tmo ∧ tmo ≤ 2147483647 then 0 else 3) else 2
/-- A sender, new. -/
def SP.new (m : MfS) (d : List Int) (ses bud tmo : Int) : SP := ⟨ses, bud, tmo, -1, 0, 1, m, d, List.replicate m.blocks.toNat 0, List.replicate m.blocks.toNat false, m.bytes⟩
attribute [local irreducible] Fit pt own ro vw mpc lpt vels rels mow lrc dfr
attribute [local irreducible] lmp lme mit velg relg
theorem swithin_tr (n lo hi : Int) : Tr Tryz.prog 30 [I n, I lo, I hi] [] [] fun v D => v = .bool (decide (lo ≤ n ∧ n ≤ hi)) ∧ D = [] := by
  refine Tr.enter env _ Tryz.func30 (by kernel_rfl) rfl Tryz.ntmps30 rfl (by repeat (first | exact has00 | refine has01 ?_)) fun w0 => ?_
  repeat' first|(refine wo ?_; first|(refine ao ?_; first|refine oa ?_)|refine oa ?_|refine gy ?_|refine gn ?_|(refine gsi (fun hB => ?_) (fun hB => ?_) <;> try (exfalso; omega)))|refine sq ?_|refine rg ?_|refine xc ?_|refine nl ?_|refine rt ?_
  all_goals refine r1 ⟨?_, rfl⟩
  all_goals first
    | rw [decide_eq_false (by omega)]
    | (congr 1; exact decide_eq_decide.2 ⟨fun h => by omega, fun h => by omega⟩)
set_option maxHeartbeats 4000000 in
theorem SNew_tr (m : MfS) (tv dv : Value) (d : List Int) (ses bud tmo : Int) (hv : tv.oneCell' = true) (hsd : m.seed ≤ 9223372036854775807) (hdl : d.length ≤ 1099511627776) :
    Tr Tryz.prog 11 [.agg #[I m.size, I m.sym, I m.k, I m.seed, tv], dv, I ses, I bud, I tmo] [vw tv (Is m.t), vw dv (By d)] []
      fun v D => (newSE m d ses bud tmo = 0 ∧ ∃ p h, v = tup2 (ptr p) (I 0) ∧ (SP.new m d ses bud tmo).ok h ∧ D = sndP p h (SP.new m d ses bud tmo)) ∨ (newSE m d ses bud tmo ≠ 0 ∧ v = tup2 nP (I (newSE m d ses bud tmo)) ∧ D = []) := by
  have hP := MPut_tr m tv hv hsd
  have hBl := Blocks_tr m tv hv
  have hdB := By_len d
  by_cases hok : m.ok
  rotate_left
  · have e : newSE m d ses bud tmo = 2 := if_neg fun h => hok h.1
    rw [if_neg hok, show mfE m = 2 from if_neg hok] at hP
    rw [e]
    refine Tr.enter env _ Tryz.func11 (by kernel_rfl) rfl Tryz.ntmps11 rfl (by repeat (first | exact has00 | refine has01 ?_)) fun w0 => ?_
    repeat' first|(refine gca ?_; first|(refine ca hP ?_; rintro _ _ ⟨o, rfl, ho, rfl⟩))|refine bx fun q => ?_|refine lda ?_|(refine ln (xs := By d) ?_; rw [hdB])|(refine wo ?_; first|(refine ao ?_; first|refine oa ?_)|refine oa ?_|refine gn ?_)|(refine gc ?_; first|refine ct ?_)|refine sq ?_|refine rg ?_|refine xc ?_|refine nl ?_|refine rt ?_
    exact r2 (.inr ⟨by decide, rfl, rfl⟩)
  have hbl := bytes_len m
  have htl := (mtB_sol hok.2.2.1 hok.2.2.2.2).2
  have hbi := MfS.blocks_in hok
  rw [if_pos hok, show mfE m = 0 from if_pos hok] at hP
  have hbB := By_len m.bytes
  by_cases hsz : (d.length : Int) = m.size
  rotate_left
  · have e : newSE m d ses bud tmo = 2 := if_neg fun h => hsz h.2
    rw [e]
    refine Tr.enter env _ Tryz.func11 (by kernel_rfl) rfl Tryz.ntmps11 rfl (by repeat (first | exact has00 | refine has01 ?_)) fun w0 => ?_
    repeat' first|(refine gca ?_; first|(refine ca hP ?_; rintro _ _ ⟨o, rfl, ho, rfl⟩))|refine bx fun q => ?_|refine lda ?_|(refine ln (xs := By d) ?_; rw [hdB])|(refine ln (xs := By m.bytes) ?_; rw [hbB])|(refine wo ?_; first|(refine ao ?_; first|refine oa ?_)|refine oa ?_|refine ld ?_|refine gy ?_|(refine gsi (fun hB => ?_) (fun hB => ?_) <;> try (exfalso; omega)))|(refine gc ?_; first|(refine cn (fun hB => ?_) (fun hB => ?_) <;> try (exfalso; omega)))|refine sq ?_|refine rg ?_|refine xc ?_|refine nl ?_|refine rt ?_
    all_goals first | (exfalso; omega) | exact r2 (.inr ⟨by decide, rfl, rfl⟩)
  by_cases hr : (0 ≤ ses ∧ ses ≤ 4294967295) ∧ (0 ≤ bud ∧ bud ≤ 2147483647) ∧ 1 ≤ tmo ∧ tmo ≤ 2147483647
  rotate_left
  · have e : newSE m d ses bud tmo = 3 := by rw [newSE, if_pos ⟨hok, hsz⟩, if_neg hr]
    rw [e]
    refine Tr.enter env _ Tryz.func11 (by kernel_rfl) rfl Tryz.ntmps11 rfl (by repeat (first | exact has00 | refine has01 ?_)) fun w0 => ?_
    repeat' first|(refine gca ?_; first|(refine ca hP ?_; rintro _ _ ⟨o, rfl, ho, rfl⟩))|refine bx fun q => ?_|refine lda ?_|(refine ln (xs := By d) ?_; rw [hdB])|(refine ln (xs := By m.bytes) ?_; rw [hbB])|(refine cav (B := []) (vs := [I ses, I 0, I 4294967295]) (cap := #[]) (f := 30) (swithin_tr ses 0 4294967295) ?_ (hs := Fit.nil); rintro _ _ ⟨rfl, rfl⟩)|(refine cav (B := []) (vs := [I bud, I 0, I 2147483647]) (cap := #[]) (f := 30) (swithin_tr bud 0 2147483647) ?_ (hs := Fit.nil); rintro _ _ ⟨rfl, rfl⟩)|(refine cav (B := []) (vs := [I tmo, I 1, I 2147483647]) (cap := #[]) (f := 30) (swithin_tr tmo 1 2147483647) ?_ (hs := Fit.nil); rintro _ _ ⟨rfl, rfl⟩)|(refine wo ?_; first|(refine ao ?_; first|refine oa ?_)|refine oa ?_|refine ld ?_|refine gy ?_|refine gn ?_|(refine gsi (fun hB => ?_) (fun hB => ?_) <;> try (exfalso; omega))|(refine gsn (fun hB => ?_) (fun hB => ?_) <;> try (exfalso; omega)))|(refine gc ?_; first|refine ct ?_|(refine cn (fun hB => ?_) (fun hB => ?_) <;> try (exfalso; omega)))|refine sq ?_|refine rg ?_|refine xc ?_|refine nl ?_|refine sk ?_|refine rt ?_
    all_goals first | (exfalso; omega) | exact r2 (.inr ⟨by decide, rfl, rfl⟩)
  have e : newSE m d ses bud tmo = 0 := by rw [newSE, if_pos ⟨hok, hsz⟩, if_pos hr]
  rw [e]
  obtain ⟨nb, hnb⟩ : ∃ nb : Nat, m.blocks = nb := ⟨m.blocks.toNat, by omega⟩
  have hnew : SP.new m d ses bud tmo = ⟨ses, bud, tmo, -1, 0, 1, m, d, List.replicate nb 0, List.replicate nb false, m.bytes⟩ := by
    unfold SP.new; rw [hnb, Int.toNat_natCast]
  rw [hnew]
  have hEO := fun (j : Nat) (h : j < nb) => enc_ok hok d (n := (j : Int)) (by omega)
  have hSy := fun (j : Nat) (h : j < nb) => Symbols_tr m tv dv d (j : Int) hv hok hsz (by omega)
  rw [hnb] at hBl
  have hnbl : nb ≤ 4294967295 := by omega
  refine Tr.enter env _ Tryz.func11 (by kernel_rfl) rfl Tryz.ntmps11 rfl (by repeat (first | exact has00 | refine has01 ?_)) fun w0 => ?_
  refine TC.one (v := tv) (xs := Is m.t) fun h1t => ?_
  repeat' first|(refine gca ?_; first|(refine ca hP ?_; rintro _ _ ⟨o, rfl, ho, rfl⟩)|(refine ca hBl ?_; rintro _ _ ⟨rfl, rfl⟩))|refine bx fun q => ?_|refine lda ?_|(refine ln (xs := By d) ?_; rw [hdB])|(refine ln (xs := By m.bytes) ?_; rw [hbB])|(refine cav (B := []) (vs := [I ses, I 0, I 4294967295]) (cap := #[]) (f := 30) (swithin_tr ses 0 4294967295) ?_ (hs := Fit.nil); rintro _ _ ⟨rfl, rfl⟩; rw [decide_eq_true hr.1])|(refine cav (B := []) (vs := [I bud, I 0, I 2147483647]) (cap := #[]) (f := 30) (swithin_tr bud 0 2147483647) ?_ (hs := Fit.nil); rintro _ _ ⟨rfl, rfl⟩; rw [decide_eq_true hr.2.1])|(refine cav (B := []) (vs := [I tmo, I 1, I 2147483647]) (cap := #[]) (f := 30) (swithin_tr tmo 1 2147483647) ?_ (hs := Fit.nil); rintro _ _ ⟨rfl, rfl⟩; rw [decide_eq_true hr.2.2])|(refine mkc fun c => ?_)|refine bdz ?_|(refine wo ?_; first|(refine ao ?_; first|refine oa ?_)|refine oa ?_|refine ld ?_|refine gy ?_|(refine gsi (fun hB => ?_) (fun hB => ?_) <;> try (exfalso; omega)))|(refine gc ?_; first|refine cf ?_|(refine cn (fun hB => ?_) (fun hB => ?_) <;> try (exfalso; omega)))|refine sq ?_|refine rg ?_|refine xc ?_|refine nl ?_|refine sk ?_|refine bk ?_
  rename_i qm _h0
  refine TC.im (B := [pt q [I ses, I bud, I tmo, o, nS, nS, I (-1), I 0, I 1, chv c] TSn, chp c 4 [], own TyB o (By m.bytes), pt qm [I m.size, I m.sym, I m.k, I m.seed, tv] TMf, vw tv (Is m.t), vw dv (By d)]) (Im.refl _) ?_
  refine TC.im (prs_nil TPt _) ?_
  refine TC.im (frz_nil _) ?_
  have hNw : ∀ (j : Nat) (o2 : Value) (hs : List Value), j < nb → Tr Tryz.prog 32 [o2, tv, I m.seed, I j] [vw o2 hs, velg y8 hs (m.syms d j), vw tv (Is m.t)] []
      fun v D => ∃ b cv ov sy hs', v = tup2 (ptr b) (I 0) ∧ D = encP b cv ov sy hs' m.t m.seed j (m.syms d j) ∧ cv.oneCell' = true ∧ ov.oneCell' = true := by
    intro j o2 hs hj
    refine (New_tr o2 tv hs (m.syms d j) m.t m.seed j).mono ?_
    rintro v D (⟨_, b, cv, ov, sy, hs', rfl, rfl, h1, h2, _⟩ | ⟨hne, _, _⟩)
    · exact ⟨b, cv, ov, sy, hs', rfl, rfl, h1, h2⟩
    · exact absurd (hEO j hj) hne
  refine TC.loop (ι := NwG2) (fun g => [(65, I g.j)]) (fun g => [pt q [I ses, I bud, I tmo, o, g.pts, nS, I (-1), I 0, I 1, chv c] TSn, prs TPt g.pts (prsL g.es (List.replicate g.j 0)), frz (encC m d 0 g.es)]) (fun g => (g.j ≤ nb ∧ g.es.length = g.j) ∧ g.pts.oneCell' = true ∧ ∀ (i : Nat) (e : EnH), g.es[i]? = some e → e.ok) (fun g => nb - g.j) ⟨0, nS, []⟩ [1, 5, 15, 64] ⟨⟨Nat.zero_le _, rfl⟩, rfl, by simp⟩ ?_ (hf := by dsimp only; first | apply Fit.all | ((repeat (first | (apply Fit.nilN; (repeat (first | apply nrm_nil | apply nrm_cons)); try apply nrm_rfl) | (apply Fit.cons; focus ((repeat (first | apply Tk.here | apply Tk.there)); first | done | fail)))); first | done | fail))
  rintro ⟨j, pts, es⟩ ⟨⟨g1, g2⟩, g3, g4⟩
  dsimp only at g1 g2 g3 g4 ⊢
  have hLl : (prsL es (List.replicate j 0)).length = j := by rw [prsL_len (by rw [g2, List.length_replicate]), List.length_replicate]
  by_cases hlt : j < nb
  · have hEA := fun e => encC_app m d es 0 e
    rw [Nat.zero_add, g2] at hEA
    have hPA := fun e => prsL_app es j e g2
    generalize hLg : prsL es (List.replicate j 0) = Lp at *
    repeat' first|(refine gca ?_; first|(refine ca (hSy j hlt) ?_; rintro _ _ ⟨o2, hs, rfl, ho2, hhl, rfl⟩)|(refine ca (hNw j o2 hs hlt) ?_; rintro _ _ ⟨b, cv, ov, sy, hs', rfl, rfl, hcv, hov⟩))|refine lda ?_|refine bdz ?_|refine slp (p1 := srcV b) (p2 := I 0) (fun gg => ?_)|refine app (L := Lp) (p1 := srcV b) (p2 := I 0) (fun pts2 hp2 => ?_) (h1 := ⟨rfl, rfl⟩)|(refine wo ?_; first|(refine ao ?_; first|refine aw ?_|refine oa ?_)|refine oa ?_|refine ld ?_|refine sr ?_)|(refine gc ?_; first|(refine ci (fun hB => ?_) (fun hB => ?_) <;> try (exfalso; omega)))|refine sq ?_|refine rg ?_|refine xc ?_|refine nl ?_|refine sk ?_|refine bk ?_|refine xb ?_
    refine TX.im (frz_snoc (C := encC m d 0 es) (D := encP b cv ov sy hs' m.t m.seed j (m.syms d j)) (by (repeat (first | exact nb0 | refine nb1 ?_)); first | done | fail) (by first | apply Fit.all | ((repeat (first | (apply Fit.nilN; (repeat (first | apply nrm_nil | apply nrm_cons)); try apply nrm_rfl) | (apply Fit.cons; focus ((repeat (first | apply Tk.here | apply Tk.there)); first | done | fail)))); first | done | fail))) ?_
    exact lp ⟨j + 1, pts2, es ++ [⟨b, cv, ov, sy, hs'⟩]⟩ ⟨⟨hlt, by simp [g2]⟩, hp2, fun i e he => by
      rcases Nat.lt_or_ge i es.length with h | h
      · rw [List.getElem?_append_left h] at he; exact g4 i e he
      · rw [List.getElem?_append_right h] at he
        have h0 : i - es.length = 0 := by
          rcases Nat.eq_zero_or_pos (i - es.length) with h | h
          · exact h
          · rw [List.getElem?_eq_none (by simp; omega)] at he; cases he
        rw [h0] at he
        have := Option.some.inj he
        subst this
        exact ⟨hcv, hov⟩⟩ (by dsimp only; omega) (hs := by (repeat (refine Sub.cons rfl (by first | rfl | go_num) ?_)); exact Sub.nil) (hf := by dsimp only; rw [hEA, hPA]; first | apply Fit.all | ((repeat (first | (apply Fit.nilN; (repeat (first | apply nrm_nil | apply nrm_cons)); try apply nrm_rfl) | (apply Fit.cons; focus ((repeat (first | apply Tk.here | apply Tk.there)); first | done | fail)))); first | done | fail))
  · obtain rfl : j = nb := by omega
    have hBr : Bo (List.replicate j false) = List.replicate j (.bool false) := List.map_replicate ..
    repeat' first|(refine lnp (L := prsL es (List.replicate j 0)) ?_; rw [hLl])|(refine mk (fun ak => ?_); rw [Int.toNat_natCast]; refine TO.one (v := ak) (xs := List.replicate j (.bool false)) fun hak => ?_)|(refine wo ?_; first|(refine ao ?_; first|refine oa ?_)|refine oa ?_|refine ld ?_|refine sr ?_)|(refine gc ?_; first|(refine ci (fun hB => ?_) (fun hB => ?_) <;> try (exfalso; omega)))|refine sq ?_|refine rg ?_|refine xc ?_|refine nl ?_|refine xe ?_|refine rt ?_
    rw [← hBr]
    refine r2 (.inl ⟨rfl, q, ⟨o, pts, ak, c, es⟩, rfl, ?_, rfl⟩)
    exact {
      n1 := by simp
      n2 := by simp [g2]
      n3 := by simp; omega
      enc := fun i e he => ⟨g4 i e he, hEO i (by have : i < es.length := (List.getElem?_eq_some_iff.1 he).1; omega)⟩
      bud := hr.2.1
      tmo := hr.2.2
      sil := by dsimp only; omega
      last := by dsimp only; omega
      sent := fun i => by
        dsimp only
        have h0 : (List.replicate j (0 : Int)).getD i 0 = 0 := by
          rw [List.getD_eq_getElem?_getD, List.getElem?_replicate]; split <;> rfl
        rw [h0]; have := hr.2.1; omega
      alv := fun _ => by dsimp only; omega
      opn := ho }
end Go.Art.Sn
namespace Go.Art.Sn
open Go Go.Proofs Go.RowKit Go.Art
attribute [local irreducible] Fit pt own ro vw mpc lpt vels rels mow lrc dfr
attribute [local irreducible] lmp lme mit velg relg
theorem SamePacket_tr (kd sn bn pn rn : Int) (av bv : Value) (l : List Int) (ha : av.oneCell' = true) (hb : bv.oneCell' = true) (hl : inB l) : Tr Tryz.prog 75 [.agg #[I kd, I sn, I bn, I pn, I rn, av], .agg #[I kd, I sn, I bn, I pn, I rn, bv]] [vw av (By l), vw bv (By l)] []
    fun v D => v = .bool true ∧ D = [] := by
  have hS := SameBytes_tr av bv l l hl hl
  rw [decide_eq_true (show l = l from rfl)] at hS
  refine Tr.enter env _ Tryz.func75 (by kernel_rfl) rfl Tryz.ntmps75 rfl (by repeat (first | exact has00 | refine has01 ?_)) fun w0 => ?_
  repeat' first|(refine gca ?_; first|(refine ca hS ?_; rintro _ _ ⟨rfl, rfl⟩))|refine bx fun p => ?_|(refine wo ?_; first|(refine ao ?_; first|refine oa ?_)|refine oa ?_|refine ld ?_|refine gy ?_|(refine gsi (fun hB => ?_) (fun hB => ?_) <;> try (exfalso; omega)))|refine sq ?_|refine rg ?_|refine xc ?_|refine nl ?_|refine rt ?_
  all_goals first | (exfalso; omega) | exact r1 ⟨rfl, rfl⟩
theorem told1_tr (v : Value) (os : List Value) (l : List Int) (kd bn pn rn sn0 : Int) (wv : Value) (wl : List Int) (hos : os.length = 1) (hg : pgetR l = (⟨kd, 9, bn, pn, rn, wl⟩, 0)) (hw : wv.oneCell' = true) (hl : l.length ≤ 1099511627776) (hin : inB l) (hwl : inB wl) (hkd : kd ≠ 0) :
    Tr Tryz.prog 52 [v, I 0, .agg #[I kd, I sn0, I bn, I pn, I rn, wv]] [vw v os, velg y8 os [l], vw wv (By wl)] [] fun v D => v = .bool true ∧ D = [] := by
  have hG := fun b => PGet_tr b l hl hin
  rw [hg] at hG
  dsimp only at hG
  have hSP := fun av ha => SamePacket_tr kd 9 bn pn rn av wv wl ha hw hwl
  refine Tr.enter env _ Tryz.func52 (by kernel_rfl) rfl Tryz.ntmps52 rfl (by repeat (first | exact has00 | refine has01 ?_)) fun w0 => ?_
  refine TC.elg (g := y8) (hs := os) (ls := [l]) (fun hol => ?_)
  repeat' first|(refine gca ?_; first|(refine ca (hG (os.getD 0 nS)) ?_ (hp := has1 (has_elg (g := y8) (ls := [l]) (i := 0) (has_velg (by (repeat (first | apply List.Mem.head | apply List.Mem.tail)); first | done | fail)) (by simp)) has0); rintro _ _ ⟨dv, rfl, hdv, rfl⟩)|(refine ca (hSP dv hdv) ?_; rintro _ _ ⟨rfl, rfl⟩))|refine bx fun p => ?_|(refine ln (xs := os) ?_; rw [hos])|refine al fun z => ?_|refine srz ?_|refine lda ?_|(refine wo ?_; first|(refine ao ?_; first|refine oa ?_)|refine oa ?_|refine ld ?_|refine lv ?_|refine ix ?_|refine sr ?_|refine gy ?_)|(refine gc ?_; first|refine cf ?_|(refine ci (fun hB => ?_) (fun hB => ?_) <;> try (exfalso; omega)))|refine sq ?_|refine rg ?_|refine xc ?_|refine nl ?_|refine sk ?_|refine rt ?_
  all_goals first | (exfalso; omega) | exact r1 ⟨rfl, rfl⟩
abbrev m3 : MfS := ⟨3, 1, 2, 0, [0, 1]⟩
theorem three_tr : Tr Tryz.prog 53 [] [] [] fun v D => ∃ tv, v = .agg #[I 3, I 1, I 2, I 0, tv] ∧ tv.oneCell' = true ∧ D = [own 3 tv (Is [0, 1])] := by
  refine Tr.enter env _ Tryz.func53 (by kernel_rfl) rfl Tryz.ntmps53 rfl (by repeat (first | exact has00 | refine has01 ?_)) fun w0 => ?_
  repeat' first|refine al fun p => ?_|(refine sli (vs := [I 0, I 1]) (fun tv => ?_) (h1 := one_cons rfl (one_cons rfl one_nil)); refine TO.one (v := tv) (xs := [I 0, I 1]) fun h1 => ?_)|(refine bdz ?_)|refine srz ?_|refine sq ?_|refine rg ?_|refine xc ?_|refine nl ?_|refine rt ?_
  exact rca1 (vs := [I 3, I 1, I 2, I 0, tv]) ⟨tv, rfl, h1, rfl⟩
theorem m3_ok : m3.ok := by unfold MfS.ok; exact ⟨by decide, by decide, by decide, by decide, by decide⟩
theorem made_tr (bud tmo : Int) (hb : 0 ≤ bud ∧ bud ≤ 2147483647) (ht : 1 ≤ tmo ∧ tmo ≤ 2147483647) : Tr Tryz.prog 24 [I bud, I tmo] [] []
    fun v D => ∃ p h, v = ptr p ∧ (SP.new m3 [5, 6, 7] 9 bud tmo).ok h ∧ D = sndP p h (SP.new m3 [5, 6, 7] 9 bud tmo) := by
  have e : newSE m3 [5, 6, 7] 9 bud tmo = 0 := by rw [newSE, if_pos ⟨m3_ok, rfl⟩, if_pos ⟨by decide, hb, ht⟩]
  have hN : ∀ tv dv, tv.oneCell' = true → Tr Tryz.prog 11 [.agg #[I 3, I 1, I 2, I 0, tv], dv, I 9, I bud, I tmo] [vw tv (Is [0, 1]), vw dv (By [5, 6, 7])] []
      fun v D => ∃ p h, v = tup2 (ptr p) (I 0) ∧ (SP.new m3 [5, 6, 7] 9 bud tmo).ok h ∧ D = sndP p h (SP.new m3 [5, 6, 7] 9 bud tmo) := by
    intro tv dv hv
    refine (SNew_tr m3 tv dv [5, 6, 7] 9 bud tmo hv (by decide) (by decide)).mono ?_
    rintro v D (⟨_, p, h, rfl, hok, rfl⟩ | ⟨hne, _, _⟩)
    · exact ⟨p, h, rfl, hok, rfl⟩
    · exact absurd e hne
  generalize SP.new m3 [5, 6, 7] 9 bud tmo = s0 at *
  refine Tr.enter env _ Tryz.func24 (by kernel_rfl) rfl Tryz.ntmps24 rfl (by repeat (first | exact has00 | refine has01 ?_)) fun w0 => ?_
  repeat' first|(refine gca ?_; first|(refine ca three_tr ?_; rintro _ _ ⟨tv, rfl, htv, rfl⟩)|(refine ca (hN tv dv htv) ?_; rintro _ _ ⟨p, h, rfl, hok, rfl⟩))|(refine sli (vs := By [5, 6, 7]) (fun dv => ?_) (h1 := By_one _))|(refine wo ?_; first|(refine ao ?_; first|refine oa ?_)|refine oa ?_)|(refine gc ?_; first|refine cf ?_)|refine sq ?_|refine rg ?_|refine xc ?_|refine nl ?_|refine sk ?_|refine rt ?_
  exact r1 ⟨p, h, rfl, hok, rfl⟩
theorem open9_tr : Tr Tryz.prog 23 [] [] [] fun v D => ∃ o, v = .agg #[I 5, I 0, I 0, I 0, I 0, o] ∧ o.oneCell' = true ∧ D = [own TyB o (By m3.bytes)] := by
  have hP : ∀ tv, tv.oneCell' = true → Tr Tryz.prog 29 [.agg #[I 3, I 1, I 2, I 0, tv]] [vw tv (Is [0, 1])] [] fun v D => ∃ o, v = tup2 o (I 0) ∧ o.oneCell' = true ∧ D = [own TyB o (By m3.bytes)] := by
    intro tv hv
    have := MPut_tr m3 tv hv (by decide)
    rw [if_pos m3_ok, show mfE m3 = 0 from if_pos m3_ok] at this
    exact this
  generalize m3.bytes = mb at *
  refine Tr.enter env _ Tryz.func23 (by kernel_rfl) rfl Tryz.ntmps23 rfl (by repeat (first | exact has00 | refine has01 ?_)) fun w0 => ?_
  repeat' first|(refine gca ?_; first|(refine ca three_tr ?_; rintro _ _ ⟨tv, rfl, htv, rfl⟩)|(refine ca (hP tv htv) ?_; rintro _ _ ⟨o, rfl, ho, rfl⟩))|refine al fun p => ?_|refine bdz ?_|refine srz ?_|(refine wo ?_; first|refine oa ?_)|refine sq ?_|refine rg ?_|refine xc ?_|refine nl ?_|refine rt ?_
  exact rca1 (vs := [I 5, I 0, I 0, I 0, I 0, o]) ⟨o, rfl, ho, rfl⟩
end Go.Art.Sn
namespace Go.Art.Sn
open Go Go.Proofs Go.RowKit Go.Art
theorem tick_ok {s : SP} {h : SH} (hk : s.ok h) : s.tick.1.ok h := by
  have hsl := hk.sil
  have htm := hk.tmo
  have hbd := hk.bud
  unfold SP.tick
  by_cases ha : s.alive
  rotate_left
  · rw [if_neg ha]; exact hk
  rw [if_pos ha]
  have hal := hk.alv ha
  by_cases hti : s.tmo ≤ s.sil + 1
  · rw [if_pos hti]
    exact { hk with
      sil := by dsimp only; omega
      alv := fun h => by unfold SP.alive at h; dsimp only at h; split at h <;> omega }
  rw [if_neg hti]
  have hopen : ({ s with sil := s.sil + 1 } : SP).ok h := { hk with
    sil := by dsimp only; omega
    alv := fun _ => by dsimp only; omega }
  cases hto : turnO s.ack s.last with
  | none => exact hopen
  | some a =>
    dsimp only
    obtain ⟨hal2, _⟩ := turnO_lt hto
    have hn3 := hk.n3
    by_cases h1 : s.st = 1
    · rw [if_pos h1]; exact hopen
    rw [if_neg h1]
    by_cases h2 : 0 < s.bud
    · rw [if_pos h2]
      exact { hk with
        n1 := by dsimp only; rw [List.length_set]; exact hk.n1
        bud := by dsimp only; omega
        sil := by dsimp only; omega
        last := by dsimp only; omega
        alv := fun _ => by dsimp only; omega
        sent := fun j => by
          have h0 := hk.sent j
          have ha0 := hk.sent a
          dsimp only
          rw [List.getD_eq_getElem?_getD, List.getElem?_set]
          by_cases e : a = j
          · subst e
            rw [if_pos rfl]
            split
            · simp only [Option.getD_some]; omega
            · simp only [Option.getD_none]; omega
          · rw [if_neg e, ← List.getD_eq_getElem?_getD]; omega }
    · rw [if_neg h2]; exact hopen
theorem take_ok {s : SP} {h : SH} (hk : s.ok h) (l : List Int) : (s.take l).1.1.ok h := by
  have hsl := hk.sil
  have htm := hk.tmo
  have h0 : ∀ x, ({ s with st := x, sil := 0 } : SP).ok h := fun x => { hk with
    sil := by dsimp only; omega
    alv := fun _ => by dsimp only; omega }
  unfold SP.take
  split
  · split
    · exact hk
    · split
      · split
        · exact hk
        · split
          · split
            · split
              · exact hk
              · split
                · exact { h0 2 with
                    n1 := by dsimp only; rw [List.length_set]; exact hk.n1
                    n2 := by dsimp only; rw [List.length_set]; exact hk.n2
                    n3 := by dsimp only; rw [List.length_set]; exact hk.n3 }
                · exact h0 2
            · split
              · exact h0 3
              · exact h0 6
          · split
            · exact hk
            · exact hk
      · exact hk
  · exact hk
attribute [local irreducible] Fit pt own ro vw mpc lpt vels rels mow lrc dfr
attribute [local irreducible] lmp lme mit velg relg
theorem told0_tr (v : Value) (sn0 bn pn rn : Int) (wv : Value) : Tr Tryz.prog 52 [v, I 0, .agg #[I 0, I sn0, I bn, I pn, I rn, wv]] [vw v []] [] fun v D => v = .bool true ∧ D = [] := by
  refine Tr.enter env _ Tryz.func52 (by kernel_rfl) rfl Tryz.ntmps52 rfl (by repeat (first | exact has00 | refine has01 ?_)) fun w0 => ?_
  repeat' first|refine bx fun p => ?_|refine ln (xs := []) ?_|(refine wo ?_; first|(refine ao ?_; first|refine oa ?_)|refine oa ?_|refine ld ?_)|(refine gc ?_; first|refine ct ?_|refine cf ?_)|refine sq ?_|refine rg ?_|refine xc ?_|refine nl ?_|refine sk ?_|refine rt ?_
  all_goals first | (exfalso; omega) | exact r1 ⟨rfl, rfl⟩
theorem ticks9_tr1 (p : Nat) (h : SH) (s s' : SP) (hk : s.ok h) (l : List Int) (kd bn pn rn sn0 : Int) (wv : Value) (wl : List Int) (ht : s.tick = (s', [l])) (hg : pgetR l = (⟨kd, 9, bn, pn, rn, wl⟩, 0)) (hw : wv.oneCell' = true) (hl : l.length ≤ 1099511627776) (hin : inB l) (hwl : inB wl) (hkd : kd ≠ 0) :
    Tr Tryz.prog 21 [ptr p, .agg #[I kd, I sn0, I bn, I pn, I rn, wv]] [vw wv (By wl)] (sndP p h s) fun v D => v = .bool true ∧ D = sndP p h s' := by
  have hT := Tick_tr p h s hk
  rw [ht] at hT
  dsimp only at hT
  refine Tr.enter env _ Tryz.func21 (by kernel_rfl) rfl Tryz.ntmps21 rfl (by repeat (first | exact has00 | refine has01 ?_)) fun w0 => ?_
  repeat' first|(refine gca ?_; first|(refine ca hT ?_; rintro _ _ ⟨o, os, rfl, ho, hos, rfl⟩)|(refine ca (told1_tr o os l kd bn pn rn sn0 wv wl hos hg hw hl hin hwl hkd) ?_; rintro _ _ ⟨rfl, rfl⟩))|refine bx fun b => ?_|refine lda ?_|(refine wo ?_; first|refine oa ?_)|refine sq ?_|refine rg ?_|refine xc ?_|refine nl ?_|refine rt ?_
  exact r1 ⟨rfl, rfl⟩
theorem ticks9_tr0 (p : Nat) (h : SH) (s s' : SP) (hk : s.ok h) (bn pn rn sn0 : Int) (wv : Value) (ht : s.tick = (s', [])) :
    Tr Tryz.prog 21 [ptr p, .agg #[I 0, I sn0, I bn, I pn, I rn, wv]] [] (sndP p h s) fun v D => v = .bool true ∧ D = sndP p h s' := by
  have hT := Tick_tr p h s hk
  rw [ht] at hT
  dsimp only at hT
  refine Tr.enter env _ Tryz.func21 (by kernel_rfl) rfl Tryz.ntmps21 rfl (by repeat (first | exact has00 | refine has01 ?_)) fun w0 => ?_
  repeat' first|(refine gca ?_; first|(refine ca hT ?_; rintro _ _ ⟨o, os, rfl, ho, hos, rfl⟩; (have hos2 := List.eq_nil_of_length_eq_zero hos); subst hos2)|(refine ca (told0_tr o sn0 bn pn rn wv) ?_; rintro _ _ ⟨rfl, rfl⟩))|refine bx fun b => ?_|refine lda ?_|(refine wo ?_; first|refine oa ?_)|refine sq ?_|refine rg ?_|refine xc ?_|refine nl ?_|refine rt ?_
  exact r1 ⟨rfl, rfl⟩
end Go.Art.Sn
namespace Go.Art.Sn
open Go Go.Proofs Go.RowKit Go.Art
attribute [local irreducible] Fit pt own ro vw mpc lpt vels rels mow lrc dfr
attribute [local irreducible] lmp lme mit velg relg
theorem takes9_tr1 (p : Nat) (h : SH) (s s' : SP) (hk : s.ok h) (k0 s0 b0 p0 r0 : Int) (pv : Value) (pl B : List Int) (l : List Int) (kd bn pn rn sn0 : Int) (wv : Value) (wl : List Int) (hB : (putR k0 9 b0 p0 r0 pl).1 = B) (hBl : B.length ≤ 1099511627776) (hBi : inB B) (hp : pv.oneCell' = true)
    (ht : s.take B = ((s', [l]), 0)) (hg : pgetR l = (⟨kd, 9, bn, pn, rn, wl⟩, 0)) (hw : wv.oneCell' = true) (hl : l.length ≤ 1099511627776) (hin : inB l) (hwl : inB wl) (hkd : kd ≠ 0) :
    Tr Tryz.prog 22 [ptr p, .agg #[I k0, I s0, I b0, I p0, I r0, pv], .agg #[I kd, I sn0, I bn, I pn, I rn, wv]] [vw pv (By pl), vw wv (By wl)] (sndP p h s) fun v D => v = .bool true ∧ D = sndP p h s' := by
  have hP := PPut_tr k0 9 b0 p0 r0 pv pl hp
  rw [hB] at hP
  have hT := fun b hb => Take_tr p h s hk b B hBl hBi hb
  rw [ht] at hT
  dsimp only at hT
  refine Tr.enter env _ Tryz.func22 (by kernel_rfl) rfl Tryz.ntmps22 rfl (by repeat (first | exact has00 | refine has01 ?_)) fun w0 => ?_
  repeat' first|(refine gca ?_; first|(refine ca hP ?_; rintro _ _ ⟨o1, rfl, ho1, rfl⟩)|(refine ca (hT o1 ho1) ?_; rintro _ _ ⟨o, os, rfl, ho, hos, rfl⟩)|(refine ca (told1_tr o os l kd bn pn rn sn0 wv wl hos hg hw hl hin hwl hkd) ?_; rintro _ _ ⟨rfl, rfl⟩))|refine bx fun b => ?_|refine lda ?_|(refine wo ?_; first|refine oa ?_|refine sr ?_)|refine sq ?_|refine rg ?_|refine xc ?_|refine nl ?_|refine rt ?_
  exact r1 ⟨rfl, rfl⟩
theorem takes9_tr0 (p : Nat) (h : SH) (s s' : SP) (hk : s.ok h) (k0 s0 b0 p0 r0 : Int) (pv : Value) (pl B : List Int) (bn pn rn sn0 : Int) (wv : Value) (hB : (putR k0 9 b0 p0 r0 pl).1 = B) (hBl : B.length ≤ 1099511627776) (hBi : inB B) (hp : pv.oneCell' = true)
    (ht : s.take B = ((s', []), 0)) :
    Tr Tryz.prog 22 [ptr p, .agg #[I k0, I s0, I b0, I p0, I r0, pv], .agg #[I 0, I sn0, I bn, I pn, I rn, wv]] [vw pv (By pl)] (sndP p h s) fun v D => v = .bool true ∧ D = sndP p h s' := by
  have hP := PPut_tr k0 9 b0 p0 r0 pv pl hp
  rw [hB] at hP
  have hT := fun b hb => Take_tr p h s hk b B hBl hBi hb
  rw [ht] at hT
  dsimp only at hT
  refine Tr.enter env _ Tryz.func22 (by kernel_rfl) rfl Tryz.ntmps22 rfl (by repeat (first | exact has00 | refine has01 ?_)) fun w0 => ?_
  repeat' first|(refine gca ?_; first|(refine ca hP ?_; rintro _ _ ⟨o1, rfl, ho1, rfl⟩)|(refine ca (hT o1 ho1) ?_; rintro _ _ ⟨o, os, rfl, ho, hos, rfl⟩; (have hos2 := List.eq_nil_of_length_eq_zero hos); subst hos2)|(refine ca (told0_tr o sn0 bn pn rn wv) ?_; rintro _ _ ⟨rfl, rfl⟩))|refine bx fun b => ?_|refine lda ?_|(refine wo ?_; first|refine oa ?_|refine sr ?_)|refine sq ?_|refine rg ?_|refine xc ?_|refine nl ?_|refine rt ?_
  exact r1 ⟨rfl, rfl⟩
/-! ### The chapter's states -/
def mS (st sil bud last : Int) (sent : List Int) (ack : List Bool) (tmo : Int) : SP := ⟨9, bud, tmo, last, sil, st, m3, [5, 6, 7], sent, ack, m3.bytes⟩
theorem new9 (bud tmo : Int) : SP.new m3 [5, 6, 7] 9 bud tmo = mS 1 0 bud (-1) [0, 0] [false, false] tmo := by
  have : m3.blocks = 2 := by kernel_rfl
  unfold SP.new; rw [this]; rfl
theorem g_open : pgetR (putR 5 9 0 0 0 m3.bytes).1 = (⟨5, 9, 0, 0, 0, m3.bytes⟩, 0) := by kernel_rfl
theorem t1 : (mS 1 0 3 (-1) [0, 0] [false, false] 5).tick = (mS 1 1 3 (-1) [0, 0] [false, false] 5, [(putR 5 9 0 0 0 m3.bytes).1]) := by kernel_rfl
theorem a2 : (mS 1 1 3 (-1) [0, 0] [false, false] 5).take (putR 2 9 2 0 0 []).1 = ((mS 2 0 3 (-1) [0, 0] [false, false] 5, []), 0) := by kernel_rfl
theorem rise_full {is : List Int} {k : Int} (h : Rise is k) : ∀ i : Nat, i < is.length → (i : Int) ≤ is.getD i 0
  | 0, hi => by have := (h.lt _ (mem_getD.2 ⟨0, hi, rfl⟩)).1; omega
  | i + 1, hi => by
    have h1 := rise_full h i (by omega)
    have h2 := h.up (i + 1) hi
    unfold lastOf at h2
    rw [if_neg (by omega), Nat.add_sub_cancel] at h2
    omega
theorem rise_two {is : List Int} (h : Rise is 2) (hl : is.length = 2) : is = [0, 1] := by
  have h0 := rise_full h 0 (by omega)
  have h1 := rise_full h 1 (by omega)
  have h2 := h.up 1 (by omega)
  have h3 := h.lt _ (mem_getD.2 ⟨1, by omega, rfl⟩)
  unfold lastOf at h2
  rw [if_neg (by omega)] at h2
  match is, hl with
  | [a, b], _ =>
    simp at h0 h1 h2 h3
    have e1 : a = 0 := by omega
    have e2 : b = 1 := by omega
    rw [e1, e2]
theorem set01 (seed blk id : Int) : setT [0, 1] 2 seed blk id = [0, 1] := by
  obtain ⟨_, h2, h3, h4⟩ := setR_ok (t := [0, 1]) (k := 2) (by decide) (seedOf (c64 seed) (c64 blk) (c64 id))
  change Rise (setT [0, 1] 2 seed blk id) 2 at h2
  change 1 ≤ (setT [0, 1] 2 seed blk id).length ∧ (setT [0, 1] 2 seed blk id).length ≤ 2 at h3
  change 0 < List.getD [0, 1] ((setT [0, 1] 2 seed blk id).length - 1) 0 at h4
  refine rise_two h2 ?_
  have : (setT [0, 1] 2 seed blk id).length ≠ 1 := fun e => by rw [e] at h4; exact absurd h4 (by decide)
  omega
theorem tick_data {s : SP} {a : Nat} (ha : s.alive) (hti : ¬ s.tmo ≤ s.sil + 1) (hto : turnO s.ack s.last = some a) (h1 : ¬ s.st = 1) (h2 : 0 < s.bud) :
    s.tick = ({ s with sil := s.sil + 1, bud := s.bud - 1, last := a, sent := s.sent.set a (s.sent.getD a 0 + 1) }, [(putR 1 s.ses a (s.sent.getD a 0) 0 (pktW s.m.t (s.m.syms s.d a) s.m.seed a (s.sent.getD a 0)).1).1]) := by
  rw [SP.tick, if_pos ha, if_neg hti, hto]; dsimp only; rw [if_neg h1, if_pos h2]
theorem pk3 (ls : List (List Int)) (seed blk id : Int) (hid : 0 ≤ id ∧ id ≤ 4294967295) (hl : ls.length = 2) : pktW [0, 1] ls seed blk id = (sumL ls [0, 1], 0) := by
  rw [pktW, if_pos (show numOk id from hid), hl]
  rw [show setT [0, 1] ((2 : Nat) : Int) seed blk id = [0, 1] from set01 seed blk id]
theorem t2 : (mS 2 0 3 (-1) [0, 0] [false, false] 5).tick = (mS 2 1 2 0 [1, 0] [false, false] 5, [(putR 1 9 0 0 0 [3]).1]) := by
  rw [tick_data (a := 0) (by decide) (by decide) (by kernel_rfl) (by decide) (by decide)]
  rw [show (mS 2 0 3 (-1) [0, 0] [false, false] 5).m.t = [0, 1] from rfl, pk3 _ _ _ _ (by decide) (by kernel_rfl)]
  kernel_rfl
theorem g_data : pgetR (putR 1 9 0 0 0 [3]).1 = (⟨1, 9, 0, 0, 0, [3]⟩, 0) := by kernel_rfl
end Go.Art.Sn
namespace Go.Art.Sn
open Go Go.Proofs Go.RowKit Go.Art
theorem inB_of {l : List Int} (h : l.all (fun x => decide (0 ≤ x ∧ x ≤ 255)) = true) : inB l := fun x hx => of_decide_eq_true (List.all_eq_true.1 h x hx)
theorem len_of {l : List Int} (h : Nat.ble l.length 1099511627776 = true) : l.length ≤ 1099511627776 := Nat.le_of_ble_eq_true h
attribute [local irreducible] Fit pt own ro vw mpc lpt vels rels mow lrc dfr
attribute [local irreducible] lmp lme mit velg relg
theorem State_is (p : Nat) (h : SH) (s : SP) (x : Int) (hx : s.st = x) : Tr Tryz.prog 17 [ptr p] [lpt p [I s.ses, I s.bud, I s.tmo, h.opn, h.pts, h.ack, I s.last, I s.sil, I s.st, chv h.c] TSn] [] fun v D => v = I x ∧ D = [] := by
  subst hx; exact State_tr p s.ses s.bud s.tmo s.last s.sil s.st h.opn h.pts h.ack h.c
theorem Left_is (p : Nat) (h : SH) (s : SP) (x : Int) (hx : s.bud = x) : Tr Tryz.prog 19 [ptr p] [lpt p [I s.ses, I s.bud, I s.tmo, h.opn, h.pts, h.ack, I s.last, I s.sil, I s.st, chv h.c] TSn] [] fun v D => v = I x ∧ D = [] := by
  subst hx; exact Left_tr p s.ses s.bud s.tmo s.last s.sil s.st h.opn h.pts h.ack h.c
theorem begun_tr : Tr Tryz.prog 20 [] [] [] fun v D => ∃ p h, v = ptr p ∧ (mS 2 0 3 (-1) [0, 0] [false, false] 5).ok h ∧ D = sndP p h (mS 2 0 3 (-1) [0, 0] [false, false] 5) := by
  have M := made_tr 3 5 (by decide) (by decide)
  rw [new9] at M
  have T1 := t1
  have A2 := a2
  have hs2 : (mS 2 0 3 (-1) [0, 0] [false, false] 5).st = 2 := rfl
  have gO := g_open
  have hOl : (putR 5 9 0 0 0 m3.bytes).1.length ≤ 1099511627776 := len_of (by kernel_rfl)
  have hOi : inB (putR 5 9 0 0 0 m3.bytes).1 := inB_of (by kernel_rfl)
  have hBl : (putR 2 9 2 0 0 []).1.length ≤ 1099511627776 := len_of (by kernel_rfl)
  have hBi : inB (putR 2 9 2 0 0 []).1 := inB_of (by kernel_rfl)
  have hMi : inB m3.bytes := inB_of (by kernel_rfl)
  have O9 := open9_tr
  generalize mS 1 0 3 (-1) [0, 0] [false, false] 5 = S0 at *
  generalize mS 1 1 3 (-1) [0, 0] [false, false] 5 = S1 at *
  generalize mS 2 0 3 (-1) [0, 0] [false, false] 5 = S2 at *
  generalize (putR 5 9 0 0 0 m3.bytes).1 = OB at *
  generalize hBB : (putR 2 9 2 0 0 []).1 = BB at *
  generalize m3.bytes = MB at *
  have ok1 : ∀ h, S0.ok h → S1.ok h := fun h hk => by have := tick_ok hk; rw [T1] at this; exact this
  have ok2 : ∀ h, S1.ok h → S2.ok h := fun h hk => by have := take_ok hk BB; rw [A2] at this; exact this
  refine Tr.enter env _ Tryz.func20 (by kernel_rfl) rfl Tryz.ntmps20 rfl (by repeat (first | exact has00 | refine has01 ?_)) fun w0 => ?_
  repeat' first|(refine gca ?_; first|(refine ca M ?_; rintro _ _ ⟨p, h, rfl, hok, rfl⟩)|(refine ca O9 ?_; rintro _ _ ⟨o, rfl, ho, rfl⟩)|(refine ca (ticks9_tr1 p h S0 S1 hok OB 5 0 0 0 0 o MB T1 gO ho hOl hOi hMi (by decide)) ?_; rintro _ _ ⟨rfl, rfl⟩)|(refine ca (takes9_tr0 p h S1 S2 (ok1 h hok) 2 0 2 0 0 nS [] BB 0 0 0 0 nS hBB hBl hBi rfl A2) ?_; rintro _ _ ⟨rfl, rfl⟩)|(refine ca (State_is p h S2 2 hs2) ?_; rintro _ _ ⟨rfl, rfl⟩))|refine bdz ?_|(refine wo ?_; first|(refine ao ?_; first|refine oa ?_|refine ipe ?_)|refine oa ?_|refine gy ?_)|(refine gc ?_; first|refine cf ?_)|refine sq ?_|refine rg ?_|refine xc ?_|refine nl ?_|refine sk ?_|refine rt ?_
  exact r1 ⟨p, h, rfl, ok2 h (ok1 h hok), rfl⟩
theorem awake_tr : Tr Tryz.prog 8 [] [] [] fun v D => v = .bool true ∧ D = [] := by
  have M := begun_tr
  have T2 := t2
  have hb2 : (mS 2 1 2 0 [1, 0] [false, false] 5).bud = 2 := rfl
  have gD := g_data
  have hOl : (putR 1 9 0 0 0 [3]).1.length ≤ 1099511627776 := len_of (by kernel_rfl)
  have hOi : inB (putR 1 9 0 0 0 [3]).1 := inB_of (by kernel_rfl)
  generalize mS 2 0 3 (-1) [0, 0] [false, false] 5 = S2 at *
  generalize mS 2 1 2 0 [1, 0] [false, false] 5 = S3 at *
  generalize (putR 1 9 0 0 0 [3]).1 = OB at *
  refine Tr.enter env _ Tryz.func8 (by kernel_rfl) rfl Tryz.ntmps8 rfl (by repeat (first | exact has00 | refine has01 ?_)) fun w0 => ?_
  repeat' first|(refine gca ?_; first|(refine ca M ?_; rintro _ _ ⟨p, h, rfl, hok, rfl⟩)|(refine ca (ticks9_tr1 p h S2 S3 hok OB 1 0 0 0 0 o [3] T2 gD ho hOl hOi (inB_of rfl) (by decide)) ?_; rintro _ _ ⟨rfl, rfl⟩)|(refine ca (Left_is p h S3 2 hb2) ?_; rintro _ _ ⟨rfl, rfl⟩))|(refine sli (vs := By [3]) (fun o => ?_) (h1 := By_one _); refine TO.one (v := o) (xs := By [3]) fun ho => ?_)|refine bdz ?_|(refine wo ?_; first|(refine ao ?_; first|refine oa ?_|refine ipn ?_)|refine oa ?_|refine gy ?_)|refine sq ?_|refine rg ?_|refine xc ?_|refine nl ?_|refine rt ?_
  exact r1 ⟨rfl, rfl⟩
end Go.Art.Sn
namespace Go.Art.Sn
open Go Go.Proofs Go.RowKit Go.Art
theorem k3 : (mS 2 0 3 (-1) [0, 0] [false, false] 5).tick = ((mS 2 1 2 0 [1, 0] [false, false] 5), [(putR 1 9 0 0 0 [3]).1]) := by
  rw [tick_data (a := 0) (by decide) (by decide) (by kernel_rfl) (by decide) (by decide)]
  rw [show (mS 2 0 3 (-1) [0, 0] [false, false] 5).m.t = [0, 1] from rfl, pk3 _ _ _ _ (by decide) (by kernel_rfl)]
  kernel_rfl
theorem k4 : (mS 2 1 2 0 [1, 0] [false, false] 5).tick = ((mS 2 2 1 1 [1, 1] [false, false] 5), [(putR 1 9 1 0 0 [7]).1]) := by
  rw [tick_data (a := 1) (by decide) (by decide) (by kernel_rfl) (by decide) (by decide)]
  rw [show (mS 2 1 2 0 [1, 0] [false, false] 5).m.t = [0, 1] from rfl, pk3 _ _ _ _ (by decide) (by kernel_rfl)]
  kernel_rfl
theorem k5 : (mS 2 2 1 1 [1, 1] [false, false] 5).take (putR 2 9 0 0 0 []).1 = (((mS 2 0 1 1 [1, 1] [true, false] 5), []), 0) := by kernel_rfl
theorem k6 : (mS 2 0 1 1 [1, 1] [true, false] 5).tick = ((mS 2 1 0 1 [1, 2] [true, false] 5), [(putR 1 9 1 1 0 [7]).1]) := by
  rw [tick_data (a := 1) (by decide) (by decide) (by kernel_rfl) (by decide) (by decide)]
  rw [show (mS 2 0 1 1 [1, 1] [true, false] 5).m.t = [0, 1] from rfl, pk3 _ _ _ _ (by decide) (by kernel_rfl)]
  kernel_rfl
theorem k7 : (mS 2 1 0 1 [1, 2] [true, false] 5).tick = ((mS 2 2 0 1 [1, 2] [true, false] 5), []) := by kernel_rfl
theorem k8 : (mS 2 2 0 1 [1, 2] [true, false] 5).take (putR 2 9 1 0 0 []).1 = (((mS 2 0 0 1 [1, 2] [true, true] 5), []), 0) := by kernel_rfl
theorem k9 : (mS 2 0 0 1 [1, 2] [true, true] 5).tick = ((mS 2 1 0 1 [1, 2] [true, true] 5), [(putR 5 9 0 0 0 m3.bytes).1]) := by kernel_rfl
theorem k10 : (mS 2 1 0 1 [1, 2] [true, true] 5).take (putR 3 9 0 0 0 []).1 = (((mS 3 0 0 1 [1, 2] [true, true] 5), []), 0) := by kernel_rfl
theorem k11 : (mS 3 0 0 1 [1, 2] [true, true] 5).tick = ((mS 3 0 0 1 [1, 2] [true, true] 5), []) := by kernel_rfl
theorem y1 : (mS 1 0 3 (-1) [0, 0] [false, false] 2).tick = ((mS 1 1 3 (-1) [0, 0] [false, false] 2), [(putR 5 9 0 0 0 m3.bytes).1]) := by kernel_rfl
theorem y2 : (mS 1 1 3 (-1) [0, 0] [false, false] 2).tick = ((mS 5 2 3 (-1) [0, 0] [false, false] 2), [(putR 4 9 0 0 2 []).1]) := by kernel_rfl
theorem y3 : (mS 5 2 3 (-1) [0, 0] [false, false] 2).take (putR 3 9 0 0 0 []).1 = (((mS 5 2 3 (-1) [0, 0] [false, false] 2), [(putR 4 9 0 0 2 []).1]), 0) := by kernel_rfl
theorem y4 : (mS 5 2 3 (-1) [0, 0] [false, false] 2).take (putR 2 9 3 0 0 []).1 = (((mS 5 2 3 (-1) [0, 0] [false, false] 2), [(putR 4 9 0 0 2 []).1]), 0) := by kernel_rfl
theorem gD0 : pgetR (putR 1 9 0 0 0 [3]).1 = (⟨1, 9, 0, 0, 0, [3]⟩, 0) := by kernel_rfl
theorem gD1 : pgetR (putR 1 9 1 0 0 [7]).1 = (⟨1, 9, 1, 0, 0, [7]⟩, 0) := by kernel_rfl
theorem gD2 : pgetR (putR 1 9 1 1 0 [7]).1 = (⟨1, 9, 1, 1, 0, [7]⟩, 0) := by kernel_rfl
theorem gOP : pgetR (putR 5 9 0 0 0 m3.bytes).1 = (⟨5, 9, 0, 0, 0, m3.bytes⟩, 0) := by kernel_rfl
theorem gAB : pgetR (putR 4 9 0 0 2 []).1 = (⟨4, 9, 0, 0, 2, []⟩, 0) := by kernel_rfl
attribute [local irreducible] Fit pt own ro vw mpc lpt vels rels mow lrc dfr
attribute [local irreducible] lmp lme mit velg relg
theorem Acked_is (p : Nat) (h : SH) (s : SP) (x : Nat) (hx : ackN s.ack s.ack.length = x) (hl : s.ack.length ≤ 1099511627776) : Tr Tryz.prog 18 [ptr p] [lpt p [I s.ses, I s.bud, I s.tmo, h.opn, h.pts, h.ack, I s.last, I s.sil, I s.st, chv h.c] TSn, vw h.ack (Bo s.ack)] [] fun v D => v = I x ∧ D = [] := by
  subst hx; exact Acked_tr p s.ses s.bud s.tmo s.last s.sil s.st h.opn h.pts h.ack h.c s.ack hl
set_option maxHeartbeats 8000000 in
theorem SenderKnown_tr : Tr Tryz.prog 5 [] [] [] fun v D => v = .bool true ∧ D = [] := by
  have K3 := k3
  have K4 := k4
  have K5 := k5
  have K6 := k6
  have K7 := k7
  have K8 := k8
  have K9 := k9
  have K10 := k10
  have K11 := k11
  have Y1 := y1
  have Y2 := y2
  have Y3 := y3
  have Y4 := y4
  have GD0 := gD0
  have GD1 := gD1
  have GD2 := gD2
  have GOP := gOP
  have GAB := gAB
  have lD0 : (putR 1 9 0 0 0 [3]).1.length ≤ 1099511627776 := len_of (by kernel_rfl)
  have iD0 : inB (putR 1 9 0 0 0 [3]).1 := inB_of (by kernel_rfl)
  have lD1 : (putR 1 9 1 0 0 [7]).1.length ≤ 1099511627776 := len_of (by kernel_rfl)
  have iD1 : inB (putR 1 9 1 0 0 [7]).1 := inB_of (by kernel_rfl)
  have lD2 : (putR 1 9 1 1 0 [7]).1.length ≤ 1099511627776 := len_of (by kernel_rfl)
  have iD2 : inB (putR 1 9 1 1 0 [7]).1 := inB_of (by kernel_rfl)
  have lOP : (putR 5 9 0 0 0 m3.bytes).1.length ≤ 1099511627776 := len_of (by kernel_rfl)
  have iOP : inB (putR 5 9 0 0 0 m3.bytes).1 := inB_of (by kernel_rfl)
  have lAB : (putR 4 9 0 0 2 []).1.length ≤ 1099511627776 := len_of (by kernel_rfl)
  have iAB : inB (putR 4 9 0 0 2 []).1 := inB_of (by kernel_rfl)
  have lK0 : (putR 2 9 0 0 0 []).1.length ≤ 1099511627776 := len_of (by kernel_rfl)
  have iK0 : inB (putR 2 9 0 0 0 []).1 := inB_of (by kernel_rfl)
  have lK1 : (putR 2 9 1 0 0 []).1.length ≤ 1099511627776 := len_of (by kernel_rfl)
  have iK1 : inB (putR 2 9 1 0 0 []).1 := inB_of (by kernel_rfl)
  have lK3 : (putR 2 9 3 0 0 []).1.length ≤ 1099511627776 := len_of (by kernel_rfl)
  have iK3 : inB (putR 2 9 3 0 0 []).1 := inB_of (by kernel_rfl)
  have lDN : (putR 3 9 0 0 0 []).1.length ≤ 1099511627776 := len_of (by kernel_rfl)
  have iDN : inB (putR 3 9 0 0 0 []).1 := inB_of (by kernel_rfl)
  have hMi : inB m3.bytes := inB_of (by kernel_rfl)
  have M := begun_tr
  have N := made_tr 3 2 (by decide) (by decide)
  rw [new9] at N
  have O9 := open9_tr
  have f6 : (mS 2 1 0 1 [1, 2] [true, false] 5).bud = 0 := rfl
  have f7 : ackN (mS 2 2 0 1 [1, 2] [true, false] 5).ack (mS 2 2 0 1 [1, 2] [true, false] 5).ack.length = 1 := rfl
  have f7l : (mS 2 2 0 1 [1, 2] [true, false] 5).ack.length ≤ 1099511627776 := by decide
  have f10 : (mS 3 0 0 1 [1, 2] [true, true] 5).st = 3 := rfl
  have f22 : (mS 5 2 3 (-1) [0, 0] [false, false] 2).st = 5 := rfl
  generalize mS 2 0 3 (-1) [0, 0] [false, false] 5 = S2 at *
  generalize mS 2 1 2 0 [1, 0] [false, false] 5 = S3 at *
  generalize mS 2 2 1 1 [1, 1] [false, false] 5 = S4 at *
  generalize mS 2 0 1 1 [1, 1] [true, false] 5 = S5 at *
  generalize mS 2 1 0 1 [1, 2] [true, false] 5 = S6 at *
  generalize mS 2 2 0 1 [1, 2] [true, false] 5 = S7 at *
  generalize mS 2 0 0 1 [1, 2] [true, true] 5 = S8 at *
  generalize mS 2 1 0 1 [1, 2] [true, true] 5 = S9 at *
  generalize mS 3 0 0 1 [1, 2] [true, true] 5 = S10 at *
  generalize mS 1 0 3 (-1) [0, 0] [false, false] 2 = S20 at *
  generalize mS 1 1 3 (-1) [0, 0] [false, false] 2 = S21 at *
  generalize mS 5 2 3 (-1) [0, 0] [false, false] 2 = S22 at *
  generalize (putR 1 9 0 0 0 [3]).1 = PD0 at *
  generalize (putR 1 9 1 0 0 [7]).1 = PD1 at *
  generalize (putR 1 9 1 1 0 [7]).1 = PD2 at *
  generalize (putR 5 9 0 0 0 m3.bytes).1 = POP at *
  generalize (putR 4 9 0 0 2 []).1 = PAB at *
  generalize hpK0 : (putR 2 9 0 0 0 []).1 = PK0 at *
  generalize hpK1 : (putR 2 9 1 0 0 []).1 = PK1 at *
  generalize hpK3 : (putR 2 9 3 0 0 []).1 = PK3 at *
  generalize hpDN : (putR 3 9 0 0 0 []).1 = PDN at *
  generalize m3.bytes = MB at *
  have ok3 : ∀ h, S2.ok h → S3.ok h := fun h hk => by have := tick_ok hk; rw [K3] at this; exact this
  have ok4 : ∀ h, S3.ok h → S4.ok h := fun h hk => by have := tick_ok hk; rw [K4] at this; exact this
  have ok5 : ∀ h, S4.ok h → S5.ok h := fun h hk => by have := take_ok hk PK0; rw [K5] at this; exact this
  have ok6 : ∀ h, S5.ok h → S6.ok h := fun h hk => by have := tick_ok hk; rw [K6] at this; exact this
  have ok7 : ∀ h, S6.ok h → S7.ok h := fun h hk => by have := tick_ok hk; rw [K7] at this; exact this
  have ok8 : ∀ h, S7.ok h → S8.ok h := fun h hk => by have := take_ok hk PK1; rw [K8] at this; exact this
  have ok9 : ∀ h, S8.ok h → S9.ok h := fun h hk => by have := tick_ok hk; rw [K9] at this; exact this
  have ok10 : ∀ h, S9.ok h → S10.ok h := fun h hk => by have := take_ok hk PDN; rw [K10] at this; exact this
  have ok21 : ∀ h, S20.ok h → S21.ok h := fun h hk => by have := tick_ok hk; rw [Y1] at this; exact this
  have ok22 : ∀ h, S21.ok h → S22.ok h := fun h hk => by have := tick_ok hk; rw [Y2] at this; exact this
  refine Tr.enter env _ Tryz.func5 (by kernel_rfl) rfl Tryz.ntmps5 rfl (by repeat (first | exact has00 | refine has01 ?_)) fun w0 => ?_
  repeat' first|(refine gca ?_; first|(refine ca M ?_; rintro _ _ ⟨p, h, rfl, hok, rfl⟩)|(refine ca N ?_; rintro _ _ ⟨py, hy, rfl, hoy, rfl⟩)|(refine ca awake_tr ?_; rintro _ _ ⟨rfl, rfl⟩)|(refine ca O9 ?_; rintro _ _ ⟨ov, rfl, hov, rfl⟩)|(refine ca (ticks9_tr1 p h S2 S3 hok PD0 1 0 0 0 0 dv1 [3] K3 GD0 hd1 lD0 iD0 (inB_of rfl) (by decide)) ?_; rintro _ _ ⟨rfl, rfl⟩)|(refine ca (ticks9_tr1 p h S2 S3 hok PD0 1 0 0 0 0 dv2 [3] K3 GD0 hd2 lD0 iD0 (inB_of rfl) (by decide)) ?_; rintro _ _ ⟨rfl, rfl⟩)|(refine ca (ticks9_tr1 p h S2 S3 hok PD0 1 0 0 0 0 dv3 [3] K3 GD0 hd3 lD0 iD0 (inB_of rfl) (by decide)) ?_; rintro _ _ ⟨rfl, rfl⟩)|(refine ca (ticks9_tr1 p h S3 S4 (ok3 h hok) PD1 1 1 0 0 0 dv1 [7] K4 GD1 hd1 lD1 iD1 (inB_of rfl) (by decide)) ?_; rintro _ _ ⟨rfl, rfl⟩)|(refine ca (ticks9_tr1 p h S3 S4 (ok3 h hok) PD1 1 1 0 0 0 dv2 [7] K4 GD1 hd2 lD1 iD1 (inB_of rfl) (by decide)) ?_; rintro _ _ ⟨rfl, rfl⟩)|(refine ca (ticks9_tr1 p h S3 S4 (ok3 h hok) PD1 1 1 0 0 0 dv3 [7] K4 GD1 hd3 lD1 iD1 (inB_of rfl) (by decide)) ?_; rintro _ _ ⟨rfl, rfl⟩)|(refine ca (takes9_tr0 p h S4 S5 (ok4 h (ok3 h hok)) 2 0 0 0 0 nS [] PK0 0 0 0 0 nS hpK0 lK0 iK0 rfl K5) ?_; rintro _ _ ⟨rfl, rfl⟩)|(refine ca (ticks9_tr1 p h S5 S6 (ok5 h (ok4 h (ok3 h hok))) PD2 1 1 1 0 0 dv1 [7] K6 GD2 hd1 lD2 iD2 (inB_of rfl) (by decide)) ?_; rintro _ _ ⟨rfl, rfl⟩)|(refine ca (ticks9_tr1 p h S5 S6 (ok5 h (ok4 h (ok3 h hok))) PD2 1 1 1 0 0 dv2 [7] K6 GD2 hd2 lD2 iD2 (inB_of rfl) (by decide)) ?_; rintro _ _ ⟨rfl, rfl⟩)|(refine ca (ticks9_tr1 p h S5 S6 (ok5 h (ok4 h (ok3 h hok))) PD2 1 1 1 0 0 dv3 [7] K6 GD2 hd3 lD2 iD2 (inB_of rfl) (by decide)) ?_; rintro _ _ ⟨rfl, rfl⟩)|(refine ca (ticks9_tr0 p h S6 S7 (ok6 h (ok5 h (ok4 h (ok3 h hok)))) 0 0 0 0 nS K7) ?_; rintro _ _ ⟨rfl, rfl⟩)|(refine ca (takes9_tr0 p h S7 S8 (ok7 h (ok6 h (ok5 h (ok4 h (ok3 h hok))))) 2 0 1 0 0 nS [] PK1 0 0 0 0 nS hpK1 lK1 iK1 rfl K8) ?_; rintro _ _ ⟨rfl, rfl⟩)|(refine ca (ticks9_tr1 p h S8 S9 (ok8 h (ok7 h (ok6 h (ok5 h (ok4 h (ok3 h hok)))))) POP 5 0 0 0 0 ov MB K9 GOP hov lOP iOP hMi (by decide)) ?_; rintro _ _ ⟨rfl, rfl⟩)|(refine ca (takes9_tr0 p h S9 S10 (ok9 h (ok8 h (ok7 h (ok6 h (ok5 h (ok4 h (ok3 h hok))))))) 3 0 0 0 0 nS [] PDN 0 0 0 0 nS hpDN lDN iDN rfl K10) ?_; rintro _ _ ⟨rfl, rfl⟩)|(refine ca (ticks9_tr0 p h S10 S10 (ok10 h (ok9 h (ok8 h (ok7 h (ok6 h (ok5 h (ok4 h (ok3 h hok)))))))) 0 0 0 0 nS K11) ?_; rintro _ _ ⟨rfl, rfl⟩)|(refine ca (ticks9_tr1 py hy S20 S21 hoy POP 5 0 0 0 0 ov MB Y1 GOP hov lOP iOP hMi (by decide)) ?_; rintro _ _ ⟨rfl, rfl⟩)|(refine ca (ticks9_tr1 py hy S21 S22 (ok21 hy hoy) PAB 4 0 0 2 0 nS [] Y2 GAB rfl lAB iAB inB.nil (by decide)) ?_; rintro _ _ ⟨rfl, rfl⟩)|(refine ca (takes9_tr1 py hy S22 S22 (ok22 hy (ok21 hy hoy)) 3 0 0 0 0 nS [] PDN PAB 4 0 0 2 0 nS [] hpDN lDN iDN rfl Y3 GAB rfl lAB iAB inB.nil (by decide)) ?_; rintro _ _ ⟨rfl, rfl⟩)|(refine ca (takes9_tr1 py hy S22 S22 (ok22 hy (ok21 hy hoy)) 2 0 3 0 0 nS [] PK3 PAB 4 0 0 2 0 nS [] hpK3 lK3 iK3 rfl Y4 GAB rfl lAB iAB inB.nil (by decide)) ?_; rintro _ _ ⟨rfl, rfl⟩)|(refine ca (Left_is p h S6 0 f6) ?_; rintro _ _ ⟨rfl, rfl⟩)|(refine ca (Acked_is p h S7 1 f7 f7l) ?_; rintro _ _ ⟨rfl, rfl⟩)|(refine ca (State_is p h S10 3 f10) ?_; rintro _ _ ⟨rfl, rfl⟩)|(refine ca (State_is py hy S22 5 f22) ?_; rintro _ _ ⟨rfl, rfl⟩))|(refine sli (vs := By [3]) (fun dv1 => ?_) (h1 := By_one _); refine TO.one (v := dv1) (xs := By [3]) fun hd1 => ?_)|(refine sli (vs := By [7]) (fun dv2 => ?_) (h1 := By_one _); refine TO.one (v := dv2) (xs := By [7]) fun hd2 => ?_)|refine bdz ?_|refine al fun zz => ?_|refine srz ?_|refine lda ?_|(refine wo ?_; first|(refine ao ?_; first|refine oa ?_|refine ipe ?_)|refine oa ?_|refine gy ?_)|(refine gc ?_; first|refine cf ?_)|refine sq ?_|refine rg ?_|refine xc ?_|refine nl ?_|refine sk ?_|refine rt ?_
  all_goals first | (exact r1 ⟨rfl, rfl⟩)
end Go.Art.Sn
namespace Go.Art.Sn
open Go Go.Proofs Go.RowKit Go.Art
attribute [local irreducible] Fit pt own ro vw mpc lpt vels rels mow lrc dfr
attribute [local irreducible] lmp lme mit velg relg
abbrev zS : List Value := [I 0, I 0, I 0, nS, nS, nS, I 0, I 0, I 0, .chan none]
abbrev NoS (p : Value) (q : Nat) : Prop := Tr Tryz.prog 45 [p] [lpt q zS TSn] [] fun v D => v = .bool true ∧ D = []
theorem noS_nil (q : Nat) : NoS nP q := by
  refine Tr.enter env _ Tryz.func45 (by kernel_rfl) rfl Tryz.ntmps45 rfl (by repeat (first | exact has00 | refine has01 ?_)) fun w0 => ?_
  repeat' first|refine chq ?_|(refine wo ?_; first|(refine ao ?_; first|refine aw ?_|refine aw6 ?_|refine oa ?_|refine adiv ?_|refine amod ?_|refine shr1 ?_|refine shr ?_|refine umod ?_|refine isl ?_|refine ipe ?_|refine ipn ?_|refine ibe ?_)|refine acw ?_|refine ucv ?_|refine anw ?_|refine oa ?_|refine ld ?_|refine ldl ?_|refine lnm ?_|refine ixmn ?_|refine ixm ?_|refine li ?_|refine lb ?_|refine lv ?_|refine ln ?_|refine ixn ?_|refine ix ?_|refine le ?_|refine sr ?_|refine soi ?_|refine sob ?_|refine scm ?_|refine sclm ?_|refine schm ?_|refine gy ?_|refine gn ?_|refine gnn ?_|refine gu ?_|(refine gsi (fun hB => ?_) (fun hB => ?_) <;> try (exfalso; omega))|(refine gsn (fun hB => ?_) (fun hB => ?_) <;> try (exfalso; omega))|(refine gs (fun hB => ?_) (fun hB => ?_) <;> try (exfalso; omega)))|(refine gc ?_; first|refine ct ?_|refine cf ?_|(refine ci (fun hB => ?_) (fun hB => ?_) <;> try (exfalso; omega))|(refine cn (fun hB => ?_) (fun hB => ?_) <;> try (exfalso; omega))|(refine cb (fun hB => ?_) (fun hB => ?_) <;> try (exfalso; omega)))|refine sq ?_|refine rg ?_|refine xc ?_|refine nl ?_|refine sk ?_|refine bk ?_|refine xe ?_|refine rt ?_|refine xb ?_
  exact r1 ⟨rfl, rfl⟩
theorem noS_zero (q : Nat) : NoS (ptr q) q := by
  refine Tr.enter env _ Tryz.func45 (by kernel_rfl) rfl Tryz.ntmps45 rfl (by repeat (first | exact has00 | refine has01 ?_)) fun w0 => ?_
  repeat' first|refine chq ?_|(refine wo ?_; first|(refine ao ?_; first|refine aw ?_|refine aw6 ?_|refine oa ?_|refine adiv ?_|refine amod ?_|refine shr1 ?_|refine shr ?_|refine umod ?_|refine isl ?_|refine ipe ?_|refine ipn ?_|refine ibe ?_)|refine acw ?_|refine ucv ?_|refine anw ?_|refine oa ?_|refine ld ?_|refine ldl ?_|refine lnm ?_|refine ixmn ?_|refine ixm ?_|refine li ?_|refine lb ?_|refine lv ?_|refine ln ?_|refine ixn ?_|refine ix ?_|refine le ?_|refine sr ?_|refine soi ?_|refine sob ?_|refine scm ?_|refine sclm ?_|refine schm ?_|refine gy ?_|refine gn ?_|refine gnn ?_|refine gu ?_|(refine gsi (fun hB => ?_) (fun hB => ?_) <;> try (exfalso; omega))|(refine gsn (fun hB => ?_) (fun hB => ?_) <;> try (exfalso; omega))|(refine gs (fun hB => ?_) (fun hB => ?_) <;> try (exfalso; omega)))|(refine gc ?_; first|refine ct ?_|refine cf ?_|(refine ci (fun hB => ?_) (fun hB => ?_) <;> try (exfalso; omega))|(refine cn (fun hB => ?_) (fun hB => ?_) <;> try (exfalso; omega))|(refine cb (fun hB => ?_) (fun hB => ?_) <;> try (exfalso; omega)))|refine sq ?_|refine rg ?_|refine xc ?_|refine nl ?_|refine sk ?_|refine bk ?_|refine xe ?_|refine rt ?_|refine xb ?_
  exact r1 ⟨rfl, rfl⟩
theorem Tick_no (p : Value) (q : Nat) (hN : NoS p q) : Tr Tryz.prog 15 [p] [lpt q zS TSn] [] fun v D => v = tup2 nS (I 1) ∧ D = [] := by
  refine Tr.enter env _ Tryz.func15 (by kernel_rfl) rfl Tryz.ntmps15 rfl (by repeat (first | exact has00 | refine has01 ?_)) fun w0 => ?_
  repeat' first|(refine gca ?_; first|(refine ca hN ?_; rintro _ _ ⟨rfl, rfl⟩))|(refine wo ?_; first|(refine ao ?_; first|refine aw ?_|refine aw6 ?_|refine oa ?_|refine adiv ?_|refine amod ?_|refine shr1 ?_|refine shr ?_|refine umod ?_|refine isl ?_|refine ipe ?_|refine ipn ?_|refine ibe ?_)|refine acw ?_|refine ucv ?_|refine anw ?_|refine oa ?_|refine ld ?_|refine ldl ?_|refine lnm ?_|refine ixmn ?_|refine ixm ?_|refine li ?_|refine lb ?_|refine lv ?_|refine ln ?_|refine ixn ?_|refine ix ?_|refine le ?_|refine sr ?_|refine soi ?_|refine sob ?_|refine scm ?_|refine sclm ?_|refine schm ?_|refine gy ?_|refine gn ?_|refine gnn ?_|refine gu ?_|(refine gsi (fun hB => ?_) (fun hB => ?_) <;> try (exfalso; omega))|(refine gsn (fun hB => ?_) (fun hB => ?_) <;> try (exfalso; omega))|(refine gs (fun hB => ?_) (fun hB => ?_) <;> try (exfalso; omega)))|(refine gc ?_; first|refine ct ?_|refine cf ?_|(refine ci (fun hB => ?_) (fun hB => ?_) <;> try (exfalso; omega))|(refine cn (fun hB => ?_) (fun hB => ?_) <;> try (exfalso; omega))|(refine cb (fun hB => ?_) (fun hB => ?_) <;> try (exfalso; omega)))|refine sq ?_|refine rg ?_|refine xc ?_|refine nl ?_|refine sk ?_|refine bk ?_|refine xe ?_|refine rt ?_|refine xb ?_
  exact r2 ⟨rfl, rfl⟩
theorem Take_no (p b : Value) (q : Nat) (hN : NoS p q) : Tr Tryz.prog 14 [p, b] [lpt q zS TSn] [] fun v D => v = tup2 nS (I 1) ∧ D = [] := by
  refine Tr.enter env _ Tryz.func14 (by kernel_rfl) rfl Tryz.ntmps14 rfl (by repeat (first | exact has00 | refine has01 ?_)) fun w0 => ?_
  repeat' first|(refine gca ?_; first|(refine ca hN ?_; rintro _ _ ⟨rfl, rfl⟩))|(refine wo ?_; first|(refine ao ?_; first|refine aw ?_|refine aw6 ?_|refine oa ?_|refine adiv ?_|refine amod ?_|refine shr1 ?_|refine shr ?_|refine umod ?_|refine isl ?_|refine ipe ?_|refine ipn ?_|refine ibe ?_)|refine acw ?_|refine ucv ?_|refine anw ?_|refine oa ?_|refine ld ?_|refine ldl ?_|refine lnm ?_|refine ixmn ?_|refine ixm ?_|refine li ?_|refine lb ?_|refine lv ?_|refine ln ?_|refine ixn ?_|refine ix ?_|refine le ?_|refine sr ?_|refine soi ?_|refine sob ?_|refine scm ?_|refine sclm ?_|refine schm ?_|refine gy ?_|refine gn ?_|refine gnn ?_|refine gu ?_|(refine gsi (fun hB => ?_) (fun hB => ?_) <;> try (exfalso; omega))|(refine gsn (fun hB => ?_) (fun hB => ?_) <;> try (exfalso; omega))|(refine gs (fun hB => ?_) (fun hB => ?_) <;> try (exfalso; omega)))|(refine gc ?_; first|refine ct ?_|refine cf ?_|(refine ci (fun hB => ?_) (fun hB => ?_) <;> try (exfalso; omega))|(refine cn (fun hB => ?_) (fun hB => ?_) <;> try (exfalso; omega))|(refine cb (fun hB => ?_) (fun hB => ?_) <;> try (exfalso; omega)))|refine sq ?_|refine rg ?_|refine xc ?_|refine nl ?_|refine sk ?_|refine bk ?_|refine xe ?_|refine rt ?_|refine xb ?_
  exact r2 ⟨rfl, rfl⟩
theorem State_no (p : Value) (q : Nat) (hN : NoS p q) : Tr Tryz.prog 17 [p] [lpt q zS TSn] [] fun v D => v = I 0 ∧ D = [] := by
  refine Tr.enter env _ Tryz.func17 (by kernel_rfl) rfl Tryz.ntmps17 rfl (by repeat (first | exact has00 | refine has01 ?_)) fun w0 => ?_
  repeat' first|(refine gca ?_; first|(refine ca hN ?_; rintro _ _ ⟨rfl, rfl⟩))|(refine wo ?_; first|(refine ao ?_; first|refine aw ?_|refine aw6 ?_|refine oa ?_|refine adiv ?_|refine amod ?_|refine shr1 ?_|refine shr ?_|refine umod ?_|refine isl ?_|refine ipe ?_|refine ipn ?_|refine ibe ?_)|refine acw ?_|refine ucv ?_|refine anw ?_|refine oa ?_|refine ld ?_|refine ldl ?_|refine lnm ?_|refine ixmn ?_|refine ixm ?_|refine li ?_|refine lb ?_|refine lv ?_|refine ln ?_|refine ixn ?_|refine ix ?_|refine le ?_|refine sr ?_|refine soi ?_|refine sob ?_|refine scm ?_|refine sclm ?_|refine schm ?_|refine gy ?_|refine gn ?_|refine gnn ?_|refine gu ?_|(refine gsi (fun hB => ?_) (fun hB => ?_) <;> try (exfalso; omega))|(refine gsn (fun hB => ?_) (fun hB => ?_) <;> try (exfalso; omega))|(refine gs (fun hB => ?_) (fun hB => ?_) <;> try (exfalso; omega)))|(refine gc ?_; first|refine ct ?_|refine cf ?_|(refine ci (fun hB => ?_) (fun hB => ?_) <;> try (exfalso; omega))|(refine cn (fun hB => ?_) (fun hB => ?_) <;> try (exfalso; omega))|(refine cb (fun hB => ?_) (fun hB => ?_) <;> try (exfalso; omega)))|refine sq ?_|refine rg ?_|refine xc ?_|refine nl ?_|refine sk ?_|refine bk ?_|refine xe ?_|refine rt ?_|refine xb ?_
  exact r1 ⟨rfl, rfl⟩
theorem Acked_no (p : Value) (q : Nat) (hN : NoS p q) : Tr Tryz.prog 18 [p] [lpt q zS TSn] [] fun v D => v = I 0 ∧ D = [] := by
  refine Tr.enter env _ Tryz.func18 (by kernel_rfl) rfl Tryz.ntmps18 rfl (by repeat (first | exact has00 | refine has01 ?_)) fun w0 => ?_
  repeat' first|(refine gca ?_; first|(refine ca hN ?_; rintro _ _ ⟨rfl, rfl⟩))|(refine wo ?_; first|(refine ao ?_; first|refine aw ?_|refine aw6 ?_|refine oa ?_|refine adiv ?_|refine amod ?_|refine shr1 ?_|refine shr ?_|refine umod ?_|refine isl ?_|refine ipe ?_|refine ipn ?_|refine ibe ?_)|refine acw ?_|refine ucv ?_|refine anw ?_|refine oa ?_|refine ld ?_|refine ldl ?_|refine lnm ?_|refine ixmn ?_|refine ixm ?_|refine li ?_|refine lb ?_|refine lv ?_|refine ln ?_|refine ixn ?_|refine ix ?_|refine le ?_|refine sr ?_|refine soi ?_|refine sob ?_|refine scm ?_|refine sclm ?_|refine schm ?_|refine gy ?_|refine gn ?_|refine gnn ?_|refine gu ?_|(refine gsi (fun hB => ?_) (fun hB => ?_) <;> try (exfalso; omega))|(refine gsn (fun hB => ?_) (fun hB => ?_) <;> try (exfalso; omega))|(refine gs (fun hB => ?_) (fun hB => ?_) <;> try (exfalso; omega)))|(refine gc ?_; first|refine ct ?_|refine cf ?_|(refine ci (fun hB => ?_) (fun hB => ?_) <;> try (exfalso; omega))|(refine cn (fun hB => ?_) (fun hB => ?_) <;> try (exfalso; omega))|(refine cb (fun hB => ?_) (fun hB => ?_) <;> try (exfalso; omega)))|refine sq ?_|refine rg ?_|refine xc ?_|refine nl ?_|refine sk ?_|refine bk ?_|refine xe ?_|refine rt ?_|refine xb ?_
  exact r1 ⟨rfl, rfl⟩
theorem Left_no (p : Value) (q : Nat) (hN : NoS p q) : Tr Tryz.prog 19 [p] [lpt q zS TSn] [] fun v D => v = I 0 ∧ D = [] := by
  refine Tr.enter env _ Tryz.func19 (by kernel_rfl) rfl Tryz.ntmps19 rfl (by repeat (first | exact has00 | refine has01 ?_)) fun w0 => ?_
  repeat' first|(refine gca ?_; first|(refine ca hN ?_; rintro _ _ ⟨rfl, rfl⟩))|(refine wo ?_; first|(refine ao ?_; first|refine aw ?_|refine aw6 ?_|refine oa ?_|refine adiv ?_|refine amod ?_|refine shr1 ?_|refine shr ?_|refine umod ?_|refine isl ?_|refine ipe ?_|refine ipn ?_|refine ibe ?_)|refine acw ?_|refine ucv ?_|refine anw ?_|refine oa ?_|refine ld ?_|refine ldl ?_|refine lnm ?_|refine ixmn ?_|refine ixm ?_|refine li ?_|refine lb ?_|refine lv ?_|refine ln ?_|refine ixn ?_|refine ix ?_|refine le ?_|refine sr ?_|refine soi ?_|refine sob ?_|refine scm ?_|refine sclm ?_|refine schm ?_|refine gy ?_|refine gn ?_|refine gnn ?_|refine gu ?_|(refine gsi (fun hB => ?_) (fun hB => ?_) <;> try (exfalso; omega))|(refine gsn (fun hB => ?_) (fun hB => ?_) <;> try (exfalso; omega))|(refine gs (fun hB => ?_) (fun hB => ?_) <;> try (exfalso; omega)))|(refine gc ?_; first|refine ct ?_|refine cf ?_|(refine ci (fun hB => ?_) (fun hB => ?_) <;> try (exfalso; omega))|(refine cn (fun hB => ?_) (fun hB => ?_) <;> try (exfalso; omega))|(refine cb (fun hB => ?_) (fun hB => ?_) <;> try (exfalso; omega)))|refine sq ?_|refine rg ?_|refine xc ?_|refine nl ?_|refine sk ?_|refine bk ?_|refine xe ?_|refine rt ?_|refine xb ?_
  exact r1 ⟨rfl, rfl⟩
set_option maxHeartbeats 4000000 in
theorem SenderNone_tr (b : Value) (l : List Int) : Tr Tryz.prog 4 [b] [vw b (By l)] [] fun v D => v = .bool true ∧ D = [] := by
  have hbl := By_len l
  have hNn := fun q => noS_nil q
  have hNz := fun q => noS_zero q
  refine Tr.enter env _ Tryz.func4 (by kernel_rfl) rfl Tryz.ntmps4 rfl (by repeat (first | exact has00 | refine has01 ?_)) fun w0 => ?_
  repeat' first|(refine gca ?_; first|(refine ca awake_tr ?_; rintro _ _ ⟨rfl, rfl⟩))|refine ln (xs := By l) ?_|refine bdz ?_|refine bx fun q => ?_|(refine sli (vs := [nP, ptr q]) (fun al => ?_) (h1 := one_cons rfl (one_cons rfl one_nil)))|(refine wo ?_; first|(refine ao ?_; first|refine aw ?_|refine aw6 ?_|refine oa ?_|refine adiv ?_|refine amod ?_|refine shr1 ?_|refine shr ?_|refine umod ?_|refine isl ?_|refine ipe ?_|refine ipn ?_|refine ibe ?_)|refine acw ?_|refine ucv ?_|refine anw ?_|refine oa ?_|refine ld ?_|refine ldl ?_|refine lnm ?_|refine ixmn ?_|refine ixm ?_|refine li ?_|refine lb ?_|refine lv ?_|refine ln ?_|refine ixn ?_|refine ix ?_|refine le ?_|refine sr ?_|refine soi ?_|refine sob ?_|refine scm ?_|refine sclm ?_|refine schm ?_|refine gy ?_|refine gn ?_|refine gnn ?_|refine gu ?_|(refine gsi (fun hB => ?_) (fun hB => ?_) <;> try (exfalso; omega))|(refine gsn (fun hB => ?_) (fun hB => ?_) <;> try (exfalso; omega))|(refine gs (fun hB => ?_) (fun hB => ?_) <;> try (exfalso; omega)))|(refine gc ?_; first|refine ct ?_|refine cf ?_|(refine ci (fun hB => ?_) (fun hB => ?_) <;> try (exfalso; omega))|(refine cn (fun hB => ?_) (fun hB => ?_) <;> try (exfalso; omega))|(refine cb (fun hB => ?_) (fun hB => ?_) <;> try (exfalso; omega)))|refine sq ?_|refine rg ?_|refine xc ?_|refine nl ?_|refine sk ?_|refine bk ?_|refine xe ?_|refine rt ?_|refine xb ?_
  · exact r1 ⟨rfl, rfl⟩
  have hl2 : [nP, ptr q].length = 2 := rfl
  refine TC.loop (ι := Nat) (fun i => [(4, I i)]) (fun _ => []) (fun i => i ≤ 2) (fun i => 2 - i) 0 [0, 3] (by omega) ?_ (hf := by first | apply Fit.all | ((repeat (first | (apply Fit.nilN; (repeat (first | apply nrm_nil | apply nrm_cons)); try apply nrm_rfl) | (apply Fit.cons; focus ((repeat (first | apply Tk.here | apply Tk.there)); first | done | fail)))); first | done | fail))
  intro i hi
  by_cases hlt : i < 2
  · rcases (by omega : i = 0 ∨ i = 1) with rfl | rfl
    · repeat' first|(refine gca ?_; first|(refine ca (Tick_no nP q (hNn q)) ?_; rintro _ _ ⟨rfl, rfl⟩)|(refine ca (Take_no nP b q (hNn q)) ?_; rintro _ _ ⟨rfl, rfl⟩)|(refine ca (State_no nP q (hNn q)) ?_; rintro _ _ ⟨rfl, rfl⟩)|(refine ca (Acked_no nP q (hNn q)) ?_; rintro _ _ ⟨rfl, rfl⟩)|(refine ca (Left_no nP q (hNn q)) ?_; rintro _ _ ⟨rfl, rfl⟩))|refine ln (xs := [nP, ptr q]) ?_|refine ln (xs := []) ?_|(refine wo ?_; first|(refine ao ?_; first|refine aw ?_|refine aw6 ?_|refine oa ?_|refine adiv ?_|refine amod ?_|refine shr1 ?_|refine shr ?_|refine umod ?_|refine isl ?_|refine ipe ?_|refine ipn ?_|refine ibe ?_)|refine acw ?_|refine ucv ?_|refine anw ?_|refine oa ?_|refine ld ?_|refine ldl ?_|refine lnm ?_|refine ixmn ?_|refine ixm ?_|refine li ?_|refine lb ?_|refine lv ?_|refine ln ?_|refine ixn ?_|refine ix ?_|refine le ?_|refine sr ?_|refine soi ?_|refine sob ?_|refine scm ?_|refine sclm ?_|refine schm ?_|refine gy ?_|refine gn ?_|refine gnn ?_|refine gu ?_|(refine gsi (fun hB => ?_) (fun hB => ?_) <;> try (exfalso; omega))|(refine gsn (fun hB => ?_) (fun hB => ?_) <;> try (exfalso; omega))|(refine gs (fun hB => ?_) (fun hB => ?_) <;> try (exfalso; omega)))|(refine gc ?_; first|refine ct ?_|refine cf ?_|(refine ci (fun hB => ?_) (fun hB => ?_) <;> try (exfalso; omega))|(refine cn (fun hB => ?_) (fun hB => ?_) <;> try (exfalso; omega))|(refine cb (fun hB => ?_) (fun hB => ?_) <;> try (exfalso; omega)))|refine sq ?_|refine rg ?_|refine xc ?_|refine nl ?_|refine sk ?_|refine bk ?_|refine xe ?_|refine rt ?_|refine xb ?_
      all_goals first | (exfalso; omega) | exact lp 1 (by omega) (by omega) (hs := by (repeat (refine Sub.cons rfl (by first | rfl | go_num) ?_)); exact Sub.nil) (hf := by first | apply Fit.all | ((repeat (first | (apply Fit.nilN; (repeat (first | apply nrm_nil | apply nrm_cons)); try apply nrm_rfl) | (apply Fit.cons; focus ((repeat (first | apply Tk.here | apply Tk.there)); first | done | fail)))); first | done | fail))
    · repeat' first|(refine gca ?_; first|(refine ca (Tick_no (ptr q) q (hNz q)) ?_; rintro _ _ ⟨rfl, rfl⟩)|(refine ca (Take_no (ptr q) b q (hNz q)) ?_; rintro _ _ ⟨rfl, rfl⟩)|(refine ca (State_no (ptr q) q (hNz q)) ?_; rintro _ _ ⟨rfl, rfl⟩)|(refine ca (Acked_no (ptr q) q (hNz q)) ?_; rintro _ _ ⟨rfl, rfl⟩)|(refine ca (Left_no (ptr q) q (hNz q)) ?_; rintro _ _ ⟨rfl, rfl⟩))|refine ln (xs := [nP, ptr q]) ?_|refine ln (xs := []) ?_|(refine wo ?_; first|(refine ao ?_; first|refine aw ?_|refine aw6 ?_|refine oa ?_|refine adiv ?_|refine amod ?_|refine shr1 ?_|refine shr ?_|refine umod ?_|refine isl ?_|refine ipe ?_|refine ipn ?_|refine ibe ?_)|refine acw ?_|refine ucv ?_|refine anw ?_|refine oa ?_|refine ld ?_|refine ldl ?_|refine lnm ?_|refine ixmn ?_|refine ixm ?_|refine li ?_|refine lb ?_|refine lv ?_|refine ln ?_|refine ixn ?_|refine ix ?_|refine le ?_|refine sr ?_|refine soi ?_|refine sob ?_|refine scm ?_|refine sclm ?_|refine schm ?_|refine gy ?_|refine gn ?_|refine gnn ?_|refine gu ?_|(refine gsi (fun hB => ?_) (fun hB => ?_) <;> try (exfalso; omega))|(refine gsn (fun hB => ?_) (fun hB => ?_) <;> try (exfalso; omega))|(refine gs (fun hB => ?_) (fun hB => ?_) <;> try (exfalso; omega)))|(refine gc ?_; first|refine ct ?_|refine cf ?_|(refine ci (fun hB => ?_) (fun hB => ?_) <;> try (exfalso; omega))|(refine cn (fun hB => ?_) (fun hB => ?_) <;> try (exfalso; omega))|(refine cb (fun hB => ?_) (fun hB => ?_) <;> try (exfalso; omega)))|refine sq ?_|refine rg ?_|refine xc ?_|refine nl ?_|refine sk ?_|refine bk ?_|refine xe ?_|refine rt ?_|refine xb ?_
      all_goals first | (exfalso; omega) | exact lp 2 (by omega) (by omega) (hs := by (repeat (refine Sub.cons rfl (by first | rfl | go_num) ?_)); exact Sub.nil) (hf := by first | apply Fit.all | ((repeat (first | (apply Fit.nilN; (repeat (first | apply nrm_nil | apply nrm_cons)); try apply nrm_rfl) | (apply Fit.cons; focus ((repeat (first | apply Tk.here | apply Tk.there)); first | done | fail)))); first | done | fail))
  · obtain rfl : i = 2 := by omega
    repeat' first|(refine gca ?_; first|(refine ca awake_tr ?_; rintro _ _ ⟨rfl, rfl⟩))|refine ln (xs := [nP, ptr q]) ?_|(refine wo ?_; first|(refine ao ?_; first|refine aw ?_|refine aw6 ?_|refine oa ?_|refine adiv ?_|refine amod ?_|refine shr1 ?_|refine shr ?_|refine umod ?_|refine isl ?_|refine ipe ?_|refine ipn ?_|refine ibe ?_)|refine acw ?_|refine ucv ?_|refine anw ?_|refine oa ?_|refine ld ?_|refine ldl ?_|refine lnm ?_|refine ixmn ?_|refine ixm ?_|refine li ?_|refine lb ?_|refine lv ?_|refine ln ?_|refine ixn ?_|refine ix ?_|refine le ?_|refine sr ?_|refine soi ?_|refine sob ?_|refine scm ?_|refine sclm ?_|refine schm ?_|refine gy ?_|refine gn ?_|refine gnn ?_|refine gu ?_|(refine gsi (fun hB => ?_) (fun hB => ?_) <;> try (exfalso; omega))|(refine gsn (fun hB => ?_) (fun hB => ?_) <;> try (exfalso; omega))|(refine gs (fun hB => ?_) (fun hB => ?_) <;> try (exfalso; omega)))|(refine gc ?_; first|refine ct ?_|refine cf ?_|(refine ci (fun hB => ?_) (fun hB => ?_) <;> try (exfalso; omega))|(refine cn (fun hB => ?_) (fun hB => ?_) <;> try (exfalso; omega))|(refine cb (fun hB => ?_) (fun hB => ?_) <;> try (exfalso; omega)))|refine sq ?_|refine rg ?_|refine xc ?_|refine nl ?_|refine sk ?_|refine bk ?_|refine xe ?_|refine rt ?_|refine xb ?_
    exact r1 ⟨rfl, rfl⟩
end Go.Art.Sn
