/- Texts put together: Ty Su Tz. Conditions: none. -/
import Derived.Test.YtmlepnlejdfdjaaGreatLj
set_option linter.unusedSimpArgs false
set_option linter.unusedVariables false
namespace Go.Art.Sn
open Go Go.Proofs Go.RowKit Go.Art
attribute [local irreducible] Fit pt own ro vw mpc lpt vels rels mow lrc dfr
attribute [local irreducible] lmp lme mit velg relg vwf frz prs chp SP.tick SP.take
/-- What stands in a sender's law: the sender's state is as it was told. -/
structure TuI (m : MfS) (d : List Int) (ses : Int) (h : SH) (s : SP) : Prop where
  ok : s.ok h
  ses : s.ses = ses
  hm : s.m = m
  hd : s.d = d
  ob : s.ob = m.bytes
theorem TuI.stay {m : MfS} {d : List Int} {ses : Int} {h : SH} {s s' : SP} (k : TuI m d ses h s) (hok : s'.ok h) (hs : stayS s s') : TuI m d ses h s' := by
  obtain ⟨h1, h2, h3, h4, _⟩ := hs
  exact ⟨hok, h1.trans k.ses, h2.trans k.hm, h3.trans k.hd, h4.trans k.ob⟩
set_option maxHeartbeats 8000000 in
theorem SenderTurns_tr (m : MfS) (tv dv : Value) (d : List Int) (ses bud tmo : Int) (v : Value) (ts : List Int) (hs : List Value) (ls : List (List Int)) (hts : ts.length = ls.length) (htv : tv.oneCell' = true) (hdv : dv.oneCell' = true)
    (hsd : m.seed ≤ 9223372036854775807) (hin : ∀ l ∈ ls, inB l) (hone : ∀ h ∈ hs, h.oneCell' = true) :
    Tr Tryz.prog 6 [.agg #[I m.size, I m.sym, I m.k, I m.seed, tv, dv, I ses, I bud, I tmo], v] [vw tv (Is m.t), vw dv (By d), vwf v ls.length (pc ((Is ts).zip hs)), velg y8 hs ls] []
      fun r D => r = .bool true ∧ D = [] := by
  have hL := Long_tr m tv dv d ses bud tmo v ts hs ls hts htv hdv
  have hN := fun hd => SNew_tr m tv dv d ses bud tmo htv hsd hd
  have hBl := Blocks_tr m tv htv
  have hdl := By_len d
  refine Tr.enter env _ Tryz.func6 (by kernel_rfl) rfl Tryz.ntmps6 rfl (by repeat (first | exact has00 | refine has01 ?_)) fun w0 => ?_
  refine TC.elg (g := y8) (hs := hs) (ls := ls) (fun hhl => ?_)
  refine sq ?_
  refine rg ?_
  refine bx fun q => ?_
  refine oa ?_
  refine nl ?_
  refine xc ?_
  refine sq ?_
  refine rg ?_
  refine ca SenderKnown_tr ?_
  rintro _ _ ⟨rfl, rfl⟩
  refine oa ?_
  refine nl ?_
  refine xc ?_
  refine sq_cut (d.length ≤ 2000 ∧ ls.length ≤ 30 ∧ ∀ i, i < ls.length → (ls.getD i []).length ≤ 400) [(1, v), (2, ptr q), (4, .bool false), (5, .bool true)] ?_ fun kb => ?_
  rotate_left
  · refine sq ?_
    refine rg ?_
    refine lda ?_
    refine oa ?_
    refine ca hL ?_ (hp := has1 (has_vw (by (repeat (first | apply List.Mem.head | apply List.Mem.tail)); first | done | fail)) (has1 (has_vw (by (repeat (first | apply List.Mem.head | apply List.Mem.tail)); first | done | fail)) (has1 (has_vwf (by (repeat (first | apply List.Mem.head | apply List.Mem.tail)); first | done | fail)) (has1 (has_velg (by (repeat (first | apply List.Mem.head | apply List.Mem.tail)); first | done | fail)) has0))))
    rintro _ _ ⟨b, rfl, rfl, hb⟩
    cases b
    · repeat' first|exact kb (hb rfl) _ (by (repeat (refine Sub.cons rfl (by first | rfl | go_num) ?_)); exact Sub.nil)|(refine gc ?_; first|refine cf ?_)|refine xc ?_|refine nl ?_|refine sk ?_
    · repeat' first|(refine wo ?_; first|refine oa ?_)|(refine gc ?_; first|refine ct ?_)|refine sq ?_|refine rg ?_|refine xc ?_|refine nl ?_|refine rt ?_
      exact r1 ⟨rfl, rfl⟩
  rintro ⟨hd2, hl30, h400⟩
  have hN := hN (by omega)
  by_cases hE : newSE m d ses bud tmo = 0
  rotate_left
  · have hN := hN.mono (R' := fun v D => v = tup2 nP (I (newSE m d ses bud tmo)) ∧ D = []) (by rintro v D (⟨h0, _⟩ | ⟨_, h⟩); exact absurd h0 hE; exact h)
    repeat' first|(refine gca ?_; first|(refine ca hN ?_; rintro _ _ ⟨rfl, rfl⟩))|refine lda ?_|(refine wo ?_; first|(refine ao ?_; first|refine oa ?_|refine ipn ?_|refine ibe ?_)|refine oa ?_|refine ld ?_|refine gy ?_|refine gn ?_|(refine gsn (fun hB => ?_) (fun hB => ?_) <;> try (exfalso; omega)))|(refine gc ?_; first|refine ct ?_)|refine sq ?_|refine rg ?_|refine xc ?_|refine nl ?_|refine rt ?_
    exact r1 (v := .bool (decide (newSE m d ses bud tmo = 0) == false)) ⟨by rw [decide_eq_false hE]; rfl, rfl⟩
  have hN := hN.mono (R' := fun v D => ∃ p h, v = tup2 (ptr p) (I 0) ∧ (SP.new m d ses bud tmo).ok h ∧ D = sndP p h (SP.new m d ses bud tmo)) (by rintro v D (⟨_, h⟩ | ⟨h0, _⟩); exact h; exact absurd hE h0)
  obtain ⟨hmo, hdm, hses, hbud, _⟩ := newSE_ok hE
  have hmt := MfS.ok_t hmo
  obtain ⟨hbl1, hbl2⟩ := blocks_le hmo
  obtain ⟨nb, hnb⟩ : ∃ nb : Nat, m.blocks = nb := ⟨m.blocks.toNat, by omega⟩
  have hs0 : (SP.new m d ses bud tmo).last = -1 ∧ (SP.new m d ses bud tmo).bud = bud ∧ (SP.new m d ses bud tmo).sent = List.replicate nb 0 ∧ (SP.new m d ses bud tmo).ack = List.replicate nb false ∧ (SP.new m d ses bud tmo).st = 1 := by
    unfold SP.new; rw [hnb, Int.toNat_natCast]; exact ⟨rfl, rfl, rfl, rfl, rfl⟩
  have hk0 : ∀ h, (SP.new m d ses bud tmo).ok h → TuI m d ses h (SP.new m d ses bud tmo) := fun h hk => ⟨hk, rfl, rfl, rfl, rfl⟩
  rw [hnb] at hBl
  generalize SP.new m d ses bud tmo = s0 at *
  obtain ⟨hz1, hz2, hz3, hz4, hz5⟩ := hs0
  repeat' first|(refine gca ?_; first|(refine ca hN ?_; rintro _ _ ⟨p, h, rfl, hok0, rfl⟩)|(refine ca hBl ?_; rintro _ _ ⟨rfl, rfl⟩))|refine sq_cutX (a := .region 10 _ _) (ι := Value × Value) (fun g => g.1.oneCell' = true ∧ g.2.oneCell' = true) (fun g => [(1, v), (2, ptr q), (4, .bool false), (5, .bool true), (6, ptr p), (8, I nb), (9, g.1), (10, g.2)]) (fun g => sndP p h s0 ++ [own TyO g.1 (List.replicate nb (.bool false)), own 3 g.2 (Is (List.replicate nb 0))] ++ [pt q [I m.size, I m.sym, I m.k, I m.seed, tv, dv, I ses, I bud, I tmo] 27, vw tv (Is m.t), vw dv (By d), vwf v ls.length (pc ((Is ts).zip hs)), velg y8 hs ls]) ?_ (fun kb => ?_)|refine rs (id := 10) (fun _ => True) ?_ (fun _ _ => trivial)|refine lda ?_|(refine ln (xs := By d) ?_; rw [hdl])|(refine wo ?_; first|(refine ao ?_; first|refine oa ?_|refine ipe ?_)|refine oa ?_|refine ld ?_|refine gy ?_)|(refine gc ?_; first|refine cf ?_|(refine ci (fun hB => ?_) (fun hB => ?_) <;> try (exfalso; omega)))|refine sq ?_|refine rg ?_|refine xc ?_|refine nl ?_|refine sk ?_
  rotate_left
  · refine tka 0 ?_
    refine tka 2 ?_
    refine Go.Art.t2 1 3 ?_ ?_
    · refine mk (fun ak => ?_)
      rw [Int.toNat_natCast]
      refine TO.one (v := ak) (xs := List.replicate nb (.bool false)) fun hak => ?_
      refine nl ?_
      refine te (fun _ _ => trivial) ?_
      refine tka 4 ?_
      refine Go.Art.t1 3 ?_
      refine mki (fun snv => ?_)
      rw [Int.toNat_natCast]
      refine TO.one (v := snv) (xs := Is (List.replicate nb 0)) fun hsnv => ?_
      refine nl ?_
      refine te (fun _ _ => trivial) ?_
      refine tka 5 ?_
      refine t0 ?_
      refine xc ?_
      exact kb (ak, snv) ⟨hak, hsnv⟩ _ _ (by (repeat (refine Sub.cons rfl (by first | rfl | go_num) ?_)); exact Sub.nil) (by first | apply Fit.all | ((repeat (first | (apply Fit.nilN; (repeat (first | apply nrm_nil | apply nrm_cons)); try apply nrm_rfl) | (apply Fit.cons; focus ((repeat (first | apply Tk.here | apply Tk.there)); first | done | fail)))); first | done | fail))
    · refine mki (fun snv => ?_)
      rw [Int.toNat_natCast]
      refine TO.one (v := snv) (xs := Is (List.replicate nb 0)) fun hsnv => ?_
      refine nl ?_
      refine te (fun _ _ => trivial) ?_
      refine Go.Art.t1 1 ?_
      refine mk (fun ak => ?_)
      rw [Int.toNat_natCast]
      refine TO.one (v := ak) (xs := List.replicate nb (.bool false)) fun hak => ?_
      refine nl ?_
      refine te (fun _ _ => trivial) ?_
      refine tka 4 ?_
      refine tka 5 ?_
      refine t0 ?_
      refine xc ?_
      exact kb (ak, snv) ⟨hak, hsnv⟩ _ _ (by (repeat (refine Sub.cons rfl (by first | rfl | go_num) ?_)); exact Sub.nil) (by first | apply Fit.all | ((repeat (first | (apply Fit.nilN; (repeat (first | apply nrm_nil | apply nrm_cons)); try apply nrm_rfl) | (apply Fit.cons; focus ((repeat (first | apply Tk.here | apply Tk.there)); first | done | fail)))); first | done | fail))
  rintro ⟨ak, snv⟩ ⟨hak, hsnv⟩
  dsimp only at hak hsnv ⊢
  rw [show List.replicate nb (Value.bool false) = Bo s0.ack by rw [hz4]; exact (List.map_replicate ..).symm, show List.replicate nb (0 : Int) = s0.sent from hz3.symm]
  have hnb0 : s0.ack.length = nb := by rw [hz4, List.length_replicate]
  repeat' first|(refine wo ?_; first|refine oa ?_)|refine sq ?_|refine rg ?_|refine xc ?_|refine nl ?_|refine bk ?_|refine rq ?_|refine nq ?_|(refine wq ?_; first|refine qa ?_|refine qld ?_)
  refine TC.loop (ι := Nat × SP) (fun g => [(11, I g.2.last), (12, I g.2.bud), (13, I g.1)]) (fun g => sndP p h g.2 ++ [own TyO ak (Bo g.2.ack), own 3 snv (Is g.2.sent)]) (fun g => g.1 ≤ ls.length ∧ TuI m d ses h g.2 ∧ g.2.alive ∧ g.2.ack.length = nb) (fun g => ls.length - g.1) (0, s0) [1, 2, 4, 5, 6, 8, 9, 10] ⟨by simp, hk0 h hok0, .inl hz5, hnb0⟩ ?_ (hf := by first | apply Fit.all | ((repeat (first | (apply Fit.nilN; (repeat (first | apply nrm_nil | apply nrm_cons)); try apply nrm_rfl) | (apply Fit.cons; focus ((repeat (first | apply Tk.here | apply Tk.there)); first | done | fail)))); first | done | fail))
  rintro ⟨i, s1⟩ ⟨hi, hI1, hal1, hn1⟩
  dsimp only at hi hI1 hal1 hn1 ⊢
  by_cases hlt : i < ls.length
  rotate_left
  · repeat' first|refine lnf ?_|(refine wo ?_; first|(refine ao ?_; first|refine oa ?_)|refine oa ?_)|(refine gc ?_; first|(refine ci (fun hB => ?_) (fun hB => ?_) <;> try (exfalso; omega)))|refine sq ?_|refine rg ?_|refine xc ?_|refine nl ?_|refine xe ?_|refine rt ?_
    all_goals first | (exfalso; omega) | exact r1 ⟨rfl, rfl⟩
  repeat' first|(refine gca ?_; first|(refine ca (ticks_tr _ _) ?_; rintro _ _ ⟨rfl, rfl⟩))|refine lnf ?_|refine ixfn ?_|(refine ldaf (act2 (ts := ts) (hs := hs) (i := i) (by omega) (by omega)) ?_)|(refine wo ?_; first|(refine ao ?_; first|refine oa ?_)|refine oa ?_)|(refine gc ?_; first|(refine ci (fun hB => ?_) (fun hB => ?_) <;> try (exfalso; omega)))|refine sq ?_|refine rg ?_|refine xc ?_|refine nl ?_|refine sk ?_|refine bk ?_
  all_goals try (exfalso; omega)
  have hpk := pick_in (ts.getD i 0) (n := 21) (by decide)
  generalize pick (ts.getD i 0) 21 = tk at *
  have hli := h400 i hlt
  have hbli := By_len (ls.getD i [])
  refine TC.loop (ι := Nat × SP) (fun g => [(14, I g.1), (11, I g.2.last), (12, I g.2.bud)]) (fun g => sndP p h g.2 ++ [own TyO ak (Bo g.2.ack), own 3 snv (Is g.2.sent)]) (fun g => g.1 ≤ 20 ∧ TuI m d ses h g.2 ∧ g.2.ack.length = nb ∧ (g.2.st = 1 ∨ g.2.st = 2 ∨ g.2.st = 4 ∨ g.2.st = 5)) (fun g => g.1) (tk.toNat, s1) [1, 2, 4, 5, 6, 8, 9, 10, 13] ⟨by dsimp only; omega, hI1, hn1, by rcases hal1 with h | h; exact .inl h; exact .inr (.inl h)⟩ ?_ (hs := by dsimp only; rw [show ((tk.toNat : Nat) : Int) = tk by omega]; (repeat (refine Sub.cons rfl (by first | rfl | go_num) ?_)); exact Sub.nil) (hf := by first | apply Fit.all | ((repeat (first | (apply Fit.nilN; (repeat (first | apply nrm_nil | apply nrm_cons)); try apply nrm_rfl) | (apply Fit.cons; focus ((repeat (first | apply Tk.here | apply Tk.there)); first | done | fail)))); first | done | fail))
  rintro ⟨k, s⟩ ⟨hk, hI, hn, hst⟩
  dsimp only at hk hI hn hst ⊢
  have hses' : 0 ≤ s.ses ∧ s.ses ≤ 4294967295 := by rw [hI.ses]; exact hses
  have hn3 := hI.ok.n3
  have hbd := hI.ok.bud
  have hla := hI.ok.last
  by_cases hk0 : k = 0
  · subst hk0
    by_cases hov : 2 < s.st
    · have hov' : (decide (2 < s.st)) = true := decide_eq_true hov
      repeat' first|(refine gca ?_; first|(refine ca (State_tr p s.ses s.bud s.tmo s.last s.sil s.st h.opn h.pts h.ack h.c) ?_; rintro _ _ ⟨rfl, rfl⟩)|(refine ca (over_tr s.st) ?_; rintro _ _ ⟨rfl, rfl⟩; rw [hov']))|(refine wo ?_; first|(refine ao ?_; first|refine oa ?_)|refine oa ?_)|(refine gc ?_; first|refine ct ?_|refine cf ?_)|refine sq ?_|refine rg ?_|refine xc ?_|refine nl ?_|refine xe ?_|refine rt ?_
      exact r1 ⟨rfl, rfl⟩
    have hov' : (decide (2 < s.st)) = false := decide_eq_false hov
    have hal : s.alive := by rcases hst with h | h | h | h; exact .inl h; exact .inr h; omega; omega
    have hPk := Pick_tr (ls.getD i []).length (nb + 1) (by omega)
    have hpb := pick_in (ls.getD i []).length (n := (nb : Int) + 1) (by omega)
    generalize pick (ls.getD i []).length ((nb : Int) + 1) = bk at *
    have hPP := PPut_tr 2 ses bk 0 0 nS [] rfl
    have hTa := fun o ho => Take_tr p h s hI.ok o (putR 2 ses bk 0 0 []).1 (by have := putR_len 2 ses bk 0 0 []; simp at this; omega) (putR_in 2 ses bk 0 0 inB.nil) ho
    have htk := take_ack (s := s) (b := bk) hal hses' ⟨hpb.1, by omega⟩ (by omega)
    have hok2 := take_ok hI.ok (putR 2 ses bk 0 0 []).1
    rw [hI.ses] at htk
    rw [htk] at hTa hok2
    dsimp only at hTa hok2
    have hsets : (if bk < (s.ack.length : Int) then s.ack.set bk.toNat true else s.ack).length = nb := by split; rw [List.length_set]; exact hn; exact hn
    have hI2 : TuI m d ses h { s with ses := ses, st := 2, sil := 0, ack := if bk < (s.ack.length : Int) then s.ack.set bk.toNat true else s.ack } := ⟨hok2, rfl, hI.hm, hI.hd, hI.ob⟩
    obtain ⟨s2, hs2⟩ : ∃ s2 : SP, s2 = { s with ses := ses, st := 2, sil := 0, ack := if bk < (s.ack.length : Int) then s.ack.set bk.toNat true else s.ack } := ⟨_, rfl⟩
    rw [← hs2] at hTa hI2
    have q1 : s2.last = s.last := by rw [hs2]
    have q2 : s2.bud = s.bud := by rw [hs2]
    have q3 : s2.sent = s.sent := by rw [hs2]
    have q4 : s2.st = 2 := by rw [hs2]
    have q5 : s2.ack = if bk < (s.ack.length : Int) then s.ack.set bk.toNat true else s.ack := by rw [hs2]
    have q6 : s2.ack.length = nb := by rw [q5]; exact hsets
    clear hs2 hok2 htk
    have hBs : Bo (s.ack.set bk.toNat true) = (Bo s.ack).set bk.toNat (.bool true) := List.map_set ..
    have hBl2 := Bo_len s.ack
    repeat' first|(refine gca ?_; first|(refine ca (State_tr p s.ses s.bud s.tmo s.last s.sil s.st h.opn h.pts h.ack h.c) ?_; rintro _ _ ⟨rfl, rfl⟩)|(refine ca (over_tr s.st) ?_; rintro _ _ ⟨rfl, rfl⟩; rw [hov'])|(refine ca hPk ?_; rintro _ _ ⟨rfl, rfl⟩)|(refine ca hPP ?_; rintro _ _ ⟨o, rfl, ho, rfl⟩)|(refine ca (hTa o ho) ?_; rintro _ _ ⟨o2, os2, rfl, ho2, hos2, rfl⟩; have hos3 : os2.length = 0 := hos2)|(refine ca (State_is p h s2 2 q4) ?_; rintro _ _ ⟨rfl, rfl⟩))|refine ixfn ?_|refine faf ?_|(refine ldf (act1 (ts := ts) (hs := hs) (i := i) (by omega) (by omega)) ?_)|(refine ln (xs := By (ls.getD i [])) ?_; rw [hbli])|refine bdz ?_|(refine ln (xs := os2) ?_; rw [hos3])|(refine ix (xs := Bo s.ack) ?_ (hb := by omega))|(refine so (xs := Bo s.ack) (ys := Bo (s.ack.set bk.toNat true)) ?_ (hs := hBs) (hj := by omega))|(refine wo ?_; first|(refine ao ?_; first|refine aw ?_|refine oa ?_)|refine oa ?_|refine ld ?_|refine gy ?_)|(refine gc ?_; first|refine cf ?_|(refine ci (fun hB => ?_) (fun hB => ?_) <;> try (exfalso; omega)))|refine sq ?_|refine rg ?_|refine xc ?_|refine nl ?_|refine sk ?_|refine xe ?_|refine xb ?_
    all_goals try (exfalso; omega)
    · rw [if_pos (by omega)] at q5
      exact lp (i + 1, s2) ⟨by dsimp only; omega, hI2, .inr q4, q6⟩ (hf := by dsimp only; rw [show own TyO ak (Bo s2.ack) = own TyO ak (Bo (s.ack.set bk.toNat true)) by rw [q5], show own 3 snv (Is s2.sent) = own 3 snv (Is s.sent) by rw [q3]]; first | apply Fit.all | ((repeat (first | (apply Fit.nilN; (repeat (first | apply nrm_nil | apply nrm_cons)); try apply nrm_rfl) | (apply Fit.cons; focus ((repeat (first | apply Tk.here | apply Tk.there)); first | done | fail)))); first | done | fail))
    · rw [if_neg (by omega)] at q5
      exact lp (i + 1, s2) ⟨by dsimp only; omega, hI2, .inr q4, q6⟩ (hf := by dsimp only; rw [show own TyO ak (Bo s2.ack) = own TyO ak (Bo s.ack) by rw [q5], show own 3 snv (Is s2.sent) = own 3 snv (Is s.sent) by rw [q3]]; first | apply Fit.all | ((repeat (first | (apply Fit.nilN; (repeat (first | apply nrm_nil | apply nrm_cons)); try apply nrm_rfl) | (apply Fit.cons; focus ((repeat (first | apply Tk.here | apply Tk.there)); first | done | fail)))); first | done | fail))
  have hT := Tick_tr p h s hI.ok
  have hok' := tick_ok hI.ok
  obtain ⟨hstay, hkd⟩ := tick_kind hI.ok (by rw [hI.hm]; exact hmo) (by rw [hI.hm]; exact hI.ob) hses'
  have hI' := hI.stay hok' hstay
  have hst' : s.tick.1.st = 1 ∨ s.tick.1.st = 2 ∨ s.tick.1.st = 4 ∨ s.tick.1.st = 5 := by
    obtain ⟨_, _, _, _, h | h | h⟩ := hstay
    · rw [h]; exact hst
    · exact .inr (.inr (.inl h))
    · exact .inr (.inr (.inr h))
  have hbd' := hok'.bud
  have hTurn := fun a (hto : turnO s.ack s.last = some a) id pv hpv => turned_tr m tv dv pv ak snv d ses bud tmo ses s.last a s.ack s.sent id htv hpv hmo hdm hla hn3 hto hI.ok.n1
  rw [hI.hm, hI.hd, hI.ses] at hkd
  generalize s.tick = TT at *
  obtain ⟨s', outs⟩ := TT
  dsimp only at hT hok' hkd hI' hst' hbd'
  rcases hkd with ⟨rfl, e1, e2, e3, e4⟩ | ⟨B, κ, r, pl, rfl, hgB, hκ, hsB, hinB, hlB, e1, e2, e3, e4⟩ | ⟨a, B, hs1, hto, rfl, hnE, hid, hgB, hsB, hinB, hlB, hb1, e1, e2, e3, e4⟩
  · have hn' : s'.ack.length = nb := by rw [e4]; exact hn
    repeat' first|(refine gca ?_; first|(refine ca (State_tr p s.ses s.bud s.tmo s.last s.sil s.st h.opn h.pts h.ack h.c) ?_; rintro _ _ ⟨rfl, rfl⟩)|(refine ca hT ?_; rintro _ _ ⟨o, os, rfl, ho, hos, rfl⟩; have hos1 : os.length = 0 := hos))|(refine ln (xs := os) ?_; rw [hos1])|(refine wo ?_; first|(refine ao ?_; first|refine oa ?_)|refine oa ?_|refine gy ?_)|(refine gc ?_; first|refine cf ?_|(refine ci (fun hB => ?_) (fun hB => ?_) <;> try (exfalso; omega)))|refine sq ?_|refine rg ?_|refine xc ?_|refine nl ?_|refine sk ?_|refine bk ?_
    all_goals try (exfalso; omega)
    refine TC.loop (ι := Nat × SP) (fun g => [(18, I g.1), (11, I g.2.last), (12, I g.2.bud)]) (fun g => [own 3 snv (Is g.2.sent)]) (fun g => g.1 = 0 ∧ g.2 = s) (fun g => 1 - g.1) (0, s) [1, 2, 4, 5, 6, 8, 9, 10, 13, 14, 15, 16] ⟨rfl, rfl⟩ ?_ (hf := by first | apply Fit.all | ((repeat (first | (apply Fit.nilN; (repeat (first | apply nrm_nil | apply nrm_cons)); try apply nrm_rfl) | (apply Fit.cons; focus ((repeat (first | apply Tk.here | apply Tk.there)); first | done | fail)))); first | done | fail))
    rintro ⟨j, σ⟩ ⟨hj, hσ⟩
    dsimp only at hj hσ ⊢
    subst hj hσ
    repeat' first|(refine gca ?_; first|(refine ca (Left_tr p s'.ses s'.bud s'.tmo s'.last s'.sil s'.st h.opn h.pts h.ack h.c) ?_; rintro _ _ ⟨rfl, rfl⟩))|(refine ln (xs := os) ?_; rw [hos1])|(refine wo ?_; first|(refine ao ?_; first|refine aw ?_|refine oa ?_)|refine oa ?_|refine gy ?_|(refine gsi (fun hB => ?_) (fun hB => ?_) <;> try (exfalso; omega)))|(refine gc ?_; first|refine cf ?_|(refine cn (fun hB => ?_) (fun hB => ?_) <;> try (exfalso; omega)))|refine sq ?_|refine rg ?_|refine xc ?_|refine nl ?_|refine sk ?_|refine xe ?_|refine xb ?_
    all_goals try (exfalso; omega)
    exact lp (k - 1, s') ⟨by dsimp only; omega, hI', hn', hst'⟩ (hf := by dsimp only; rw [show own TyO ak (Bo s'.ack) = own TyO ak (Bo σ.ack) by rw [e4], show own 3 snv (Is s'.sent) = own 3 snv (Is σ.sent) by rw [e3]]; first | apply Fit.all | ((repeat (first | (apply Fit.nilN; (repeat (first | apply nrm_nil | apply nrm_cons)); try apply nrm_rfl) | (apply Fit.cons; focus ((repeat (first | apply Tk.here | apply Tk.there)); first | done | fail)))); first | done | fail))
  · have hn' : s'.ack.length = nb := by rw [e4]; exact hn
    have hG := fun b => PGet_tr b B hlB hinB
    rw [hgB] at hG
    dsimp only at hG
    have hS := fun dv hd => Sends_tr κ ses 0 0 r dv pl hd
    rw [hsB] at hS
    repeat' first|(refine gca ?_; first|(refine ca (State_tr p s.ses s.bud s.tmo s.last s.sil s.st h.opn h.pts h.ack h.c) ?_; rintro _ _ ⟨rfl, rfl⟩)|(refine ca hT ?_; rintro _ _ ⟨o, os, rfl, ho, hos, rfl⟩; have hos1 : os.length = 1 := hos))|(refine ln (xs := os) ?_; rw [hos1])|(refine wo ?_; first|(refine ao ?_; first|refine oa ?_)|refine oa ?_|refine gy ?_)|(refine gc ?_; first|refine cf ?_|(refine ci (fun hB => ?_) (fun hB => ?_) <;> try (exfalso; omega)))|refine sq ?_|refine rg ?_|refine xc ?_|refine nl ?_|refine sk ?_|refine bk ?_
    all_goals try (exfalso; omega)
    refine TC.loop (ι := Nat × SP) (fun g => [(18, I g.1), (11, I g.2.last), (12, I g.2.bud)]) (fun g => [own 3 snv (Is g.2.sent)]) (fun g => (g.1 = 0 ∧ g.2 = s) ∨ (g.1 = 1 ∧ g.2 = s')) (fun g => 1 - g.1) (0, s) [1, 2, 4, 5, 6, 8, 9, 10, 13, 14, 15, 16] (.inl ⟨rfl, rfl⟩) ?_ (hf := by first | apply Fit.all | ((repeat (first | (apply Fit.nilN; (repeat (first | apply nrm_nil | apply nrm_cons)); try apply nrm_rfl) | (apply Fit.cons; focus ((repeat (first | apply Tk.here | apply Tk.there)); first | done | fail)))); first | done | fail))
    rintro ⟨j, σ⟩ hj
    dsimp only at hj ⊢
    rcases hj with ⟨rfl, rfl⟩ | ⟨rfl, rfl⟩
    · repeat' first|(refine gca ?_; first|(refine ca (hG (os.getD 0 nS)) ?_ (hp := has1 (has_elg (g := y8) (ls := [B]) (i := 0) (has_relg (by (repeat (first | apply List.Mem.head | apply List.Mem.tail)); first | done | fail)) (by simp)) has0); rintro _ _ ⟨dv1, rfl, hdv1, rfl⟩)|(refine ca (hS dv1 hdv1) ?_; rintro _ _ ⟨rfl, rfl⟩))|(refine ln (xs := os) ?_; rw [hos1])|refine al fun z => ?_|refine srz ?_|refine lda ?_|(refine wo ?_; first|(refine ao ?_; first|refine aw ?_|refine oa ?_)|refine oa ?_|refine ld ?_|refine lv ?_|refine ixn ?_|refine gy ?_|refine gn ?_|(refine gsi (fun hB => ?_) (fun hB => ?_) <;> try (exfalso; omega))|(refine gsn (fun hB => ?_) (fun hB => ?_) <;> try (exfalso; omega)))|(refine gc ?_; first|refine ct ?_|refine cf ?_|(refine ci (fun hB => ?_) (fun hB => ?_) <;> try (exfalso; omega)))|refine sq ?_|refine rg ?_|refine xc ?_|refine nl ?_|refine sk ?_|refine bk ?_|refine xb ?_
      all_goals try (exfalso; omega)
      all_goals exact lp (1, s') (.inr ⟨rfl, rfl⟩) (hf := by dsimp only; rw [show own 3 snv (Is s'.sent) = own 3 snv (Is σ.sent) by rw [e3]]; first | apply Fit.all | ((repeat (first | (apply Fit.nilN; (repeat (first | apply nrm_nil | apply nrm_cons)); try apply nrm_rfl) | (apply Fit.cons; focus ((repeat (first | apply Tk.here | apply Tk.there)); first | done | fail)))); first | done | fail))
    · repeat' first|(refine gca ?_; first|(refine ca (Left_tr p σ.ses σ.bud σ.tmo σ.last σ.sil σ.st h.opn h.pts h.ack h.c) ?_; rintro _ _ ⟨rfl, rfl⟩))|(refine ln (xs := os) ?_; rw [hos1])|(refine wo ?_; first|(refine ao ?_; first|refine aw ?_|refine oa ?_)|refine oa ?_|refine gy ?_|(refine gsi (fun hB => ?_) (fun hB => ?_) <;> try (exfalso; omega)))|(refine gc ?_; first|refine cf ?_|(refine cn (fun hB => ?_) (fun hB => ?_) <;> try (exfalso; omega)))|refine sq ?_|refine rg ?_|refine xc ?_|refine nl ?_|refine sk ?_|refine xe ?_|refine xb ?_
      all_goals try (exfalso; omega)
      exact lp (k - 1, σ) ⟨by dsimp only; omega, hI', hn', hst'⟩ (hf := by dsimp only; rw [show own TyO ak (Bo σ.ack) = own TyO ak (Bo s.ack) by rw [e4]]; first | apply Fit.all | ((repeat (first | (apply Fit.nilN; (repeat (first | apply nrm_nil | apply nrm_cons)); try apply nrm_rfl) | (apply Fit.cons; focus ((repeat (first | apply Tk.here | apply Tk.there)); first | done | fail)))); first | done | fail))
  · have hn' : s'.ack.length = nb := by rw [e4]; exact hn
    have hal := (turnO_lt hto).1
    have hG := fun b => PGet_tr b B hlB hinB
    rw [hgB] at hG
    dsimp only at hG
    have hS := fun dv hd => Sends_tr 1 ses a (s.sent.getD a 0) 0 dv (pktW m.t (m.syms d a) m.seed a (s.sent.getD a 0)).1 hd
    rw [hsB] at hS
    have hTu := fun pv hpv => hTurn a hto _ pv hpv (by rw [hnb]; omega) hnE rfl hid
    repeat' first|(refine gca ?_; first|(refine ca (State_tr p s.ses s.bud s.tmo s.last s.sil s.st h.opn h.pts h.ack h.c) ?_; rintro _ _ ⟨rfl, rfl⟩)|(refine ca hT ?_; rintro _ _ ⟨o, os, rfl, ho, hos, rfl⟩; have hos1 : os.length = 1 := hos))|(refine ln (xs := os) ?_; rw [hos1])|(refine wo ?_; first|(refine ao ?_; first|refine oa ?_)|refine oa ?_|refine gy ?_)|(refine gc ?_; first|refine cf ?_|(refine ci (fun hB => ?_) (fun hB => ?_) <;> try (exfalso; omega)))|refine sq ?_|refine rg ?_|refine xc ?_|refine nl ?_|refine sk ?_|refine bk ?_
    all_goals try (exfalso; omega)
    refine TC.loop (ι := Nat × SP) (fun g => [(18, I g.1), (11, I g.2.last), (12, I g.2.bud)]) (fun g => [own 3 snv (Is g.2.sent)]) (fun g => (g.1 = 0 ∧ g.2 = s) ∨ (g.1 = 1 ∧ g.2 = s')) (fun g => 1 - g.1) (0, s) [1, 2, 4, 5, 6, 8, 9, 10, 13, 14, 15, 16] (.inl ⟨rfl, rfl⟩) ?_ (hf := by first | apply Fit.all | ((repeat (first | (apply Fit.nilN; (repeat (first | apply nrm_nil | apply nrm_cons)); try apply nrm_rfl) | (apply Fit.cons; focus ((repeat (first | apply Tk.here | apply Tk.there)); first | done | fail)))); first | done | fail))
    rintro ⟨j, σ⟩ hj
    dsimp only at hj ⊢
    rcases hj with ⟨rfl, rfl⟩ | ⟨rfl, rfl⟩
    · repeat' first|(refine gca ?_; first|(refine ca (hG (os.getD 0 nS)) ?_ (hp := has1 (has_elg (g := y8) (ls := [B]) (i := 0) (has_relg (by (repeat (first | apply List.Mem.head | apply List.Mem.tail)); first | done | fail)) (by simp)) has0); rintro _ _ ⟨dv1, rfl, hdv1, rfl⟩)|(refine ca (hS dv1 hdv1) ?_; rintro _ _ ⟨rfl, rfl⟩)|(refine ca (hTu dv1 hdv1) ?_; rintro _ _ ⟨rfl, rfl⟩))|(refine ln (xs := os) ?_; rw [hos1])|refine al fun z => ?_|refine srz ?_|refine lda ?_|(refine wo ?_; first|(refine ao ?_; first|refine aw ?_|refine oa ?_)|refine oa ?_|refine ld ?_|refine lv ?_|refine ixn ?_|refine gy ?_|refine gn ?_|(refine gsi (fun hB => ?_) (fun hB => ?_) <;> try (exfalso; omega))|(refine gsn (fun hB => ?_) (fun hB => ?_) <;> try (exfalso; omega)))|(refine gc ?_; first|refine ct ?_|refine cf ?_)|refine sq ?_|refine rg ?_|refine xc ?_|refine nl ?_|refine sk ?_|refine bk ?_|refine xb ?_
      all_goals try (exfalso; omega)
      all_goals exact lp (1, s') (.inr ⟨rfl, rfl⟩) (hf := by dsimp only; rw [show own 3 snv (Is s'.sent) = own 3 snv (Is (σ.sent.set a (σ.sent.getD a 0 + 1))) by rw [e3]]; first | apply Fit.all | ((repeat (first | (apply Fit.nilN; (repeat (first | apply nrm_nil | apply nrm_cons)); try apply nrm_rfl) | (apply Fit.cons; focus ((repeat (first | apply Tk.here | apply Tk.there)); first | done | fail)))); first | done | fail))
    · repeat' first|(refine gca ?_; first|(refine ca (Left_tr p σ.ses σ.bud σ.tmo σ.last σ.sil σ.st h.opn h.pts h.ack h.c) ?_; rintro _ _ ⟨rfl, rfl⟩))|(refine ln (xs := os) ?_; rw [hos1])|(refine wo ?_; first|(refine ao ?_; first|refine aw ?_|refine oa ?_)|refine oa ?_|refine gy ?_|(refine gsi (fun hB => ?_) (fun hB => ?_) <;> try (exfalso; omega)))|(refine gc ?_; first|refine cf ?_|(refine cn (fun hB => ?_) (fun hB => ?_) <;> try (exfalso; omega)))|refine sq ?_|refine rg ?_|refine xc ?_|refine nl ?_|refine sk ?_|refine xe ?_|refine xb ?_
      all_goals try (exfalso; omega)
      exact lp (k - 1, σ) ⟨by dsimp only; omega, hI', hn', hst'⟩ (hf := by dsimp only; rw [show own TyO ak (Bo σ.ack) = own TyO ak (Bo s.ack) by rw [e4]]; first | apply Fit.all | ((repeat (first | (apply Fit.nilN; (repeat (first | apply nrm_nil | apply nrm_cons)); try apply nrm_rfl) | (apply Fit.cons; focus ((repeat (first | apply Tk.here | apply Tk.there)); first | done | fail)))); first | done | fail))
end Go.Art.Sn
set_option linter.unusedSimpArgs false
set_option linter.unusedVariables false
namespace Go.Art.Sn
open Go Go.Proofs Go.RowKit Go.Art
theorem SenderStays_law {w : World} {a l : Value} (ha : InAll w a) (hl : InActs w l) : Fn Tryz.prog 7 [a, l] w fun v w' => v = .bool true ∧ Ext w w' := by
  obtain ⟨m, tv, dv, d, ses, bud, tmo, rfl, o4, o5, s4, s5, hd, hsd, _, _⟩ := ha
  obtain ⟨ts, hs, ls, h1, h2, h3, h4, h5⟩ := hl
  exact (SenderStays_tr m tv dv d ses bud tmo l ts hs ls h1 o4 o5 hsd h4 h5).law (SatL.cons s4 (SatL.cons s5 (acts_sat h2 h3 (SatL.nil w)))).s
end Go.Art.Sn
set_option linter.unusedSimpArgs false
set_option linter.unusedVariables false
namespace Go.Art.Sn
open Go Go.Proofs Go.RowKit Go.Art
theorem SenderTurns_law {w : World} {a l : Value} (ha : InAll w a) (hl : InActs w l) : Fn Tryz.prog 6 [a, l] w fun v w' => v = .bool true ∧ Ext w w' := by
  obtain ⟨m, tv, dv, d, ses, bud, tmo, rfl, o4, o5, s4, s5, hd, hsd, _, _⟩ := ha
  obtain ⟨ts, hs, ls, h1, h2, h3, h4, h5⟩ := hl
  exact (SenderTurns_tr m tv dv d ses bud tmo l ts hs ls h1 o4 o5 hsd h4 h5).law (SatL.cons s4 (SatL.cons s5 (acts_sat h2 h3 (SatL.nil w)))).s
theorem SenderEnds_law {w : World} {a b : Value} {l : List Int} (ha : InAll w a) (hb : Sl w b (By l)) (hin : inB l) (h1 : b.oneCell' = true) : Fn Tryz.prog 3 [a, b] w fun v w' => v = .bool true ∧ Ext w w' := by
  obtain ⟨m, tv, dv, d, ses, bud, tmo, rfl, o4, o5, s4, s5, hd, hsd, _, _⟩ := ha
  exact (SenderEnds_tr m tv dv d ses bud tmo b l o4 o5 h1 hsd hin).law (SatL.cons s4 (SatL.cons s5 (SatL.cons hb (SatL.nil w)))).s
end Go.Art.Sn
