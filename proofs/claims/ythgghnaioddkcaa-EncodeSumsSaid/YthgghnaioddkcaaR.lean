/- Ranges over functions, over pieces of memory: the yield's contract, the round, the statement, the leaving with marks. Conditions: none. -/
import Derived.Test.YthgghnaioddkcaaV
set_option linter.unusedSimpArgs false
set_option linter.unusedVariables false
namespace Go.Art
open Go Go.RowKit

/-- A loop's record. -/
def lrc (l : Nat) (rec : Loop) (st : LoopState) (pend : Option Code) : Ch where
  wr := fun x => x = l
  rd := fun _ => False
  bd := fun _ => False
  P := fun w => RAt w l rec st pend
  loc := fun h hb => (hb l (.inl rfl)).trans h
  lt := fun h hb => by rcases hb with rfl | hb | hb; exact lt_of_heap h; exact hb.elim; exact hb.elim
/-- A list of deferred calls that is empty. -/
def dfr (D : Nat) : Ch where
  wr := fun x => x = D
  rd := fun _ => False
  bd := fun _ => False
  P := fun w => w.heap[D]? = some (.deferred (some []))
  loc := fun h hb => (hb D (.inl rfl)).trans h
  lt := fun h hb => by rcases hb with rfl | hb | hb; exact lt_of_heap h; exact hb.elim; exact hb.elim

instance (l : Nat) (rec : Loop) (st : LoopState) (pend : Option Code) : NoB (lrc l rec st pend) := ⟨fun _ h => h⟩
instance (D : Nat) : NoB (dfr D) := ⟨fun _ h => h⟩
def PRb (w0 : World) (A0 : List Ch) (R : Bool → List Ch → Prop) (b : Bool) (w' : World) : Prop := ∃ B, R b B ∧ Sat B w' ∧ Mv w0 A0 w' B ∧ ∀ c ∈ B, ∀ b, ¬ c.bd b
/-- The contract of a loop's yield. -/
structure Ty (P : Program) (l : Nat) (args : List Value) (pre A : List Ch) (R : Bool → List Ch → Prop) : Prop where
  run : ∀ w, Sat (pre ++ A) w → Yd P l args w (PRb w A R)
  lent : ∀ c ∈ pre, ∀ b, ¬ c.wr b ∧ ¬ c.rd b

theorem St.start {Q : Exit → Act → World → Prop} {pre A : List Ch} {w : World} (h : Sat (pre ++ A) w) (hp : ∀ c ∈ pre, ∀ b, ¬ c.wr b ∧ ¬ c.rd b) : St ⟨Q, w, A⟩ (pre ++ A) w := by
  refine ⟨h, rfl, rfl, rfl, Nat.le_refl _, fun _ _ _ => rfl, fun b hb => ?_, fun b hb => ?_⟩
  · rcases wrs_app.1 hb with ⟨c, hc, h1⟩ | h1
    · exact absurd h1 (hp c hc b).1
    · exact .inl h1
  · rcases rds_app.1 hb with ⟨c, hc, h1⟩ | h1
    · exact absurd h1 (hp c hc b).2
    · exact .inr (.inl h1)

section
variable {P : Program} {E : Env P} {n : Sh} {X : Cx} {s : List K} {fr : Fr} {A A' B F : List Ch} {ops : Array Oper} {rest : List Oper} {d : Nat} {ty : TypeId} {pos : String} {after : Array Edge}
  {l m : Nat} {rec : Loop} {body assign : Code} {pend : Option Code} {st : LoopState} {w0 : World} {A0 pre D G : List Ch} {R : Bool → List Ch → Prop} {RR : Bool → World → Prop} {id : Nat}

theorem Ty.at {vs : List Value} {w : World} (hf : Ty P l vs pre B R) (hs : Fit A B F) (hp : ∀ c ∈ pre, Has F c) (hw : St X A w) : Yd P l vs w fun b w' => ∃ D, R b D ∧ St X (D ++ F) w' := by
  have h1 := hw.im hs
  refine (hf.run w (lend h1.sat hp)).mono fun v w' ⟨D, hR, hS, hM, hB⟩ => ⟨D, hR, h1.step hM hS hB⟩
/-- A call of yield. -/
theorem cy {g : Operand} {args : List Operand} {ats : Array TypeId} {vs : List Value} (hy : Ty P l vs pre B R) (k : ∀ b D, R b D → TO E n X s ops rest ((d, .bool b) :: fr) (D ++ F)) (hg : ev fr g = some (yv l) := by rfl) (hv : evs fr args = some vs := by rfl)
    (hs : Fit A B F := by first | apply Fit.all | ((repeat (first | (apply Fit.nilN; (repeat (first | apply nrm_nil | apply nrm_cons)); try apply nrm_rfl) | (apply Fit.cons; focus ((repeat (first | apply Tk.here | apply Tk.there)); first | done | fail)))); first | done | fail)) (hp : ∀ c ∈ pre, Has F c := by (repeat (first | exact has0 | refine has1 (by first | (apply has_vw; (repeat (first | apply List.Mem.head | apply List.Mem.tail)); first | done | fail) | (apply has_own; (repeat (first | apply List.Mem.head | apply List.Mem.tail)); first | done | fail) | (apply has_ro; (repeat (first | apply List.Mem.head | apply List.Mem.tail)); first | done | fail) | apply has_nil | ((with_reducible apply has_el); (focus (first | (apply has_vels; (repeat (first | apply List.Mem.head | apply List.Mem.tail)); first | done | fail) | (apply has_rels; (repeat (first | apply List.Mem.head | apply List.Mem.tail)); first | done | fail))); omega) | (apply has_pt; (repeat (first | apply List.Mem.head | apply List.Mem.tail)); first | done | fail) | (apply has_lpt; (repeat (first | apply List.Mem.head | apply List.Mem.tail)); first | done | fail) | (apply has_vels; (repeat (first | apply List.Mem.head | apply List.Mem.tail)); first | done | fail) | (apply has_rels; (repeat (first | apply List.Mem.head | apply List.Mem.tail)); first | done | fail) | with_reducible assumption | ((with_reducible apply has_elg); (focus (first | (apply has_velg; (repeat (first | apply List.Mem.head | apply List.Mem.tail)); first | done | fail) | (apply has_relg; (repeat (first | apply List.Mem.head | apply List.Mem.tail)); first | done | fail))); omega) | (apply has_velg; (repeat (first | apply List.Mem.head | apply List.Mem.tail)); first | done | fail) | (apply has_relg; (repeat (first | apply List.Mem.head | apply List.Mem.tail)); first | done | fail)) ?_)); first | done | fail) (hd : Nat.blt d n.n = true := by rfl) : TO E n X s ops (⟨some d, .call ⟨.value g, args.toArray, ats⟩, ty, pos, after, none⟩ :: rest) fr A :=
  ⟨fun w hw => SO_yield hg hv hd (hy.at hs hp hw) fun b w' ⟨D, hR, hS⟩ => (k b D hR).run w' hS⟩
/-- The yield's contract, by its body. -/
theorem Ty.intro {ps : List Tmp} {vs : List Value} {Dm : Nat} (E : Env P) (hr : RecOk rec m fr ps assign body Dm) (hp : ∀ c ∈ pre, ∀ b, ¬ c.wr b ∧ ¬ c.rd b)
    (h : ∀ w0, TC E ⟨m, [], some l⟩ ⟨begQ P l body (RB (PRb w0 (lrc l rec .ready pend :: A) R)), w0, lrc l rec .ready pend :: A⟩ [] assign (parFr ps vs fr) (pre ++ lrc l rec .ready pend :: A)) (hlen : vs.length = ps.length := by rfl) (hps : ps.all (fun t => Nat.blt t m) = true := by rfl) :
    Ty P l vs pre (lrc l rec .ready pend :: A) R :=
  ⟨fun w hw => Yd.intro E hr (hw.h (lrc l rec .ready pend) (by simp)) hlen hps ((h w).run w (St.start hw hp)), hp⟩
theorem St.lrc {w w' : World} {st2 : LoopState} {pend2 : Option Code} (h : St X A w) (hm : Tk (lrc l rec st pend) A A') (hU : Upd w w' [l]) (hR : RAt w' l rec st2 pend2) : St X (lrc l rec st2 pend2 :: A') w' :=
  (h.im hm).set hU (fun b hb => .inl (by show b = l; simpa using hb)) hR (fun b hb => by rcases hb with h | h | h; exact .inl h; exact h.elim; exact h.elim) (fun _ h => h)
/-- The assignment is done. -/
theorem xbeg (k : TC E ⟨m, [], some l⟩ ⟨roundPost P l (RB RR), w0, A0⟩ [] body fr (lrc l rec .busy pend :: A')) (hm : Tk (lrc l rec .ready pend) A A' := by (repeat (first | apply Tk.here | apply Tk.there)); first | done | fail) : TX E ⟨m, [], some l⟩ ⟨begQ P l body (RB RR), w0, A0⟩ [] .normal fr A :=
  ⟨fun w hw => SX_beg ((hw.im hm).mem (List.Mem.head _)) fun w' hU hR => k.run w' ⟨(hw.lrc hm hU hR).sat, (hw.lrc hm hU hR).mv⟩⟩
theorem PRb.mk {Q : Exit → Act → World → Prop} {w : World} {b : Bool} (h : R b D) (hw : St ⟨Q, w0, A0⟩ A w) (hf : Fit A D G) (nb : ∀ c ∈ D, ∀ b, ¬ c.bd b) : PRb w0 A0 R b w := by
  have h1 := hw.im (Im.trans hf (Im.drop _ _))
  exact ⟨D, h, h1.sat, h1.mv, nb⟩
/-- The round's ends. -/
theorem yn (h : R true D) (hm : Tk (lrc l rec st pend) A A' := by (repeat (first | apply Tk.here | apply Tk.there)); first | done | fail) (hf : Fit (lrc l rec .ready none :: A') D G := by first | apply Fit.all | ((repeat (first | (apply Fit.nilN; (repeat (first | apply nrm_nil | apply nrm_cons)); try apply nrm_rfl) | (apply Fit.cons; focus ((repeat (first | apply Tk.here | apply Tk.there)); first | done | fail)))); first | done | fail)) (nb : ∀ c ∈ D, ∀ b, ¬ c.bd b := by (repeat (first | exact nb0 | refine nb1 ?_)); first | done | fail) :
    TX E ⟨m, [], some l⟩ ⟨roundPost P l (RB (PRb w0 A0 R)), w0, A0⟩ [] .normal fr A := ⟨fun w hw => SX_rend ((hw.im hm).mem (List.Mem.head _)) fun w' hU hR => PRb.mk h (hw.lrc hm hU hR) hf nb⟩
theorem ye (h : R false D) (hm : Tk (lrc l rec st pend) A A' := by (repeat (first | apply Tk.here | apply Tk.there)); first | done | fail) (hf : Fit (lrc l rec .done (some (.exit id)) :: A') D G := by first | apply Fit.all | ((repeat (first | (apply Fit.nilN; (repeat (first | apply nrm_nil | apply nrm_cons)); try apply nrm_rfl) | (apply Fit.cons; focus ((repeat (first | apply Tk.here | apply Tk.there)); first | done | fail)))); first | done | fail)) (nb : ∀ c ∈ D, ∀ b, ¬ c.bd b := by (repeat (first | exact nb0 | refine nb1 ?_)); first | done | fail) :
    TX E ⟨m, [], some l⟩ ⟨roundPost P l (RB (PRb w0 A0 R)), w0, A0⟩ [] (.exit id) fr A := ⟨fun w hw => SX_rexit ((hw.im hm).mem (List.Mem.head _)) fun w' hU hR => PRb.mk h (hw.lrc hm hU hR) hf nb⟩
theorem yr (h : R false D) (hm : Tk (lrc l rec st pend) A A' := by (repeat (first | apply Tk.here | apply Tk.there)); first | done | fail) (hf : Fit (lrc l rec .done (some .ret) :: A') D G := by first | apply Fit.all | ((repeat (first | (apply Fit.nilN; (repeat (first | apply nrm_nil | apply nrm_cons)); try apply nrm_rfl) | (apply Fit.cons; focus ((repeat (first | apply Tk.here | apply Tk.there)); first | done | fail)))); first | done | fail)) (nb : ∀ c ∈ D, ∀ b, ¬ c.bd b := by (repeat (first | exact nb0 | refine nb1 ?_)); first | done | fail) :
    TX E ⟨m, [], some l⟩ ⟨roundPost P l (RB (PRb w0 A0 R)), w0, A0⟩ [] .ret fr A := ⟨fun w hw => SX_rret ((hw.im hm).mem (List.Mem.head _)) fun w' hU hR => PRb.mk h (hw.lrc hm hU hR) hf nb⟩
/-- An exit that nothing here catches. -/
theorem xo (h : TX E n X [] (.exit id) fr A) (hp : popX id s = none := by rfl) : TC E n X s (.exit id) fr A := ⟨fun w hw => SC_eo hp (h.run w hw)⟩

/-! ### The statement -/
def afterT {P : Program} (E : Env P) (n : Sh) (X : Cx) (s : List K) (fr : Fr) (A : List Ch) : Option Code → Prop
  | none => TX E n X s .normal fr A
  | some c => TC E n X s c fr A
theorem TC.range {ds : List Deferred} {g : Operand} {f : FuncId} {cap : Array Value} {ps : List Tmp} (pre J : List Ch) (Aft : Nat → Loop → Nat → Option Code → List Ch → Prop)
    (hit : ∀ rec l Dm, RecOk rec m fr ps assign body Dm → Tr P f (yv l :: cap.toList) pre (lrc l rec .ready none :: dfr Dm :: J) fun _ B => ∃ st pend B', B = lrc l rec st pend :: B' ∧ st ≠ LoopState.busy ∧ Aft l rec Dm pend B')
    (aft : ∀ l rec Dm pend B', Aft l rec Dm pend B' → afterT E ⟨m, mark Dm :: ds, none⟩ X s fr (B' ++ F) pend) (hg : ev fr g = some (.func (.func f) #[] cap) := by rfl) (hs : Fit A J F := by first | apply Fit.all | ((repeat (first | (apply Fit.nilN; (repeat (first | apply nrm_nil | apply nrm_cons)); try apply nrm_rfl) | (apply Fit.cons; focus ((repeat (first | apply Tk.here | apply Tk.there)); first | done | fail)))); first | done | fail))
    (hp : ∀ c ∈ pre, Has F c := by (repeat (first | exact has0 | refine has1 (by first | (apply has_vw; (repeat (first | apply List.Mem.head | apply List.Mem.tail)); first | done | fail) | (apply has_own; (repeat (first | apply List.Mem.head | apply List.Mem.tail)); first | done | fail) | (apply has_ro; (repeat (first | apply List.Mem.head | apply List.Mem.tail)); first | done | fail) | apply has_nil | ((with_reducible apply has_el); (focus (first | (apply has_vels; (repeat (first | apply List.Mem.head | apply List.Mem.tail)); first | done | fail) | (apply has_rels; (repeat (first | apply List.Mem.head | apply List.Mem.tail)); first | done | fail))); omega) | (apply has_pt; (repeat (first | apply List.Mem.head | apply List.Mem.tail)); first | done | fail) | (apply has_lpt; (repeat (first | apply List.Mem.head | apply List.Mem.tail)); first | done | fail) | (apply has_vels; (repeat (first | apply List.Mem.head | apply List.Mem.tail)); first | done | fail) | (apply has_rels; (repeat (first | apply List.Mem.head | apply List.Mem.tail)); first | done | fail) | with_reducible assumption | ((with_reducible apply has_elg); (focus (first | (apply has_velg; (repeat (first | apply List.Mem.head | apply List.Mem.tail)); first | done | fail) | (apply has_relg; (repeat (first | apply List.Mem.head | apply List.Mem.tail)); first | done | fail))); omega) | (apply has_velg; (repeat (first | apply List.Mem.head | apply List.Mem.tail)); first | done | fail) | (apply has_relg; (repeat (first | apply List.Mem.head | apply List.Mem.tail)); first | done | fail)) ?_)); first | done | fail) : TC E ⟨m, ds, none⟩ X s (.rangeFunc g ps.toArray assign body) fr A := ⟨fun w hw => by
  refine SC_range hg fun rec w1 hr hE hz hD hl => ?_
  have h0 := hw.im hs
  have h1 := h0.ext (hE)
  have hzz : w.heap.size < w1.heap.size := by omega
  -- the two new blocks
  have h2 : St X (lrc (w.heap.size + 1) rec .ready none :: dfr w.heap.size :: (J ++ F)) w1 := by
    have hnew : ∀ b, fts [lrc (w.heap.size + 1) rec .ready none, dfr w.heap.size] b → w.heap.size ≤ b := by
      rintro b ⟨c, hc, hb⟩
      simp only [List.mem_cons, List.not_mem_nil, or_false] at hc
      rcases hc with rfl | rfl
      · rcases hb with hb | hb | hb
        · have : b = w.heap.size + 1 := hb; omega
        · exact hb.elim
        · exact hb.elim
      · rcases hb with hb | hb | hb
        · have : b = w.heap.size := hb; omega
        · exact hb.elim
        · exact hb.elim
    refine h0.step (A := []) (B := [lrc (w.heap.size + 1) rec .ready none, dfr w.heap.size]) (Mv.upd hE (by simp) (fun b hb => .inr (hnew b hb.ft)) (fun b hb => .inr (.inr (hnew b hb.ft)))) ?_ ?_
    · refine Sat.cons.2 ⟨hl, fun a ha => ?_, Sat.one hD⟩
      obtain rfl : a = dfr w.heap.size := by simpa using ha
      constructor
      · intro b hb hf
        have hb' : b = w.heap.size + 1 := hb
        rcases hf with hf | hf | hf
        · have : b = w.heap.size := hf; omega
        · exact hf.elim
        · exact hf.elim
      · intro b hb hf
        have hb' : b = w.heap.size := hb
        rcases hf with hf | hf | hf
        · have : b = w.heap.size + 1 := hf; omega
        · exact hf.elim
        · exact hf.elim
    · intro c hc b hb
      simp only [List.mem_cons, List.not_mem_nil, or_false] at hc
      rcases hc with rfl | rfl <;> exact hb
  refine ((hit rec (w.heap.size + 1) w.heap.size hr).at (F := F) (by exact Im.refl _) hp h2).mono fun v w3 ⟨D, ⟨st, pend, B', hB, hst, hA⟩, hS⟩ => ?_
  subst hB
  refine ⟨st, pend, hst, hS.mem (List.Mem.head _), fun w4 hU => ?_⟩
  have h4 : St X (B' ++ F) w4 := by
    have := hS.step (A := [lrc (w.heap.size + 1) rec st pend]) (B := []) (F := B' ++ F) (w' := w4) (Mv.upd hU (fun b hb => .inl (wrs_one.2 (List.mem_singleton.1 hb))) (fun b hb => absurd hb wrs_nil) (fun b hb => absurd hb rds_nil)) (Sat.nil _) (by simp)
    exact this
  have h5 := aft _ _ _ _ _ hA
  cases pend with
  | none => exact TX.run h5 w4 h4
  | some c => exact TC.run h5 w4 h4⟩

/-! ### Leaving with marks -/
variable {R' : Value → List Ch → Prop} {fn : Func} {t t2 : Nat} {v v1 v2 : Value} {Dm nn : Nat}
theorem PR.mkM {Q : Exit → Act → World → Prop} {w w' : World} (h : R' v D) (hw : St ⟨Q, w0, A0⟩ A w) (hm : Tk (dfr Dm) A A') (hf : Fit A' D G) (nb : ∀ c ∈ D, ∀ b, ¬ c.bd b) (hU : Upd w w' [Dm]) : PR w0 A0 R' v w' := by
  have h1 := hw.im hm
  have h2 : St ⟨Q, w0, A0⟩ A' w' := h1.step (A := [dfr Dm]) (B := []) (F := A') (Mv.upd hU (fun b hb => .inl (wrs_one.2 (List.mem_singleton.1 hb))) (fun b hb => absurd hb wrs_nil) (fun b hb => absurd hb rds_nil)) (Sat.nil _) (by simp)
  have h3 := h2.im (Im.trans hf (Im.drop _ _))
  exact ⟨D, h, h3.sat, h3.mv, nb⟩
theorem m1 (h : R' v D) (hr : fn.results = #[.tmp t] := by rfl) (hv : get fr t = some v := by rfl) (hm : Tk (dfr Dm) A A' := by (repeat (first | apply Tk.here | apply Tk.there)); first | done | fail) (hf : Fit A' D G := by first | apply Fit.all | ((repeat (first | (apply Fit.nilN; (repeat (first | apply nrm_nil | apply nrm_cons)); try apply nrm_rfl) | (apply Fit.cons; focus ((repeat (first | apply Tk.here | apply Tk.there)); first | done | fail)))); first | done | fail)) (nb : ∀ c ∈ D, ∀ b, ¬ c.bd b := by (repeat (first | exact nb0 | refine nb1 ?_)); first | done | fail) :
    TX E ⟨nn, [mark Dm], none⟩ ⟨bodyPostM (FF none) 0 P fn (RetP (PR w0 A0 R')), w0, A0⟩ [] .ret fr A := ⟨fun w hw =>
  SX_retM rfl ((hw.im hm).mem (List.Mem.head _)) fun a ha w' hU => ⟨v, res_t ha hr hv, PR.mkM h hw hm hf nb hU⟩⟩
theorem m2 (h : R' (.tuple #[v1, v2]) D) (hr : fn.results = #[.tmp t, .tmp t2] := by rfl) (hv : get fr t = some v1 := by rfl) (hv2 : get fr t2 = some v2 := by rfl) (hm : Tk (dfr Dm) A A' := by (repeat (first | apply Tk.here | apply Tk.there)); first | done | fail) (hf : Fit A' D G := by first | apply Fit.all | ((repeat (first | (apply Fit.nilN; (repeat (first | apply nrm_nil | apply nrm_cons)); try apply nrm_rfl) | (apply Fit.cons; focus ((repeat (first | apply Tk.here | apply Tk.there)); first | done | fail)))); first | done | fail)) (nb : ∀ c ∈ D, ∀ b, ¬ c.bd b := by (repeat (first | exact nb0 | refine nb1 ?_)); first | done | fail) :
    TX E ⟨nn, [mark Dm], none⟩ ⟨bodyPostM (FF none) 0 P fn (RetP (PR w0 A0 R')), w0, A0⟩ [] .ret fr A := ⟨fun w hw =>
  SX_retM rfl ((hw.im hm).mem (List.Mem.head _)) fun a ha w' hU => ⟨.tuple #[v1, v2], by rw [results_tmp2 hr a.tmps P w', ha.slot _ _ hv, ha.slot _ _ hv2], PR.mkM h hw hm hf nb hU⟩⟩
/-- .. without a mark. -/
theorem n1 (h : R' v D) (hr : fn.results = #[.tmp t] := by rfl) (hv : get fr t = some v := by rfl) (hf : Fit A D G := by first | apply Fit.all | ((repeat (first | (apply Fit.nilN; (repeat (first | apply nrm_nil | apply nrm_cons)); try apply nrm_rfl) | (apply Fit.cons; focus ((repeat (first | apply Tk.here | apply Tk.there)); first | done | fail)))); first | done | fail)) (nb : ∀ c ∈ D, ∀ b, ¬ c.bd b := by (repeat (first | exact nb0 | refine nb1 ?_)); first | done | fail) :
    TX E ⟨nn, [], none⟩ ⟨bodyPostM (FF none) 0 P fn (RetP (PR w0 A0 R')), w0, A0⟩ [] .ret fr A := ⟨fun w hw => SX_retM0 rfl fun a ha => ⟨v, res_t ha hr hv, by
  have h1 := hw.im (Im.trans hf (Im.drop _ _))
  exact ⟨D, h, h1.sat, h1.mv, nb⟩⟩⟩
theorem n2 (h : R' (.tuple #[v1, v2]) D) (hr : fn.results = #[.tmp t, .tmp t2] := by rfl) (hv : get fr t = some v1 := by rfl) (hv2 : get fr t2 = some v2 := by rfl) (hf : Fit A D G := by first | apply Fit.all | ((repeat (first | (apply Fit.nilN; (repeat (first | apply nrm_nil | apply nrm_cons)); try apply nrm_rfl) | (apply Fit.cons; focus ((repeat (first | apply Tk.here | apply Tk.there)); first | done | fail)))); first | done | fail)) (nb : ∀ c ∈ D, ∀ b, ¬ c.bd b := by (repeat (first | exact nb0 | refine nb1 ?_)); first | done | fail) :
    TX E ⟨nn, [], none⟩ ⟨bodyPostM (FF none) 0 P fn (RetP (PR w0 A0 R')), w0, A0⟩ [] .ret fr A := ⟨fun w hw => SX_retM0 rfl fun a ha => ⟨.tuple #[v1, v2], by rw [results_tmp2 hr a.tmps P w, ha.slot _ _ hv, ha.slot _ _ hv2], by
  have h1 := hw.im (Im.trans hf (Im.drop _ _))
  exact ⟨D, h, h1.sat, h1.mv, nb⟩⟩⟩
end
end Go.Art
