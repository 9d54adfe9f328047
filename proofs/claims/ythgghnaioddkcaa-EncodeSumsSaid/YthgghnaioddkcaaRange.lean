/- Ranges over functions: the call of yield, the round, the statement, the function's leaving. Conditions: none. -/
import Derived.Test.YthgghnaioddkcaaAuto
set_option linter.unusedSimpArgs false
set_option linter.unusedVariables false
namespace Go.Art
open Go Go.RowKit

abbrev yv (l : Nat) : Value := .func (.yield l) #[] #[]

section
variable {P : Program}
/-- In the world w the yield of loop l, called with these values, answers b and leaves a world, as R says. -/
structure Yd (P : Program) (l : Nat) (args : List Value) (w : World) (R : Bool → World → Prop) : Prop where
  run : ∃ rec : Loop, w.heap[l]? = some (.loop rec) ∧ args.length = rec.params.size ∧
    RoundIn (FF none) 0 P l rec.fn ((rec.params.zip args.toArray).foldl (fun tmps (t, a) => tmps.setIfInBounds t a) rec.tmps) rec.assign rec.body w fun e w' => ∃ b, e = .returned (.bool b) ∧ R b w'

theorem Yd.mono {l : Nat} {args : List Value} {w : World} {R R' : Bool → World → Prop} (h : Yd P l args w R) (hr : ∀ b w', R b w' → R' b w') : Yd P l args w R' := by
  obtain ⟨rec, h1, h2, h3⟩ := h.run
  exact ⟨rec, h1, h2, h3.mono fun e w' ⟨b, he, hR⟩ => ⟨b, he, hr _ _ hR⟩⟩
end

section
variable {P : Program} {E : Env P} {n : Sh} {Q0 : Exit → Act → World → Prop} {s : List K} {fr : Fr} {w : World} {ops : Array Oper} {rest : List Oper} {d : Nat} {ty : TypeId} {pos : String} {after : Array Edge} {v : Value} {o : Op}

theorem SO_yield {l : Nat} {g : Operand} {xs : List Operand} {ats : Array TypeId} {vs : List Value} {R : Bool → World → Prop} (hg : ev fr g = some (yv l)) (hv : evs fr xs = some vs) (hd : Nat.blt d n.n = true) (hy : Yd P l vs w R)
    (h : ∀ b w', R b w' → SO E n Q0 s ops rest ((d, .bool b) :: fr) w') :
    SO E n Q0 s ops (⟨some d, .call ⟨.value g, xs.toArray, ats⟩, ty, pos, after, none⟩ :: rest) fr w := ⟨fun a ha =>
  wpListIn_plain rfl fun K hK => ⟨fun _ _ => trivial, by
    obtain ⟨rec, h1, h2, h3⟩ := hy.run
    have hm : (Array.map a.eval xs.toArray) = vs.toArray := by simp [ha.evs hv]
    have hrun : (execOp a.eval ⟨some d, .call ⟨.value g, xs.toArray, ats⟩, ty, pos, after, none⟩).run P w =
        .ok (.round l rec.fn ((rec.params.zip vs.toArray).foldl (fun tmps (t, a) => tmps.setIfInBounds t a) rec.tmps) rec.assign rec.body) w := by
      simp only [execOp, resolve, hm, ha.ev hg]
      show (Sem.run P ((Deferred.ofValue (.func (.yield l) #[] #[]) vs.toArray).bind fun d => invoke d.target d.args) w) = _
      simp only [Deferred.ofValue]
      have := run_yield (P := P) (args := vs.toArray) h1 (by simpa using h2)
      simpa [Sem.bind, bind, pure, invoke] using this
    rw [semAt_run hrun (fun _ e => by cases e)]
    simp only [Oper.uponIn]
    refine ⟨fun e => (by cases e), ?_⟩
    refine RoundIn.mono (R := fun e w' => ∃ b, e = .returned (.bool b) ∧ R b w') h3 fun e w' ⟨b, he, hR⟩ => ?_
    subst he
    exact hK _ _ ((h b w' hR).run _ (ha.put hd _))⟩⟩

/-! ### A round -/
/-- What is known of a loop's record beside its state. -/
structure RecOk (rec : Loop) (n : Nat) (fr : Fr) (ps : List Tmp) (assign body : Code) (D : Nat) : Prop where
  params : rec.params = ps.toArray
  assign : rec.assign = assign
  body : rec.body = body
  defers : rec.defers = D
  tmps : ∃ a, rec.tmps = a.tmps ∧ Holds ⟨n, a.defers, none⟩ a fr

def RAt (w : World) (l : Nat) (rec : Loop) (st : LoopState) (pend : Option Code) : Prop := w.heap[l]? = some (.loop { rec with state := st, pending := pend })

def parFr : List Tmp → List Value → Fr → Fr
  | t :: ts, v :: vs, fr => parFr ts vs ((t, v) :: fr)
  | _, _, fr => fr
theorem par_holds {m : Nat} {ds : List Deferred} {r : Option Nat} : ∀ (ts : List Tmp) (vs : List Value) (a : Act) (fr : Fr), Holds ⟨m, ds, r⟩ a fr → ts.all (fun t => Nat.blt t m) = true →
    Holds ⟨m, ds, r⟩ ⟨(ts.zip vs).foldl (fun tmps (p : Tmp × Value) => tmps.setIfInBounds p.1 p.2) a.tmps, a.defers⟩ (parFr ts vs fr)
  | [], vs, a, fr, h, _ => by simpa [parFr] using h
  | t :: ts, [], a, fr, h, _ => by simpa [parFr] using h
  | t :: ts, v :: vs, a, fr, h, hb => by
    simp only [List.all_cons, Bool.and_eq_true] at hb
    have := h.put (d := t) hb.1 v
    exact par_holds ts vs _ _ this hb.2

/-- Between the assignment to the loop's left sides and the body. -/
def begQ (P : Program) (l : Nat) (body : Code) (R : Ending → World → Prop) : Exit → Act → World → Prop :=
  Exit.then (fun a₁ w₁ => ∃ w₂, (Instr.beginRound l).run P w₁ = .ok () w₂ ∧ body.wpIn (FF (some l)) 0 P (roundPost P l R) a₁ w₂) (fun _ _ _ => False)

abbrev RB (R : Bool → World → Prop) : Ending → World → Prop := fun e w' => ∃ b, e = .returned (.bool b) ∧ R b w'

theorem Yd.intro {l m D : Nat} {rec : Loop} {ps : List Tmp} {assign body : Code} {vs : List Value} {R : Bool → World → Prop} {pend : Option Code} {st : LoopState} (E : Env P) (hr : RecOk rec m fr ps assign body D) (hl : RAt w l rec st pend) (hlen : vs.length = ps.length)
    (hps : ps.all (fun t => Nat.blt t m) = true)
    (h : SC E ⟨m, [], some l⟩ (begQ P l body (RB R)) [] assign (parFr ps vs fr) w) : Yd P l vs w R := by
  obtain ⟨a, ht, ha⟩ := hr.tmps
  have ha' : Holds ⟨m, [], some l⟩ ⟨a.tmps, []⟩ fr := ⟨ha.size, rfl, ha.slot⟩
  have hp := par_holds ps vs ⟨a.tmps, []⟩ fr ha' hps
  refine ⟨⟨_, hl, by simp [hr.params, hlen], ?_⟩⟩
  refine roundIn_of_wpIn (F := FF none) (n := 0) trivial ?_
  have hz : ((rec.params.zip vs.toArray).foldl (fun tmps (p : Tmp × Value) => tmps.setIfInBounds p.1 p.2) rec.tmps) = (ps.zip vs).foldl (fun tmps (p : Tmp × Value) => tmps.setIfInBounds p.1 p.2) a.tmps := by
    rw [hr.params, ht, List.zip_toArray, List.foldl_toArray]
  have := h.run _ hp
  simp only [hr.assign, hr.body]
  show Code.wpIn (FF (some l)) 0 P assign _ ⟨(rec.params.zip vs.toArray).foldl (fun tmps (p : Tmp × Value) => tmps.setIfInBounds p.1 p.2) rec.tmps, []⟩ w
  rw [hz]
  exact this

theorem putObj_upd (w : World) (l : Nat) (o : Obj) : Upd w (w.putObj l o) [l] := ⟨rfl, rfl, rfl, by simp, fun k _ hn => World.putObj_heap_other (fun e => hn (by simp [e]))⟩

/-- The assignment is done: the round begins. -/
theorem SX_beg {l m : Nat} {rec : Loop} {body : Code} {R : Bool → World → Prop} {pend : Option Code} (hl : RAt w l rec .ready pend)
    (h : ∀ w', Upd w w' [l] → RAt w' l rec .busy pend → SC E ⟨m, [], some l⟩ (roundPost P l (RB R)) [] body fr w') : SX E ⟨m, [], some l⟩ (begQ P l body (RB R)) [] .normal fr w := ⟨fun a ha => by
  refine ⟨_, run_beginRound hl rfl, ?_⟩
  have hlt := lt_of_heap hl
  exact (h (w.putObj l (.loop { rec with state := .busy, pending := pend })) (putObj_upd w l _) (World.putObj_heap_same hlt)).run a ha⟩

/-- The round's end. -/
theorem SX_rend {l m : Nat} {rec : Loop} {R : Bool → World → Prop} {pend : Option Code} {st : LoopState} (hl : RAt w l rec st pend) (h : ∀ w', Upd w w' [l] → RAt w' l rec .ready none → R true w') :
    SX E ⟨m, [], some l⟩ (roundPost P l (RB R)) [] .normal fr w := ⟨fun a ha =>
  ⟨_, _, run_endRound none hl, true, rfl, h _ (putObj_upd w l _) (World.putObj_heap_same (lt_of_heap hl))⟩⟩
theorem SX_rexit {l m id : Nat} {rec : Loop} {R : Bool → World → Prop} {pend : Option Code} {st : LoopState} (hl : RAt w l rec st pend) (h : ∀ w', Upd w w' [l] → RAt w' l rec .done (some (.exit id)) → R false w') :
    SX E ⟨m, [], some l⟩ (roundPost P l (RB R)) [] (.exit id) fr w := ⟨fun a ha =>
  ⟨_, _, run_endRound (some (.exit id)) hl, false, rfl, h _ (putObj_upd w l _) (World.putObj_heap_same (lt_of_heap hl))⟩⟩
theorem SX_rret {l m : Nat} {rec : Loop} {R : Bool → World → Prop} {pend : Option Code} {st : LoopState} (hl : RAt w l rec st pend) (h : ∀ w', Upd w w' [l] → RAt w' l rec .done (some .ret) → R false w') :
    SX E ⟨m, [], some l⟩ (roundPost P l (RB R)) [] .ret fr w := ⟨fun a ha =>
  ⟨_, _, run_endRound (some .ret) hl, false, rfl, h _ (putObj_upd w l _) (World.putObj_heap_same (lt_of_heap hl))⟩⟩
/-- An exit that nothing here catches. -/
theorem SX_exit_out {id : Nat} : ∀ {s : List K}, popX id s = none → SX E n Q0 [] (.exit id) fr w → SX E n Q0 s (.exit id) fr w
  | [], _, h => h
  | .code _ :: s, hp, h => SX_code_exit (SX_exit_out (s := s) hp h)
  | .loop _ :: s, hp, h => SX_loop_exit (SX_exit_out (s := s) hp h)
  | .block i :: s, hp, h => by
    simp only [popX] at hp
    cases hb : Nat.beq id i with
    | true => rw [hb, cond_true] at hp; cases hp
    | false => rw [hb, cond_false] at hp; exact SX_block_miss hb (SX_exit_out hp h)
theorem SC_eo {id : Nat} (hp : popX id s = none) (h : SX E n Q0 [] (.exit id) fr w) : SC E n Q0 s (.exit id) fr w := SC_exit (SX_exit_out hp h)

/-! ### The statement -/
def mark (D : Nat) : Deferred := { target := .collected D, args := #[] }
/-- What the activation does behind the loop. -/
def afterR {P : Program} (E : Env P) (n : Sh) (Q0 : Exit → Act → World → Prop) (s : List K) (fr : Fr) (w : World) : Option Code → Prop
  | none => SX E n Q0 s .normal fr w
  | some c => SC E n Q0 s c fr w

theorem SC_range {m : Nat} {ds : List Deferred} {g : Operand} {f : FuncId} {cap : Array Value} {ps : List Tmp} {assign body : Code} (hg : ev fr g = some (.func (.func f) #[] cap))
    (h : ∀ (rec : Loop) (w1 : World), RecOk rec m fr ps assign body w.heap.size → Ext w w1 → w1.heap.size = w.heap.size + 2 → w1.heap[w.heap.size]? = some (.deferred (some [])) → RAt w1 (w.heap.size + 1) rec .ready none →
      Fn P f (yv (w.heap.size + 1) :: cap.toList) w1 fun _ w3 => ∃ st pend, st ≠ LoopState.busy ∧ RAt w3 (w.heap.size + 1) rec st pend ∧
        ∀ w4, Upd w3 w4 [w.heap.size + 1] → afterR E ⟨m, mark w.heap.size :: ds, none⟩ Q0 s fr w4 pend) :
    SC E ⟨m, ds, none⟩ Q0 s (.rangeFunc g ps.toArray assign body) fr w := ⟨fun a ha => by
  refine wpIn_rangeFunc fun fn _ => ?_
  obtain ⟨rec, hrec⟩ : ∃ rec : Loop, rec = { state := .ready, pending := none, fn, tmps := a.tmps, params := ps.toArray, assign, body, defers := w.heap.size } := ⟨_, rfl⟩
  obtain ⟨w1, hw1⟩ : ∃ w1, w1 = (w.alloc (.deferred (some []))).alloc (.loop rec) := ⟨_, rfl⟩
  have hfn := h rec w1 (by subst hrec; exact ⟨rfl, rfl, rfl, rfl, a, rfl, ha.size, rfl, ha.slot⟩) (by subst hw1; exact Ext.trans (Upd.alloc w _) (Upd.alloc _ _)) (by subst hw1; simp) (by subst hw1; exact heap_alloc2_old w _ _) (by subst hw1; subst hrec; exact heap_alloc2_new w _ _)
  have hcf := run_callFunc_fn hfn.can (yv (w.heap.size + 1) :: cap.toList).toArray w1
  refine ⟨w.heap.size + 1, [mark w.heap.size], w1, { target := .fn (.func f) cap, args := #[yv (w.heap.size + 1)] }, w1, f, (yv (w.heap.size + 1) :: cap.toList).toArray, w1, ?_, ?_, fun _ _ => trivial, ?_, fun e => (by cases e), ?_⟩
  · subst hw1; subst hrec; exact run_enterLoop_outer fn a.tmps ps.toArray assign body
  · simp only [resolve, rangeCall, ha.ev hg]
    simp [Deferred.ofValue, Act.eval]
  · have e1 : #[yv (w.heap.size + 1)] ++ cap = (yv (w.heap.size + 1) :: cap.toList).toArray := by apply Array.ext'; simp
    simp only [invoke, e1]
    exact hcf
  · refine callsFF (hfn.calls.mono fun e w3 ⟨v, he, st, pend, hst, hR, hk⟩ => ?_)
    subst he
    refine ⟨pend, w3.putObj (w.heap.size + 1) (.loop { rec with state := .exhausted, pending := pend }), run_endLoop hR hst, ?_⟩
    have hh := hk _ (putObj_upd w3 (w.heap.size + 1) (.loop { rec with state := .exhausted, pending := pend }))
    have ha' : Holds ⟨m, mark w.heap.size :: ds, none⟩ { a with defers := [mark w.heap.size] ++ a.defers } fr := ⟨ha.size, by show [mark w.heap.size] ++ a.defers = _; rw [ha.defers]; rfl, ha.slot⟩
    cases pend with
    | none => exact hh.run _ ha'
    | some c => exact hh.run _ ha'⟩

/-! ### Leaving with marks -/
theorem Fn.enterM {f : FuncId} {fn : Func} {c : Code} {args : List Value} {R : Value → World → Prop} (E : Env P) (n : Nat) (hf : P.funcs[f]? = some fn) (hnm : (fn.name == "runtime.NumGoroutine") = false) (hb : fn.body = some c)
    (hn : fn.ntmps = n) (hl : Nat.ble args.length n = true) (h : SC E ⟨n, [], none⟩ (bodyPostM (FF none) 0 P fn (RetP R)) [] c (argFr args 0) w) : Fn P f args w R := by
  refine ⟨⟨fn, hf, hnm, by simp [hb]⟩, calls_of_FF (r := none) (k := 0) (callsIn_of_wp_marks hf hb trivial ?_)⟩
  subst hn
  have hl' : args.length ≤ fn.ntmps := Nat.le_of_ble_eq_true hl
  exact h.run _ ⟨by simp; omega, rfl, argFr_slot args fn.ntmps⟩

variable {R : Value → World → Prop} {fn : Func}
theorem leaves_nil {tmps : Array Value} (hr : (results fn tmps).run P w = .ok v w) (h : R v w) : LeavesInM (FF none) 0 P fn tmps (RetP R) [] .returning w := by
  unfold LeavesInM LeavesIn
  exact ⟨v, hr, v, rfl, h⟩
theorem leaves_mark {tmps : Array Value} {ds : List Deferred} {D : Nat} (hD : w.heap[D]? = some (.deferred (some []))) (h : ∀ w', Upd w w' [D] → LeavesInM (FF none) 0 P fn tmps (RetP R) ds .returning w') :
    LeavesInM (FF none) 0 P fn tmps (RetP R) (mark D :: ds) .returning w := by
  unfold LeavesInM
  exact ⟨by simp, .inl ⟨D, _, rfl, run_takeDeferred hD, h _ (putObj_upd w D _)⟩⟩
theorem SX_retM {D : Nat} (hds : n.ds = [mark D]) (hD : w.heap[D]? = some (.deferred (some []))) (h : ∀ a, Holds n a fr → ∀ w', Upd w w' [D] → ∃ v, (results fn a.tmps).run P w' = .ok v w' ∧ R v w') :
    SX E n (bodyPostM (FF none) 0 P fn (RetP R)) [] .ret fr w := ⟨fun a ha => by
  show LeavesInM (FF none) 0 P fn a.tmps (RetP R) a.defers .returning w
  rw [ha.defers, hds]
  refine leaves_mark hD fun w' hU => ?_
  obtain ⟨v, hr, hR⟩ := h a ha w' hU
  exact leaves_nil hr hR⟩
/-- Leaving without a mark. -/
theorem SX_retM0 (hds : n.ds = []) (h : ∀ a, Holds n a fr → ∃ v, (results fn a.tmps).run P w = .ok v w ∧ R v w) : SX E n (bodyPostM (FF none) 0 P fn (RetP R)) [] .ret fr w := ⟨fun a ha => by
  show LeavesInM (FF none) 0 P fn a.tmps (RetP R) a.defers .returning w
  rw [ha.defers, hds]
  obtain ⟨v, hr, hR⟩ := h a ha
  exact leaves_nil hr hR⟩
theorem res_ct {a : Act} (ha : Holds n a fr) {t u : Nat} {ty : TypeId} {d : TypeDesc} {ad : Addr} {v1 v2 : Value} (hr : fn.results = #[.cell t ty, .tmp u]) (ht : lk E.und ty = some d) (hd : aggB d = false) (h1 : get fr t = some (.pointer (some ad))) (hc : w.cell? ad = some v1) (h2 : get fr u = some v2) :
    (results fn a.tmps).run P w = .ok (.tuple #[v1, v2]) w := by
  have e1 : a.tmps[t]?.getD undef = .pointer (some ad) := by have := ha.slot t _ h1; simpa using this
  have e2 : a.tmps[u]?.getD undef = v2 := by have := ha.slot u _ h2; simpa using this
  simp only [results, hr]
  simp [e1, e2, asAddr, loadVar, aggB_run (w := w) ht hd, hc]
theorem res_t {a : Act} (ha : Holds n a fr) {t : Nat} {v1 : Value} (hr : fn.results = #[.tmp t]) (h1 : get fr t = some v1) : (results fn a.tmps).run P w = .ok v1 w := by
  rw [results_tmp hr a.tmps P w, ha.slot t _ h1]
theorem res_c {a : Act} (ha : Holds n a fr) {t : Nat} {ty : TypeId} {d : TypeDesc} {ad : Addr} {v1 : Value} (hr : fn.results = #[.cell t ty]) (ht : lk E.und ty = some d) (hd : aggB d = false) (h1 : get fr t = some (.pointer (some ad))) (hc : w.cell? ad = some v1) :
    (results fn a.tmps).run P w = .ok v1 w := by
  have e1 : a.tmps[t]?.getD undef = .pointer (some ad) := by have := ha.slot t _ h1; simpa using this
  simp only [results, hr]
  simp [e1, asAddr, loadVar, aggB_run (w := w) ht hd, hc]
end
end Go.Art
