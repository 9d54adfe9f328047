/- The judgements over pieces of memory: code, exits, operations, drawn regions; contracts; loops; calls; returns. Conditions: none. -/
import Derived.Test.YthgghnaioddkcaaT
import Derived.Test.YthgghnaioddkcaaRange
set_option linter.unusedSimpArgs false
set_option linter.unusedVariables false
namespace Go.Art
open Go Go.RowKit

/-- Where a walk stands: what is wanted, and the world and the pieces that it began with. -/
structure Cx where
  Q : Exit → Act → World → Prop
  w0 : World
  A0 : List Ch
structure St (X : Cx) (A : List Ch) (w : World) : Prop where
  sat : Sat A w
  mv : Mv X.w0 X.A0 w A
theorem St.im {X : Cx} {A B : List Ch} {w : World} (h : St X A w) (i : Im A B) : St X B w :=
  ⟨i.sat w h.sat, h.mv.trans ⟨rfl, rfl, rfl, Nat.le_refl _, fun _ _ _ => rfl, fun b hb => .inl (i.wr b hb), fun b hb => by rcases i.rd b hb with h1 | h1; exact .inl h1; exact .inr (.inl h1)⟩⟩
theorem St.step {X : Cx} {A B F : List Ch} {w w' : World} (h : St X (A ++ F) w) (m : Mv w A w' B) (hb : Sat B w') (nb : ∀ c ∈ B, ∀ b, ¬ c.bd b) : St X (B ++ F) w' :=
  ⟨(m.frame h.sat hb nb).1, h.mv.trans (m.frame h.sat hb nb).2⟩
theorem St.ext {X : Cx} {A : List Ch} {w w' : World} (h : St X A w) (u : Ext w w') : St X A w' := h.step (A := []) (B := []) (Mv.of_ext u []) (Sat.nil _) (by simp)
theorem St.has {X : Cx} {A : List Ch} {w : World} {c : Ch} (h : St X A w) (hc : Has A c) : c.P w := hc.P w h.sat
theorem St.mem {X : Cx} {A : List Ch} {w : World} {c : Ch} (h : St X A w) (hc : c ∈ A) : c.P w := h.sat.h c hc
/-- A new piece. -/
theorem St.new {X : Cx} {A : List Ch} {w w' : World} {c : Ch} (h : St X A w) (u : Ext w w') (hc : c.P w') (h1 : ∀ b, c.ft b → w.heap.size ≤ b) (h2 : ∀ b, ¬ c.bd b) : St X (c :: A) w' :=
  h.step (A := []) (B := [c]) (Mv.upd u (by simp) (fun b hb => .inr (h1 b (.inl (wrs_one.1 hb)))) (fun b hb => .inr (.inr (h1 b (.inr (.inl (rds_one.1 hb))))))) (Sat.one hc) (by simpa using h2)
/-- A piece is changed in place. -/
theorem St.set {X : Cx} {A : List Ch} {w w' : World} {c d : Ch} {S : List Nat} (h : St X (c :: A) w) (u : Upd w w' S) (hS : ∀ b ∈ S, c.wr b ∨ w.heap.size ≤ b) (hd : d.P w') (h1 : ∀ b, d.ft b → c.wr b ∨ w.heap.size ≤ b) (h2 : ∀ b, ¬ d.bd b) : St X (d :: A) w' :=
  h.step (A := [c]) (B := [d]) (Mv.upd u (fun b hb => by rcases hS b hb with h | h; exact .inl (wrs_one.2 h); exact .inr h)
    (fun b hb => by rcases h1 b (.inl (wrs_one.1 hb)) with h | h; exact .inl (wrs_one.2 h); exact .inr h)
    (fun b hb => by rcases h1 b (.inr (.inl (rds_one.1 hb))) with h | h; exact .inl (wrs_one.2 h); exact .inr (.inr h))) (Sat.one hd) (by simpa using h2)

section
structure TC {P : Program} (E : Env P) (n : Sh) (X : Cx) (s : List K) (c : Code) (fr : Fr) (A : List Ch) : Prop where
  run : ∀ w, St X A w → SC E n X.Q s c fr w
structure TX {P : Program} (E : Env P) (n : Sh) (X : Cx) (s : List K) (e : Exit) (fr : Fr) (A : List Ch) : Prop where
  run : ∀ w, St X A w → SX E n X.Q s e fr w
structure TO {P : Program} (E : Env P) (n : Sh) (X : Cx) (s : List K) (ops : Array Oper) (l : List Oper) (fr : Fr) (A : List Ch) : Prop where
  run : ∀ w, St X A w → SO E n X.Q s ops l fr w
structure TQ {P : Program} (E : Env P) (n : Sh) (X : Cx) (s : List K) (ops : Array Oper) (l : List Oper) (fr : Fr) (A : List Ch) : Prop where
  run : SQ E n X.Q s (St X A) ops l fr
structure TA {P : Program} (E : Env P) (n : Sh) (X : Cx) (s : List K) (ops : Array Oper) (fuel : Nat) (listed : Array Bool) (fr : Fr) (A : List Ch) : Prop where
  run : ∀ w, St X A w → SA E n (NP P n.r X.Q s) ops fuel listed fr w

/-- What is asked of the end. -/
def PR (w0 : World) (A0 : List Ch) (R : Value → List Ch → Prop) (v : Value) (w' : World) : Prop := ∃ B, R v B ∧ Sat B w' ∧ Mv w0 A0 w' B ∧ ∀ c ∈ B, ∀ b, ¬ c.bd b
/-- The contract of a function: pre is lent to it, A is given, R tells what it hands back. -/
structure Tr (P : Program) (f : FuncId) (args : List Value) (pre A : List Ch) (R : Value → List Ch → Prop) : Prop where
  run : ∀ w, Sat (pre ++ A) w → Fn P f args w (PR w A R)
  lent : ∀ c ∈ pre, ∀ b, ¬ c.wr b ∧ ¬ c.rd b
end

section
variable {P : Program} {E : Env P} {n : Sh} {X : Cx} {s : List K} {fr : Fr} {A A' B F : List Ch} {ops : Array Oper} {rest l : List Oper} {d : Nat} {o : Op} {ty : TypeId} {pos : String} {after : Array Edge} {v u : Value} {c0 : Code} {e : Exit}

theorem Tr.mono {f : FuncId} {args : List Value} {pre A : List Ch} {R R' : Value → List Ch → Prop} (h : Tr P f args pre A R) (hr : ∀ v B, R v B → R' v B) : Tr P f args pre A R' :=
  ⟨fun w hw => (h.run w hw).mono fun v w' ⟨B, h1, h2⟩ => ⟨B, hr v B h1, h2⟩, h.lent⟩
theorem Tr.enter {f : FuncId} {fn : Func} {c : Code} {args : List Value} {pre A : List Ch} {R : Value → List Ch → Prop} (E : Env P) (n : Nat) (hf : P.funcs[f]? = some fn) (hnm : (fn.name == "runtime.NumGoroutine") = false) (hb : fn.body = some c)
    (hn : fn.ntmps = n) (hl : Nat.ble args.length n = true) (hp : ∀ c ∈ pre, ∀ b, ¬ c.wr b ∧ ¬ c.rd b) (h : ∀ w0, TC E ⟨n, [], none⟩ ⟨bodyPost P fn (RetP (PR w0 A R)), w0, A⟩ [] c (argFr args 0) (pre ++ A)) : Tr P f args pre A R := by
  refine ⟨fun w hw => Fn.enter E n hf hnm hb hn hl ((h w).run w ⟨hw, Mv.refl w A |>.trans ⟨rfl, rfl, rfl, Nat.le_refl _, fun _ _ _ => rfl, fun b hb => ?_, fun b hb => ?_⟩⟩), hp⟩
  · rcases wrs_app.1 hb with ⟨c, hc, h1⟩ | h1
    · exact absurd h1 (hp c hc b).1
    · exact .inl h1
  · rcases rds_app.1 hb with ⟨c, hc, h1⟩ | h1
    · exact absurd h1 (hp c hc b).2
    · exact .inr (.inl h1)
theorem Tr.enterM {f : FuncId} {fn : Func} {c : Code} {args : List Value} {pre A : List Ch} {R : Value → List Ch → Prop} (E : Env P) (n : Nat) (hf : P.funcs[f]? = some fn) (hnm : (fn.name == "runtime.NumGoroutine") = false) (hb : fn.body = some c)
    (hn : fn.ntmps = n) (hl : Nat.ble args.length n = true) (hp : ∀ c ∈ pre, ∀ b, ¬ c.wr b ∧ ¬ c.rd b) (h : ∀ w0, TC E ⟨n, [], none⟩ ⟨bodyPostM (FF none) 0 P fn (RetP (PR w0 A R)), w0, A⟩ [] c (argFr args 0) (pre ++ A)) : Tr P f args pre A R := by
  refine ⟨fun w hw => Fn.enterM E n hf hnm hb hn hl ((h w).run w ⟨hw, Mv.refl w A |>.trans ⟨rfl, rfl, rfl, Nat.le_refl _, fun _ _ _ => rfl, fun b hb => ?_, fun b hb => ?_⟩⟩), hp⟩
  · rcases wrs_app.1 hb with ⟨c, hc, h1⟩ | h1
    · exact absurd h1 (hp c hc b).1
    · exact .inl h1
  · rcases rds_app.1 hb with ⟨c, hc, h1⟩ | h1
    · exact absurd h1 (hp c hc b).2
    · exact .inr (.inl h1)

/-! ### Control -/
theorem sq {a b : Code} (h : TC E n X (.code b :: s) a fr A) : TC E n X s (.seq a b) fr A := ⟨fun w hw => SC_seq (h.run w hw)⟩
theorem sk (h : TX E n X s .normal fr A) : TC E n X s .skip fr A := ⟨fun w hw => SC_skip (h.run w hw)⟩
theorem bk {id : Nat} (h : TC E n X (.block id :: s) c0 fr A) : TC E n X s (.block id c0) fr A := ⟨fun w hw => SC_block (h.run w hw)⟩
theorem rg {id : Nat} (h : TO E n X s l.toArray l fr A) : TC E n X s (.region id l.toArray false) fr A := ⟨fun w hw => SC_region (h.run w hw)⟩
theorem rq {id : Nat} (h : TQ E n X s l.toArray l fr A) (hB : Region.lexB .any l.toArray = true := by kernel_rfl) : TC E n X s (.region id l.toArray true) fr A :=
  ⟨fun w hw => SC_regionQ (St X A) hB (hw.ext (Upd.draw w)) h.run⟩
theorem ra {id : Nat} (h : TA E n X s l.toArray l.length (Array.replicate l.length false) fr A) : TC E n X s (.region id l.toArray true) fr A :=
  ⟨fun w hw => SC_regionA (h.run _ (hw.ext (Upd.draw w)))⟩
theorem nl (h : TX E n X s .normal fr A) : TO E n X s ops [] fr A := ⟨fun w hw => SO_nil (h.run w hw)⟩
theorem nq (h : TX E n X s .normal fr A) : TQ E n X s ops [] fr A := ⟨SQ_nil fun w hw => h.run w hw⟩
theorem xc {y : Code} (h : TC E n X s y fr A) : TX E n X (.code y :: s) .normal fr A := ⟨fun w hw => SX_code (h.run w hw)⟩
theorem xb {id : Nat} (h : TX E n X s .normal fr A) : TX E n X (.block id :: s) .normal fr A := ⟨fun w hw => SX_block (h.run w hw)⟩
theorem xe {id : Nat} {s' : List K} (k : TX E n X s' .normal fr A) (h : popX id s = some s' := by rfl) : TC E n X s (.exit id) fr A := ⟨fun w hw => SC_e h (k.run w hw)⟩
theorem rt (h : TX E n X [] .ret fr A) : TC E n X s .ret fr A := ⟨fun w hw => SC_r (h.run w hw)⟩
theorem ct {c : Operand} {x y : Code} (h : TC E n X s x fr A) (hc : ev fr c = some (.bool true) := by rfl) : TC E n X s (.cond c x y) fr A := ⟨fun w hw => SC_cond_t hc (h.run w hw)⟩
theorem cf {c : Operand} {x y : Code} (h : TC E n X s y fr A) (hc : ev fr c = some (.bool false) := by rfl) : TC E n X s (.cond c x y) fr A := ⟨fun w hw => SC_cond_f hc (h.run w hw)⟩
theorem cb {c : Operand} {x y : Code} {t : Bool} (h1 : t = true → TC E n X s x fr A) (h2 : t = false → TC E n X s y fr A) (hc : ev fr c = some (.bool t) := by rfl) : TC E n X s (.cond c x y) fr A :=
  ⟨fun w hw => SC_cond hc (fun h => (h1 h).run w hw) fun h => (h2 h).run w hw⟩
theorem ci {c : Operand} {x y : Code} {p : Prop} [Decidable p] (h1 : p → TC E n X s x fr A) (h2 : ¬ p → TC E n X s y fr A) (hc : ev fr c = some (.bool (decide p)) := by rfl) : TC E n X s (.cond c x y) fr A :=
  cb (fun h => h1 (of_decide_eq_true h)) (fun h => h2 (of_decide_eq_false h)) hc
theorem cn {c : Operand} {x y : Code} {p : Prop} [Decidable p] (h1 : ¬ p → TC E n X s x fr A) (h2 : p → TC E n X s y fr A) (hc : ev fr c = some (.bool (!decide p)) := by rfl) : TC E n X s (.cond c x y) fr A :=
  cb (fun h => h1 (by simpa using h)) (fun h => h2 (by simpa using h)) hc
theorem gc {c : Operand} {a b : Code} (h : TC E n X s (.cond c a b) fr A) : TC E n X s (.cond c a b) fr A := h
theorem TC.im (i : Im A B) (h : TC E n X s c0 fr B) : TC E n X s c0 fr A := ⟨fun w hw => h.run w (hw.im i)⟩
theorem TX.im (i : Im A B) (h : TX E n X s e fr B) : TX E n X s e fr A := ⟨fun w hw => h.run w (hw.im i)⟩
theorem TO.im (i : Im A B) (h : TO E n X s ops l fr B) : TO E n X s ops l fr A := ⟨fun w hw => h.run w (hw.im i)⟩
/-- A fact that the pieces bear. -/
theorem TC.fact {p : Prop} (hp : ∀ w, Sat A w → p) (h : p → TC E n X s c0 fr A) : TC E n X s c0 fr A := ⟨fun w hw => (h (hp w hw.sat)).run w hw⟩
theorem TO.fact {p : Prop} (hp : ∀ w, Sat A w → p) (h : p → TO E n X s ops l fr A) : TO E n X s ops l fr A := ⟨fun w hw => (h (hp w hw.sat)).run w hw⟩
theorem TX.fact {p : Prop} (hp : ∀ w, Sat A w → p) (h : p → TX E n X s e fr A) : TX E n X s e fr A := ⟨fun w hw => (h (hp w hw.sat)).run w hw⟩

/-! ### Loops -/
/-- Slots that stay. -/
def pickK : List Nat → Fr → (Fr → Prop) → Prop
  | [], _, k => k []
  | t :: ts, fr, k => match get fr t with
    | some v => pickK ts fr fun r => k ((t, v) :: r)
    | none => pickK ts fr k
theorem pickK_sub : ∀ {ts : List Nat} {fr : Fr} {k : Fr → Prop}, pickK ts fr k → ∃ fr', Sub fr' fr ∧ k fr'
  | [], _, _, h => ⟨[], Sub.nil, h⟩
  | t :: ts, fr, k, h => by
    simp only [pickK] at h
    split at h
    · rename_i v hv
      obtain ⟨fr', h1, h2⟩ := pickK_sub h
      exact ⟨_, Sub.cons hv rfl h1, h2⟩
    · exact pickK_sub h
theorem Sub.app : ∀ {a b fr : Fr}, Sub a fr → Sub b fr → Sub (a ++ b) fr
  | [], _, _, _, hb => hb
  | (t, v) :: a, b, fr, ha, hb => by
    intro x u hx
    simp only [List.cons_append, get] at hx
    by_cases htx : t = x
    · subst htx
      refine ha t u ?_
      simpa [get] using hx
    · have e : (Nat.beq t x) = false := nbeq_f htx
      simp only [e, cond_false] at hx
      have hsub : Sub (a ++ b) fr ∨ True := .inr trivial
      by_cases hax : get a x = none
      · have hab : ∀ (a : Fr), get a x = none → get (a ++ b) x = get b x := by
          intro a
          induction a with
          | nil => intro _; rfl
          | cons p r ih =>
            intro hp
            obtain ⟨pt, pv⟩ := p
            simp only [get] at hp
            cases hb : Nat.beq pt x with
            | true => rw [hb] at hp; cases hp
            | false => rw [hb, cond_false] at hp; simp only [List.cons_append, get, hb, cond_false]; exact ih hp
        rw [hab a hax] at hx
        exact hb x u hx
      · obtain ⟨z, hz⟩ : ∃ z, get a x = some z := by
          cases hg : get a x with
          | none => exact absurd hg hax
          | some z => exact ⟨z, rfl⟩
        have hab : ∀ (a : Fr), get a x = some z → get (a ++ b) x = some z := by
          intro a
          induction a with
          | nil => intro h; cases h
          | cons p r ih =>
            intro hp
            obtain ⟨pt, pv⟩ := p
            simp only [get] at hp
            cases hb : Nat.beq pt x with
            | true => rw [hb] at hp; simp only [List.cons_append, get, hb]; exact hp
            | false => rw [hb, cond_false] at hp; simp only [List.cons_append, get, hb, cond_false]; exact ih hp
        rw [hab a hz] at hx
        cases hx
        refine ha x _ ?_
        simp only [get, e, cond_false]; exact hz
def LoopT (n : Sh) (X : Cx) {ι : Type} (inv : ι → Fr) (J : ι → List Ch) (I : ι → Prop) (μ : ι → Nat) (i : ι) (a : Act) (w : World) : Prop :=
  ∃ i', I i' ∧ Holds n a (inv i') ∧ St X (J i') w ∧ μ i' < μ i
theorem SC.weakK {w : World} : SC E n X.Q s c0 fr w → SC E n X.Q s c0 fr w := id
/-- A loop: at its head stand the slots inv and the pieces J, at some ghost i for which I; slots 'keep' and pieces F stay as they are. -/
theorem TC.loop {ι : Type} (inv : ι → Fr) (J : ι → List Ch) (I : ι → Prop) (μ : ι → Nat) (i0 : ι) (keep : List Nat) (h0 : I i0)
    (round : pickK keep fr fun kp => ∀ i, I i → TC E n X (.loop (LoopT n X (fun i => inv i ++ kp) (fun i => J i ++ F) I μ i) :: s) c0 (inv i ++ kp) (J i ++ F)) (hs : Sub (inv i0) fr := by (repeat (refine Sub.cons rfl (by first | rfl | go_num) ?_)); exact Sub.nil) (hf : Fit A (J i0) F := by first | apply Fit.all | ((repeat (first | (apply Fit.nilN; (repeat (first | apply nrm_nil | apply nrm_cons)); try apply nrm_rfl) | (apply Fit.cons; focus ((repeat (first | apply Tk.here | apply Tk.there)); first | done | fail)))); first | done | fail)) : TC E n X s (.loop c0) fr A := by
  obtain ⟨kp, hk, round⟩ := pickK_sub round
  refine ⟨fun w hw => ?_⟩
  have key : LoopK n (ι := ι) (fun i => inv i ++ kp) (fun i w => I i ∧ St X (J i ++ F) w) μ = fun i => LoopT n X (fun i => inv i ++ kp) (fun i => J i ++ F) I μ i := by
    funext i a w
    apply propext
    constructor
    · rintro ⟨i', ⟨h1, h2⟩, h3, h4⟩; exact ⟨i', h1, h3, h2, h4⟩
    · rintro ⟨i', h1, h3, h2, h4⟩; exact ⟨i', ⟨h1, h2⟩, h3, h4⟩
  refine SC_loop (ι := ι) (fun i => inv i ++ kp) (fun i w => I i ∧ St X (J i ++ F) w) μ i0 ⟨h0, hw.im hf⟩ (Sub.app hs hk) fun i w' ⟨hI, hS⟩ => ?_
  rw [key]
  exact (round i hI).run w' hS
theorem lp {ι : Type} {inv : ι → Fr} {J : ι → List Ch} {I : ι → Prop} {μ : ι → Nat} {i : ι} {G : List Ch} (i' : ι) (h : I i') (hs : Sub (inv i') fr := by (repeat (refine Sub.cons rfl (by first | rfl | go_num) ?_)); exact Sub.nil) (hf : Fit A (J i') G := by first | apply Fit.all | ((repeat (first | (apply Fit.nilN; (repeat (first | apply nrm_nil | apply nrm_cons)); try apply nrm_rfl) | (apply Fit.cons; focus ((repeat (first | apply Tk.here | apply Tk.there)); first | done | fail)))); first | done | fail)) (hlt : μ i' < μ i := by first | omega | (dsimp only; omega)) :
    TX E n X (.loop (LoopT n X inv J I μ i) :: s) .normal fr A :=
  ⟨fun w hw => ⟨fun _ ha => ⟨i', h, ha.sub hs, hw.im (Im.trans hf (Im.drop _ _)), hlt⟩⟩⟩
/-- A cut: what is known is named anew. -/
theorem TC.cut (fr' : Fr) (B : List Ch) (h : TC E n X s c0 fr' (B ++ F)) (hs : Sub fr' fr := by (repeat (refine Sub.cons rfl (by first | rfl | go_num) ?_)); exact Sub.nil) (hf : Fit A B F := by first | apply Fit.all | ((repeat (first | (apply Fit.nilN; (repeat (first | apply nrm_nil | apply nrm_cons)); try apply nrm_rfl) | (apply Fit.cons; focus ((repeat (first | apply Tk.here | apply Tk.there)); first | done | fail)))); first | done | fail)) : TC E n X s c0 fr A := ⟨fun w hw => SC_sub fr' hs (h.run w (hw.im hf))⟩
theorem TX.cut (fr' : Fr) (B : List Ch) (h : TX E n X s e fr' (B ++ F)) (hs : Sub fr' fr := by (repeat (refine Sub.cons rfl (by first | rfl | go_num) ?_)); exact Sub.nil) (hf : Fit A B F := by first | apply Fit.all | ((repeat (first | (apply Fit.nilN; (repeat (first | apply nrm_nil | apply nrm_cons)); try apply nrm_rfl) | (apply Fit.cons; focus ((repeat (first | apply Tk.here | apply Tk.there)); first | done | fail)))); first | done | fail)) : TX E n X s e fr A := ⟨fun w hw => SX_sub fr' hs (h.run w (hw.im hf))⟩

/-! ### Operations -/
theorem TO.val (hr : ∀ w, Sat A w → OpV P n fr o ty w v w) (k : TO E n X s ops rest ((d, v) :: fr) A) (hd : Nat.blt d n.n = true := by rfl) : TO E n X s ops (⟨some d, o, ty, pos, after, none⟩ :: rest) fr A :=
  ⟨fun w hw => SO_v hd (hr w hw.sat) (k.run w hw)⟩
theorem TQ.val (hr : ∀ w, Sat A w → OpV P n fr o ty w v w) (k : TQ E n X s ops rest ((d, v) :: fr) A) (hd : Nat.blt d n.n = true := by rfl) : TQ E n X s ops (⟨some d, o, ty, pos, after, none⟩ :: rest) fr A :=
  ⟨SQ_v hd (fun w hw => hr w hw.sat) k.run⟩
theorem oa (k : TO E n X s ops rest ((d, v) :: fr) A) (h : evOp E fr o = some v := by rfl) (hd : Nat.blt d n.n = true := by rfl) : TO E n X s ops (⟨some d, o, ty, pos, after, none⟩ :: rest) fr A := TO.val (fun _ _ => R_auto h) k hd
theorem qa (k : TQ E n X s ops rest ((d, v) :: fr) A) (h : evOp E fr o = some v := by rfl) (hd : Nat.blt d n.n = true := by rfl) : TQ E n X s ops (⟨some d, o, ty, pos, after, none⟩ :: rest) fr A := TQ.val (fun _ _ => R_auto h) k hd
section
variable {op : BinOp} {t t' : TypeId} {x y : Operand} {m q : Int} {z : Value} {by_ : Nat} {el : TypeId} {xs : List Value} {i : Int} {k1 k2 : IntKind} {lo hi : Int} {z1 z2 : Operand}
theorem aw (k : TO E n X s ops rest ((d, I m) :: fr) A) (h : evOp E fr (.binOp op t x y t') = some (.int .i64 (IntKind.i64.wrap m)) := by rfl) (hb : -9223372036854775808 ≤ m ∧ m ≤ 9223372036854775807 := by omega) (hd : Nat.blt d n.n = true := by rfl) :
    TO E n X s ops (⟨some d, .binOp op t x y t', ty, pos, after, none⟩ :: rest) fr A := TO.val (fun _ _ => R_wrap (R_auto h) hb) k hd
theorem qaw (k : TQ E n X s ops rest ((d, I m) :: fr) A) (h : evOp E fr (.binOp op t x y t') = some (.int .i64 (IntKind.i64.wrap m)) := by rfl) (hb : -9223372036854775808 ≤ m ∧ m ≤ 9223372036854775807 := by omega) (hd : Nat.blt d n.n = true := by rfl) :
    TQ E n X s ops (⟨some d, .binOp op t x y t', ty, pos, after, none⟩ :: rest) fr A := TQ.val (fun _ _ => R_wrap (R_auto h) hb) k hd
theorem ao (h : TO E n X s ops (⟨some d, .binOp op t x y t', ty, pos, after, none⟩ :: rest) fr A) : TO E n X s ops (⟨some d, .binOp op t x y t', ty, pos, after, none⟩ :: rest) fr A := h
theorem qao (h : TQ E n X s ops (⟨some d, .binOp op t x y t', ty, pos, after, none⟩ :: rest) fr A) : TQ E n X s ops (⟨some d, .binOp op t x y t', ty, pos, after, none⟩ :: rest) fr A := h
theorem wo (h : TO E n X s ops l fr A) : TO E n X s ops l fr A := h
theorem wq (h : TQ E n X s ops l fr A) : TQ E n X s ops l fr A := h
theorem adiv (k : TO E n X s ops rest ((d, I (m / q)) :: fr) A) (hx : ev fr x = some (I m) := by rfl) (hy : ev fr y = some (I q) := by rfl) (hb : 0 ≤ m ∧ m ≤ 9223372036854775807 ∧ 1 ≤ q := by omega) (hd : Nat.blt d n.n = true := by rfl) :
    TO E n X s ops (⟨some d, .binOp .quo t x y t', ty, pos, after, none⟩ :: rest) fr A := TO.val (fun _ _ => R_quo64 hx hy hb) k hd
theorem amod (k : TO E n X s ops rest ((d, I (m % q)) :: fr) A) (hx : ev fr x = some (I m) := by rfl) (hy : ev fr y = some (I q) := by rfl) (hb : 0 ≤ m ∧ q ≠ 0 := by omega) (hd : Nat.blt d n.n = true := by rfl) :
    TO E n X s ops (⟨some d, .binOp .rem t x y t', ty, pos, after, none⟩ :: rest) fr A := TO.val (fun _ _ => R_rem64 hx hy hb) k hd

/-! blocks of cells -/
theorem ptcell {w : World} {b j : Nat} {cs : List Value} {T : TypeId} (h : Sat A w) (hm : pt b cs T ∈ A) (hj : cs[j]? = some v) : w.cell? ⟨b, j, none⟩ = some v := blk_cell (h.h _ hm) (by simpa using hj)
theorem ld {b j : Nat} {cs : List Value} {T : TypeId} {dt : TypeDesc} (k : TO E n X s ops rest ((d, v) :: fr) A) (hx : ev fr x = some (.pointer (some ⟨b, j, none⟩)) := by rfl)
    (hm : pt b cs T ∈ A := by (repeat (first | apply List.Mem.head | apply List.Mem.tail)); first | done | fail) (hj : cs[j]? = some v := by rfl) (ht : lk E.und t = some dt := by rfl) (hg : aggB dt = false := by rfl) (hd : Nat.blt d n.n = true := by rfl) :
    TO E n X s ops (⟨some d, .load t x, ty, pos, after, none⟩ :: rest) fr A := TO.val (fun _ h => R_load ht hg hx (ptcell h hm hj)) k hd
theorem qld {b j : Nat} {cs : List Value} {T : TypeId} {dt : TypeDesc} (k : TQ E n X s ops rest ((d, v) :: fr) A) (hx : ev fr x = some (.pointer (some ⟨b, j, none⟩)) := by rfl)
    (hm : pt b cs T ∈ A := by (repeat (first | apply List.Mem.head | apply List.Mem.tail)); first | done | fail) (hj : cs[j]? = some v := by rfl) (ht : lk E.und t = some dt := by rfl) (hg : aggB dt = false := by rfl) (hd : Nat.blt d n.n = true := by rfl) :
    TQ E n X s ops (⟨some d, .load t x, ty, pos, after, none⟩ :: rest) fr A := TQ.val (fun _ h => R_load ht hg hx (ptcell h hm hj)) k hd
/-- One of a list is set. -/
inductive SetAt (v : Value) : List Value → Nat → List Value → Prop
  | z (c : Value) (r : List Value) : SetAt v (c :: r) 0 (v :: r)
  | s (c : Value) {r r' : List Value} {j : Nat} : SetAt v r j r' → SetAt v (c :: r) (j + 1) (c :: r')
theorem SetAt.eq {v : Value} {cs cs' : List Value} {j : Nat} (h : SetAt v cs j cs') : cs' = cs.set j v ∧ j < cs.length := by
  induction h with
  | z c r => exact ⟨rfl, by simp⟩
  | s c _ ih => exact ⟨by rw [ih.1]; rfl, by simpa using ih.2⟩
theorem sr {b j : Nat} {cs cs' : List Value} {T : TypeId} (k : TO E n X s ops rest fr (pt b cs' T :: A')) (ha : ev fr x = some (.pointer (some ⟨b, j, none⟩)) := by rfl)
    (hm : Tk (pt b cs T) A A' := by (repeat (first | apply Tk.here | apply Tk.there)); first | done | fail) (hx : ev fr y = some v := by rfl) (hv : v.oneCell' = true := by first | rfl | assumption) (hs : SetAt v cs j cs' := by (repeat (first | exact SetAt.z _ _ | apply SetAt.s)); first | done | fail)
    (ht : lk E.inf t = some (z, 1, by_) := by rfl) : TO E n X s ops (⟨none, .store t x y, ty, pos, after, none⟩ :: rest) fr A := ⟨fun w hw => by
  have h1 := hw.im hm
  obtain ⟨rfl, hj⟩ := hs.eq
  refine SO_store ht ha hx hv (h1.mem (List.Mem.head _)) (lt_nblt (by simpa using hj)) fun w' hU hb => k.run w' (h1.set hU (by simp [pt]) ?_ ?_ (by simp [pt]))
  · show w'.heap[b]? = some (.cells (cs.set j v).toArray T (0, 0))
    rw [hb]; simp
  · rintro x (rfl | h | h); exact .inl rfl; exact h.elim; exact h.elim⟩
theorem bx (k : ∀ b, TO E n X s ops rest ((d, .pointer (some ⟨b, 0, none⟩)) :: fr) (pt b v.cells.toList t :: A)) (hx : ev fr x = some v := by rfl) (hd : Nat.blt d n.n = true := by rfl) :
    TO E n X s ops (⟨some d, .box t x, ty, pos, after, none⟩ :: rest) fr A := ⟨fun w hw =>
  SO_box hd hx fun w' hE hz hb => (k _).run w' (hw.new hE (by simpa [pt] using hb) (by rintro y (rfl | h | h); exact Nat.le_refl _; exact h.elim; exact h.elim) (by simp [pt]))⟩
theorem al {sz : Nat} (k : ∀ b, TO E n X s ops rest ((d, .pointer (some ⟨b, 0, none⟩)) :: fr) (pt b z.cells.toList t :: A)) (ht : lk E.inf t = some (z, sz, by_) := by rfl) (hd : Nat.blt d n.n = true := by rfl) :
    TO E n X s ops (⟨some d, .alloc t, ty, pos, after, none⟩ :: rest) fr A := ⟨fun w hw =>
  SO_alloc hd ht fun w' hE hz hb => (k _).run w' (hw.new hE (by simpa [pt] using hb) (by rintro y (rfl | h | h); exact Nat.le_refl _; exact h.elim; exact h.elim) (by simp [pt]))⟩

/-! slices -/
theorem has_sl {w : World} (h : Sat A w) (hh : Has A (vw v xs)) : Sl w v xs := hh.P w h
theorem sl_get {α : Type} {g : α → Value} {l : List α} {i : Nat} (h : i < l.length) : (l.map g)[i]? = some (g l[i]) := by simp [h]
theorem ln (k : TO E n X s ops rest ((d, I xs.length) :: fr) A) (hx : ev fr x = some v := by rfl) (hh : Has A (vw v xs) := by first | (apply has_vw; (repeat (first | apply List.Mem.head | apply List.Mem.tail)); first | done | fail) | (apply has_own; (repeat (first | apply List.Mem.head | apply List.Mem.tail)); first | done | fail) | (apply has_ro; (repeat (first | apply List.Mem.head | apply List.Mem.tail)); first | done | fail) | apply has_nil | ((with_reducible apply has_el); (focus (first | (apply has_vels; (repeat (first | apply List.Mem.head | apply List.Mem.tail)); first | done | fail) | (apply has_rels; (repeat (first | apply List.Mem.head | apply List.Mem.tail)); first | done | fail))); omega) | (apply has_pt; (repeat (first | apply List.Mem.head | apply List.Mem.tail)); first | done | fail) | (apply has_lpt; (repeat (first | apply List.Mem.head | apply List.Mem.tail)); first | done | fail) | (apply has_vels; (repeat (first | apply List.Mem.head | apply List.Mem.tail)); first | done | fail) | (apply has_rels; (repeat (first | apply List.Mem.head | apply List.Mem.tail)); first | done | fail) | with_reducible assumption | ((with_reducible apply has_elg); (focus (first | (apply has_velg; (repeat (first | apply List.Mem.head | apply List.Mem.tail)); first | done | fail) | (apply has_relg; (repeat (first | apply List.Mem.head | apply List.Mem.tail)); first | done | fail))); omega) | (apply has_velg; (repeat (first | apply List.Mem.head | apply List.Mem.tail)); first | done | fail) | (apply has_relg; (repeat (first | apply List.Mem.head | apply List.Mem.tail)); first | done | fail)) (ht : lk E.und t = some (.slice el) := by rfl) (hd : Nat.blt d n.n = true := by rfl) :
    TO E n X s ops (⟨some d, .call ⟨.builtin .len, #[x], #[t]⟩, ty, pos, after, none⟩ :: rest) fr A := TO.val (fun _ h => R_len ht hx (has_sl h hh)) k hd
theorem qln (k : TQ E n X s ops rest ((d, I xs.length) :: fr) A) (hx : ev fr x = some v := by rfl) (hh : Has A (vw v xs) := by first | (apply has_vw; (repeat (first | apply List.Mem.head | apply List.Mem.tail)); first | done | fail) | (apply has_own; (repeat (first | apply List.Mem.head | apply List.Mem.tail)); first | done | fail) | (apply has_ro; (repeat (first | apply List.Mem.head | apply List.Mem.tail)); first | done | fail) | apply has_nil | ((with_reducible apply has_el); (focus (first | (apply has_vels; (repeat (first | apply List.Mem.head | apply List.Mem.tail)); first | done | fail) | (apply has_rels; (repeat (first | apply List.Mem.head | apply List.Mem.tail)); first | done | fail))); omega) | (apply has_pt; (repeat (first | apply List.Mem.head | apply List.Mem.tail)); first | done | fail) | (apply has_lpt; (repeat (first | apply List.Mem.head | apply List.Mem.tail)); first | done | fail) | (apply has_vels; (repeat (first | apply List.Mem.head | apply List.Mem.tail)); first | done | fail) | (apply has_rels; (repeat (first | apply List.Mem.head | apply List.Mem.tail)); first | done | fail) | with_reducible assumption | ((with_reducible apply has_elg); (focus (first | (apply has_velg; (repeat (first | apply List.Mem.head | apply List.Mem.tail)); first | done | fail) | (apply has_relg; (repeat (first | apply List.Mem.head | apply List.Mem.tail)); first | done | fail))); omega) | (apply has_velg; (repeat (first | apply List.Mem.head | apply List.Mem.tail)); first | done | fail) | (apply has_relg; (repeat (first | apply List.Mem.head | apply List.Mem.tail)); first | done | fail)) (ht : lk E.und t = some (.slice el) := by rfl) (hd : Nat.blt d n.n = true := by rfl) :
    TQ E n X s ops (⟨some d, .call ⟨.builtin .len, #[x], #[t]⟩, ty, pos, after, none⟩ :: rest) fr A := TQ.val (fun _ h => R_len ht hx (has_sl h hh)) k hd
theorem ix (k : TO E n X s ops rest ((d, .pointer (some (addrAt v i.toNat))) :: fr) A) (hx : ev fr x = some v := by rfl) (hy : ev fr y = some (.int k1 i) := by rfl) (hh : Has A (vw v xs) := by first | (apply has_vw; (repeat (first | apply List.Mem.head | apply List.Mem.tail)); first | done | fail) | (apply has_own; (repeat (first | apply List.Mem.head | apply List.Mem.tail)); first | done | fail) | (apply has_ro; (repeat (first | apply List.Mem.head | apply List.Mem.tail)); first | done | fail) | apply has_nil | ((with_reducible apply has_el); (focus (first | (apply has_vels; (repeat (first | apply List.Mem.head | apply List.Mem.tail)); first | done | fail) | (apply has_rels; (repeat (first | apply List.Mem.head | apply List.Mem.tail)); first | done | fail))); omega) | (apply has_pt; (repeat (first | apply List.Mem.head | apply List.Mem.tail)); first | done | fail) | (apply has_lpt; (repeat (first | apply List.Mem.head | apply List.Mem.tail)); first | done | fail) | (apply has_vels; (repeat (first | apply List.Mem.head | apply List.Mem.tail)); first | done | fail) | (apply has_rels; (repeat (first | apply List.Mem.head | apply List.Mem.tail)); first | done | fail) | with_reducible assumption | ((with_reducible apply has_elg); (focus (first | (apply has_velg; (repeat (first | apply List.Mem.head | apply List.Mem.tail)); first | done | fail) | (apply has_relg; (repeat (first | apply List.Mem.head | apply List.Mem.tail)); first | done | fail))); omega) | (apply has_velg; (repeat (first | apply List.Mem.head | apply List.Mem.tail)); first | done | fail) | (apply has_relg; (repeat (first | apply List.Mem.head | apply List.Mem.tail)); first | done | fail)) (hb : 0 ≤ i ∧ i < xs.length := by omega)
    (ht : lk E.und t = some (.slice el) := by rfl) (he : lk E.inf el = some (z, 1, by_) := by rfl) (hd : Nat.blt d n.n = true := by rfl) : TO E n X s ops (⟨some d, .indexAddr t x y, ty, pos, after, none⟩ :: rest) fr A :=
  TO.val (fun _ h => R_idx ht he hx hy (has_sl h hh) hb) k hd
theorem qix (k : TQ E n X s ops rest ((d, .pointer (some (addrAt v i.toNat))) :: fr) A) (hx : ev fr x = some v := by rfl) (hy : ev fr y = some (.int k1 i) := by rfl) (hh : Has A (vw v xs) := by first | (apply has_vw; (repeat (first | apply List.Mem.head | apply List.Mem.tail)); first | done | fail) | (apply has_own; (repeat (first | apply List.Mem.head | apply List.Mem.tail)); first | done | fail) | (apply has_ro; (repeat (first | apply List.Mem.head | apply List.Mem.tail)); first | done | fail) | apply has_nil | ((with_reducible apply has_el); (focus (first | (apply has_vels; (repeat (first | apply List.Mem.head | apply List.Mem.tail)); first | done | fail) | (apply has_rels; (repeat (first | apply List.Mem.head | apply List.Mem.tail)); first | done | fail))); omega) | (apply has_pt; (repeat (first | apply List.Mem.head | apply List.Mem.tail)); first | done | fail) | (apply has_lpt; (repeat (first | apply List.Mem.head | apply List.Mem.tail)); first | done | fail) | (apply has_vels; (repeat (first | apply List.Mem.head | apply List.Mem.tail)); first | done | fail) | (apply has_rels; (repeat (first | apply List.Mem.head | apply List.Mem.tail)); first | done | fail) | with_reducible assumption | ((with_reducible apply has_elg); (focus (first | (apply has_velg; (repeat (first | apply List.Mem.head | apply List.Mem.tail)); first | done | fail) | (apply has_relg; (repeat (first | apply List.Mem.head | apply List.Mem.tail)); first | done | fail))); omega) | (apply has_velg; (repeat (first | apply List.Mem.head | apply List.Mem.tail)); first | done | fail) | (apply has_relg; (repeat (first | apply List.Mem.head | apply List.Mem.tail)); first | done | fail)) (hb : 0 ≤ i ∧ i < xs.length := by omega)
    (ht : lk E.und t = some (.slice el) := by rfl) (he : lk E.inf el = some (z, 1, by_) := by rfl) (hd : Nat.blt d n.n = true := by rfl) : TQ E n X s ops (⟨some d, .indexAddr t x y, ty, pos, after, none⟩ :: rest) fr A :=
  TQ.val (fun _ h => R_idx ht he hx hy (has_sl h hh) hb) k hd
theorem le {j : Nat} {dt : TypeDesc} (k : TO E n X s ops rest ((d, u) :: fr) A) (hx : ev fr x = some (.pointer (some (addrAt v j))) := by rfl) (hh : Has A (vw v xs) := by first | (apply has_vw; (repeat (first | apply List.Mem.head | apply List.Mem.tail)); first | done | fail) | (apply has_own; (repeat (first | apply List.Mem.head | apply List.Mem.tail)); first | done | fail) | (apply has_ro; (repeat (first | apply List.Mem.head | apply List.Mem.tail)); first | done | fail) | apply has_nil | ((with_reducible apply has_el); (focus (first | (apply has_vels; (repeat (first | apply List.Mem.head | apply List.Mem.tail)); first | done | fail) | (apply has_rels; (repeat (first | apply List.Mem.head | apply List.Mem.tail)); first | done | fail))); omega) | (apply has_pt; (repeat (first | apply List.Mem.head | apply List.Mem.tail)); first | done | fail) | (apply has_lpt; (repeat (first | apply List.Mem.head | apply List.Mem.tail)); first | done | fail) | (apply has_vels; (repeat (first | apply List.Mem.head | apply List.Mem.tail)); first | done | fail) | (apply has_rels; (repeat (first | apply List.Mem.head | apply List.Mem.tail)); first | done | fail) | with_reducible assumption | ((with_reducible apply has_elg); (focus (first | (apply has_velg; (repeat (first | apply List.Mem.head | apply List.Mem.tail)); first | done | fail) | (apply has_relg; (repeat (first | apply List.Mem.head | apply List.Mem.tail)); first | done | fail))); omega) | (apply has_velg; (repeat (first | apply List.Mem.head | apply List.Mem.tail)); first | done | fail) | (apply has_relg; (repeat (first | apply List.Mem.head | apply List.Mem.tail)); first | done | fail)) (hj : xs[j]? = some u := by first | rfl | assumption)
    (ht : lk E.und t = some dt := by rfl) (hg : aggB dt = false := by rfl) (hd : Nat.blt d n.n = true := by rfl) : TO E n X s ops (⟨some d, .load t x, ty, pos, after, none⟩ :: rest) fr A := TO.val (fun _ h => R_load ht hg hx ((has_sl h hh).cell hj)) k hd
theorem qle {j : Nat} {dt : TypeDesc} (k : TQ E n X s ops rest ((d, u) :: fr) A) (hx : ev fr x = some (.pointer (some (addrAt v j))) := by rfl) (hh : Has A (vw v xs) := by first | (apply has_vw; (repeat (first | apply List.Mem.head | apply List.Mem.tail)); first | done | fail) | (apply has_own; (repeat (first | apply List.Mem.head | apply List.Mem.tail)); first | done | fail) | (apply has_ro; (repeat (first | apply List.Mem.head | apply List.Mem.tail)); first | done | fail) | apply has_nil | ((with_reducible apply has_el); (focus (first | (apply has_vels; (repeat (first | apply List.Mem.head | apply List.Mem.tail)); first | done | fail) | (apply has_rels; (repeat (first | apply List.Mem.head | apply List.Mem.tail)); first | done | fail))); omega) | (apply has_pt; (repeat (first | apply List.Mem.head | apply List.Mem.tail)); first | done | fail) | (apply has_lpt; (repeat (first | apply List.Mem.head | apply List.Mem.tail)); first | done | fail) | (apply has_vels; (repeat (first | apply List.Mem.head | apply List.Mem.tail)); first | done | fail) | (apply has_rels; (repeat (first | apply List.Mem.head | apply List.Mem.tail)); first | done | fail) | with_reducible assumption | ((with_reducible apply has_elg); (focus (first | (apply has_velg; (repeat (first | apply List.Mem.head | apply List.Mem.tail)); first | done | fail) | (apply has_relg; (repeat (first | apply List.Mem.head | apply List.Mem.tail)); first | done | fail))); omega) | (apply has_velg; (repeat (first | apply List.Mem.head | apply List.Mem.tail)); first | done | fail) | (apply has_relg; (repeat (first | apply List.Mem.head | apply List.Mem.tail)); first | done | fail)) (hj : xs[j]? = some u := by first | rfl | assumption)
    (ht : lk E.und t = some dt := by rfl) (hg : aggB dt = false := by rfl) (hd : Nat.blt d n.n = true := by rfl) : TQ E n X s ops (⟨some d, .load t x, ty, pos, after, none⟩ :: rest) fr A := TQ.val (fun _ h => R_load ht hg hx ((has_sl h hh).cell hj)) k hd
theorem ixn {i : Nat} (k : TO E n X s ops rest ((d, .pointer (some (addrAt v i))) :: fr) A) (hx : ev fr x = some v := by rfl) (hy : ev fr y = some (.int k1 (i : Int)) := by rfl) (hh : Has A (vw v xs) := by first | (apply has_vw; (repeat (first | apply List.Mem.head | apply List.Mem.tail)); first | done | fail) | (apply has_own; (repeat (first | apply List.Mem.head | apply List.Mem.tail)); first | done | fail) | (apply has_ro; (repeat (first | apply List.Mem.head | apply List.Mem.tail)); first | done | fail) | apply has_nil | ((with_reducible apply has_el); (focus (first | (apply has_vels; (repeat (first | apply List.Mem.head | apply List.Mem.tail)); first | done | fail) | (apply has_rels; (repeat (first | apply List.Mem.head | apply List.Mem.tail)); first | done | fail))); omega) | (apply has_pt; (repeat (first | apply List.Mem.head | apply List.Mem.tail)); first | done | fail) | (apply has_lpt; (repeat (first | apply List.Mem.head | apply List.Mem.tail)); first | done | fail) | (apply has_vels; (repeat (first | apply List.Mem.head | apply List.Mem.tail)); first | done | fail) | (apply has_rels; (repeat (first | apply List.Mem.head | apply List.Mem.tail)); first | done | fail) | with_reducible assumption | ((with_reducible apply has_elg); (focus (first | (apply has_velg; (repeat (first | apply List.Mem.head | apply List.Mem.tail)); first | done | fail) | (apply has_relg; (repeat (first | apply List.Mem.head | apply List.Mem.tail)); first | done | fail))); omega) | (apply has_velg; (repeat (first | apply List.Mem.head | apply List.Mem.tail)); first | done | fail) | (apply has_relg; (repeat (first | apply List.Mem.head | apply List.Mem.tail)); first | done | fail)) (hb : i < xs.length := by omega)
    (ht : lk E.und t = some (.slice el) := by rfl) (he : lk E.inf el = some (z, 1, by_) := by rfl) (hd : Nat.blt d n.n = true := by rfl) : TO E n X s ops (⟨some d, .indexAddr t x y, ty, pos, after, none⟩ :: rest) fr A := ix (i := (i : Int)) k hx hy hh (by omega) ht he hd
theorem qixn {i : Nat} (k : TQ E n X s ops rest ((d, .pointer (some (addrAt v i))) :: fr) A) (hx : ev fr x = some v := by rfl) (hy : ev fr y = some (.int k1 (i : Int)) := by rfl) (hh : Has A (vw v xs) := by first | (apply has_vw; (repeat (first | apply List.Mem.head | apply List.Mem.tail)); first | done | fail) | (apply has_own; (repeat (first | apply List.Mem.head | apply List.Mem.tail)); first | done | fail) | (apply has_ro; (repeat (first | apply List.Mem.head | apply List.Mem.tail)); first | done | fail) | apply has_nil | ((with_reducible apply has_el); (focus (first | (apply has_vels; (repeat (first | apply List.Mem.head | apply List.Mem.tail)); first | done | fail) | (apply has_rels; (repeat (first | apply List.Mem.head | apply List.Mem.tail)); first | done | fail))); omega) | (apply has_pt; (repeat (first | apply List.Mem.head | apply List.Mem.tail)); first | done | fail) | (apply has_lpt; (repeat (first | apply List.Mem.head | apply List.Mem.tail)); first | done | fail) | (apply has_vels; (repeat (first | apply List.Mem.head | apply List.Mem.tail)); first | done | fail) | (apply has_rels; (repeat (first | apply List.Mem.head | apply List.Mem.tail)); first | done | fail) | with_reducible assumption | ((with_reducible apply has_elg); (focus (first | (apply has_velg; (repeat (first | apply List.Mem.head | apply List.Mem.tail)); first | done | fail) | (apply has_relg; (repeat (first | apply List.Mem.head | apply List.Mem.tail)); first | done | fail))); omega) | (apply has_velg; (repeat (first | apply List.Mem.head | apply List.Mem.tail)); first | done | fail) | (apply has_relg; (repeat (first | apply List.Mem.head | apply List.Mem.tail)); first | done | fail)) (hb : i < xs.length := by omega)
    (ht : lk E.und t = some (.slice el) := by rfl) (he : lk E.inf el = some (z, 1, by_) := by rfl) (hd : Nat.blt d n.n = true := by rfl) : TQ E n X s ops (⟨some d, .indexAddr t x y, ty, pos, after, none⟩ :: rest) fr A := qix (i := (i : Int)) k hx hy hh (by omega) ht he hd
theorem sc {lo hi : Int} (k : TO E n X s ops rest ((d, slSub v lo.toNat hi.toNat) :: fr) A) (hx : ev fr x = some v := by rfl) (hl : ev fr z1 = some (.int k1 lo) := by rfl) (hh : ev fr z2 = some (.int k2 hi) := by rfl) (hs : Has A (vw v xs) := by first | (apply has_vw; (repeat (first | apply List.Mem.head | apply List.Mem.tail)); first | done | fail) | (apply has_own; (repeat (first | apply List.Mem.head | apply List.Mem.tail)); first | done | fail) | (apply has_ro; (repeat (first | apply List.Mem.head | apply List.Mem.tail)); first | done | fail) | apply has_nil | ((with_reducible apply has_el); (focus (first | (apply has_vels; (repeat (first | apply List.Mem.head | apply List.Mem.tail)); first | done | fail) | (apply has_rels; (repeat (first | apply List.Mem.head | apply List.Mem.tail)); first | done | fail))); omega) | (apply has_pt; (repeat (first | apply List.Mem.head | apply List.Mem.tail)); first | done | fail) | (apply has_lpt; (repeat (first | apply List.Mem.head | apply List.Mem.tail)); first | done | fail) | (apply has_vels; (repeat (first | apply List.Mem.head | apply List.Mem.tail)); first | done | fail) | (apply has_rels; (repeat (first | apply List.Mem.head | apply List.Mem.tail)); first | done | fail) | with_reducible assumption | ((with_reducible apply has_elg); (focus (first | (apply has_velg; (repeat (first | apply List.Mem.head | apply List.Mem.tail)); first | done | fail) | (apply has_relg; (repeat (first | apply List.Mem.head | apply List.Mem.tail)); first | done | fail))); omega) | (apply has_velg; (repeat (first | apply List.Mem.head | apply List.Mem.tail)); first | done | fail) | (apply has_relg; (repeat (first | apply List.Mem.head | apply List.Mem.tail)); first | done | fail)) (hb : 0 ≤ lo ∧ lo ≤ hi ∧ hi ≤ xs.length := by omega)
    (ht : lk E.und t = some (.slice el) := by rfl) (he : lk E.inf el = some (z, 1, by_) := by rfl) (hd : Nat.blt d n.n = true := by rfl) : TO E n X s ops (⟨some d, .slice t x (some z1) (some z2) none, ty, pos, after, none⟩ :: rest) fr A :=
  TO.val (fun _ h => R_slice ht he hx hl hh (has_sl h hs) hb) k hd
theorem scl {lo : Int} (k : TO E n X s ops rest ((d, slSub v lo.toNat xs.length) :: fr) A) (hx : ev fr x = some v := by rfl) (hl : ev fr z1 = some (.int k1 lo) := by rfl) (hs : Has A (vw v xs) := by first | (apply has_vw; (repeat (first | apply List.Mem.head | apply List.Mem.tail)); first | done | fail) | (apply has_own; (repeat (first | apply List.Mem.head | apply List.Mem.tail)); first | done | fail) | (apply has_ro; (repeat (first | apply List.Mem.head | apply List.Mem.tail)); first | done | fail) | apply has_nil | ((with_reducible apply has_el); (focus (first | (apply has_vels; (repeat (first | apply List.Mem.head | apply List.Mem.tail)); first | done | fail) | (apply has_rels; (repeat (first | apply List.Mem.head | apply List.Mem.tail)); first | done | fail))); omega) | (apply has_pt; (repeat (first | apply List.Mem.head | apply List.Mem.tail)); first | done | fail) | (apply has_lpt; (repeat (first | apply List.Mem.head | apply List.Mem.tail)); first | done | fail) | (apply has_vels; (repeat (first | apply List.Mem.head | apply List.Mem.tail)); first | done | fail) | (apply has_rels; (repeat (first | apply List.Mem.head | apply List.Mem.tail)); first | done | fail) | with_reducible assumption | ((with_reducible apply has_elg); (focus (first | (apply has_velg; (repeat (first | apply List.Mem.head | apply List.Mem.tail)); first | done | fail) | (apply has_relg; (repeat (first | apply List.Mem.head | apply List.Mem.tail)); first | done | fail))); omega) | (apply has_velg; (repeat (first | apply List.Mem.head | apply List.Mem.tail)); first | done | fail) | (apply has_relg; (repeat (first | apply List.Mem.head | apply List.Mem.tail)); first | done | fail)) (hb : 0 ≤ lo ∧ lo ≤ xs.length := by omega)
    (ht : lk E.und t = some (.slice el) := by rfl) (he : lk E.inf el = some (z, 1, by_) := by rfl) (hd : Nat.blt d n.n = true := by rfl) : TO E n X s ops (⟨some d, .slice t x (some z1) none none, ty, pos, after, none⟩ :: rest) fr A :=
  TO.val (fun _ h => R_sliceLo ht he hx hl (has_sl h hs) hb) k hd
theorem sch {hi : Int} (k : TO E n X s ops rest ((d, slSub v 0 hi.toNat) :: fr) A) (hx : ev fr x = some v := by rfl) (hl : ev fr z1 = some (.int k1 hi) := by rfl) (hs : Has A (vw v xs) := by first | (apply has_vw; (repeat (first | apply List.Mem.head | apply List.Mem.tail)); first | done | fail) | (apply has_own; (repeat (first | apply List.Mem.head | apply List.Mem.tail)); first | done | fail) | (apply has_ro; (repeat (first | apply List.Mem.head | apply List.Mem.tail)); first | done | fail) | apply has_nil | ((with_reducible apply has_el); (focus (first | (apply has_vels; (repeat (first | apply List.Mem.head | apply List.Mem.tail)); first | done | fail) | (apply has_rels; (repeat (first | apply List.Mem.head | apply List.Mem.tail)); first | done | fail))); omega) | (apply has_pt; (repeat (first | apply List.Mem.head | apply List.Mem.tail)); first | done | fail) | (apply has_lpt; (repeat (first | apply List.Mem.head | apply List.Mem.tail)); first | done | fail) | (apply has_vels; (repeat (first | apply List.Mem.head | apply List.Mem.tail)); first | done | fail) | (apply has_rels; (repeat (first | apply List.Mem.head | apply List.Mem.tail)); first | done | fail) | with_reducible assumption | ((with_reducible apply has_elg); (focus (first | (apply has_velg; (repeat (first | apply List.Mem.head | apply List.Mem.tail)); first | done | fail) | (apply has_relg; (repeat (first | apply List.Mem.head | apply List.Mem.tail)); first | done | fail))); omega) | (apply has_velg; (repeat (first | apply List.Mem.head | apply List.Mem.tail)); first | done | fail) | (apply has_relg; (repeat (first | apply List.Mem.head | apply List.Mem.tail)); first | done | fail)) (hb : 0 ≤ hi ∧ hi ≤ xs.length := by omega)
    (ht : lk E.und t = some (.slice el) := by rfl) (he : lk E.inf el = some (z, 1, by_) := by rfl) (hd : Nat.blt d n.n = true := by rfl) : TO E n X s ops (⟨some d, .slice t x none (some z1) none, ty, pos, after, none⟩ :: rest) fr A :=
  TO.val (fun _ h => R_sliceHi ht he hx hl (has_sl h hs) hb) k hd
theorem slice_nil_eq {w : World} {o : Option Addr} {l c : Nat} (h : Sl w (.slice o l c) xs) : l = xs.length := by obtain ⟨_, _, h1, _⟩ := h; cases h1; rfl
/-- A store into an own slice. -/
theorem so {j : Nat} {ys : List Value} {c : Value} (k : TO E n X s ops rest fr (own el v ys :: A')) (hx : ev fr x = some (.pointer (some (addrAt v j))) := by rfl) (hm : Tk (own el v xs) A A' := by (repeat (first | apply Tk.here | apply Tk.there)); first | done | fail) (hy : ev fr y = some c := by rfl)
    (hj : j < xs.length := by omega) (hs : ys = xs.set j c := by rfl) (hc : c.oneCell' = true := by first | rfl | assumption) (ht : lk E.inf t = some (z, 1, by_) := by rfl) : TO E n X s ops (⟨none, .store t x y, ty, pos, after, none⟩ :: rest) fr A := ⟨fun w hw => by
  subst hs
  have h1 := hw.im hm
  have h2 : OwnO w el v xs := h1.mem (List.Mem.head _)
  refine SO_storeO ht h2 hx hy hc hj fun w' hU hO => k.run w' (h1.set hU (fun b hb => .inl (by show v.ownBlock = some b; simpa using hb)) hO ?_ (fun _ h => h))
  rintro b (hb | hb | hb); exact .inl hb; exact hb.elim; exact hb.elim⟩
/-- append to an own slice. -/
theorem ap {news : List Value} {e : TypeId} (k : ∀ v', TO E n X s ops rest ((d, v') :: fr) (own e v' (xs ++ news) :: A')) (hx : ev fr x = some v := by rfl) (hy : ev fr y = some u := by rfl) (hm : Tk (own e v xs) A A' := by (repeat (first | apply Tk.here | apply Tk.there)); first | done | fail) (hu : Has A' (vw u news) := by first | (apply has_vw; (repeat (first | apply List.Mem.head | apply List.Mem.tail)); first | done | fail) | (apply has_own; (repeat (first | apply List.Mem.head | apply List.Mem.tail)); first | done | fail) | (apply has_ro; (repeat (first | apply List.Mem.head | apply List.Mem.tail)); first | done | fail) | apply has_nil | ((with_reducible apply has_el); (focus (first | (apply has_vels; (repeat (first | apply List.Mem.head | apply List.Mem.tail)); first | done | fail) | (apply has_rels; (repeat (first | apply List.Mem.head | apply List.Mem.tail)); first | done | fail))); omega) | (apply has_pt; (repeat (first | apply List.Mem.head | apply List.Mem.tail)); first | done | fail) | (apply has_lpt; (repeat (first | apply List.Mem.head | apply List.Mem.tail)); first | done | fail) | (apply has_vels; (repeat (first | apply List.Mem.head | apply List.Mem.tail)); first | done | fail) | (apply has_rels; (repeat (first | apply List.Mem.head | apply List.Mem.tail)); first | done | fail) | with_reducible assumption | ((with_reducible apply has_elg); (focus (first | (apply has_velg; (repeat (first | apply List.Mem.head | apply List.Mem.tail)); first | done | fail) | (apply has_relg; (repeat (first | apply List.Mem.head | apply List.Mem.tail)); first | done | fail))); omega) | (apply has_velg; (repeat (first | apply List.Mem.head | apply List.Mem.tail)); first | done | fail) | (apply has_relg; (repeat (first | apply List.Mem.head | apply List.Mem.tail)); first | done | fail))
    (h1 : ∀ c ∈ news, c.oneCell' = true := by simp) (ht : lk E.und t = some (.slice e) := by rfl) (he : lk E.inf e = some (z, 1, by_) := by rfl) (hz : z.cells.size = 1 := by rfl) (hby : (xs.length + news.length) * by_ ≤ 140737488355328 := by simp; omega)
    (h63 : xs.length + news.length ≤ 9223372036854775807 := by simp; omega) (hd : Nat.blt d n.n = true := by rfl) : TO E n X s ops (⟨some d, .call ⟨.builtin .append, #[x, y], #[t, t]⟩, ty, pos, after, none⟩ :: rest) fr A := ⟨fun w hw => by
  have h2 := hw.im hm
  have h3 : OwnO w e v xs := h2.mem (List.Mem.head _)
  have h4 : Sl w u news := hu.P w (Sat.cons.1 h2.sat).2.2
  refine SO_appendO hd ht he hz hx hy h3 h4 h1 hby h63 fun v' w' hO hU hW => (k v').run w' (h2.set hU (fun b hb => .inl (by show v.ownBlock = some b; simpa using hb)) hO ?_ (fun _ h => h))
  rintro b (hb' | hb' | hb')
  · exact hW b hb'
  · exact hb'.elim
  · exact hb'.elim⟩
theorem St.own {w w' : World} {e : TypeId} {g : Option Nat} (h : St X A w) (u' : Ext w w') (hO : Own w' e g v xs) (hg : ∀ b, g = some b → w.heap.size ≤ b) : St X (own e v xs :: A) w' := by
  have hb := hO.block
  refine h.new u' (OwnO.of hO) ?_ (fun _ h => h)
  rintro b (h1 | h1 | h1)
  · exact hg b (by rw [← hb]; exact h1)
  · exact h1.elim
  · exact h1.elim
/-- A slice literal. -/
theorem sli {m : Nat} {parts : List (Nat × Operand)} {vs : List Value} {e : TypeId} (k : ∀ v', TO E n X s ops rest ((d, v') :: fr) (own e v' vs :: A)) (hp : parts = idxP 0 (parts.map (·.2)) := by rfl) (hv : evs fr (parts.map (·.2)) = some vs := by rfl)
    (h1 : ∀ v ∈ vs, v.oneCell' = true := by simp; done) (hk : vs.length = m := by rfl) (hk0 : Nat.blt 0 m = true := by rfl) (hkm : Nat.ble m 16777216 = true := by rfl) (ht : lk E.und t = some (.slice e) := by rfl) (he : lk E.inf e = some (z, 1, by_) := by rfl) (hd : Nat.blt d n.n = true := by rfl) :
    TO E n X s ops (⟨some d, .buildSlice t m parts.toArray, ty, pos, after, none⟩ :: rest) fr A := ⟨fun w hw =>
  SO_slit hd ht he hp hv h1 hk hk0 hkm fun w' hE hO => (k _).run w' (hw.own hE hO (by simp))⟩
theorem sl0 {e : TypeId} (k : ∀ v', TO E n X s ops rest ((d, v') :: fr) (own e v' [] :: A)) (ht : lk E.und t = some (.slice e) := by rfl) (he : lk E.inf e = some (z, 1, by_) := by rfl) (hd : Nat.blt d n.n = true := by rfl) :
    TO E n X s ops (⟨some d, .buildSlice t 0 #[], ty, pos, after, none⟩ :: rest) fr A := ⟨fun w hw => SO_slit0 hd ht he fun w' hE hO => (k _).run w' (hw.own hE hO (by simp))⟩
theorem mk {e : TypeId} {m : Int} (k : ∀ v', TO E n X s ops rest ((d, v') :: fr) (own e v' (List.replicate m.toNat z) :: A)) (hx : ev fr x = some (.int k1 m) := by rfl) (hy : ev fr y = some (.int k1 m) := by rfl) (ht : lk E.und t = some (.slice e) := by rfl) (he : lk E.inf e = some (z, 1, by_) := by rfl)
    (hz : z.cells = #[z] := by rfl) (h0 : 0 ≤ m := by omega) (hby : by_ * m.toNat ≤ 281474976710656 := by omega) (h63 : m ≤ 9223372036854775807 := by omega) (hd : Nat.blt d n.n = true := by rfl) :
    TO E n X s ops (⟨some d, .makeSlice t x y, ty, pos, after, none⟩ :: rest) fr A := ⟨fun w hw => SO_make hd ht he hz hx hy h0 hby h63 fun w' v hE hO => (k v).run w' (hw.own hE hO (by simp))⟩
/-! nil -/
theorem isl {o' : Option Addr} {l' c' : Nat} (k : TO E n X s ops rest ((d, .bool o'.isNone) :: fr) A) (hx : ev fr x = some (.slice o' l' c') := by rfl) (ht : lk E.und t = some (.slice el) := by rfl) (hd : Nat.blt d n.n = true := by rfl) :
    TO E n X s ops (⟨some d, .binOp .eql t x (.const (.slice none 0 0)) t', ty, pos, after, none⟩ :: rest) fr A := TO.val (fun _ _ => R_slEqNil ht hx) k hd
theorem ipe {p' : Option Addr} (k : TO E n X s ops rest ((d, .bool p'.isNone) :: fr) A) (hx : ev fr x = some (.pointer p') := by rfl) (ht : lk E.und t = some (.pointer el) := by rfl) (hd : Nat.blt d n.n = true := by rfl) :
    TO E n X s ops (⟨some d, .binOp .eql t x (.const (.pointer none)) t', ty, pos, after, none⟩ :: rest) fr A := TO.val (fun _ _ => R_ptrEqNil ht hx) k hd
theorem ipn {p' : Option Addr} (k : TO E n X s ops rest ((d, .bool (!p'.isNone)) :: fr) A) (hx : ev fr x = some (.pointer p') := by rfl) (ht : lk E.und t = some (.pointer el) := by rfl) (hd : Nat.blt d n.n = true := by rfl) :
    TO E n X s ops (⟨some d, .binOp .neq t x (.const (.pointer none)) t', ty, pos, after, none⟩ :: rest) fr A := TO.val (fun _ _ => R_ptrNeNil ht hx) k hd
theorem ibe {b1 b2 : Bool} (k : TO E n X s ops rest ((d, .bool (b1 == b2)) :: fr) A) (hx : ev fr x = some (.bool b1) := by rfl) (hy : ev fr y = some (.bool b2) := by rfl) (ht : lk E.und t = some .bool := by rfl) (hd : Nat.blt d n.n = true := by rfl) :
    TO E n X s ops (⟨some d, .binOp .eql t x y t', ty, pos, after, none⟩ :: rest) fr A := TO.val (fun _ _ => R_boolEq hx hy ht) k hd
theorem qibe {b1 b2 : Bool} (k : TQ E n X s ops rest ((d, .bool (b1 == b2)) :: fr) A) (hx : ev fr x = some (.bool b1) := by rfl) (hy : ev fr y = some (.bool b2) := by rfl) (ht : lk E.und t = some .bool := by rfl) (hd : Nat.blt d n.n = true := by rfl) :
    TQ E n X s ops (⟨some d, .binOp .eql t x y t', ty, pos, after, none⟩ :: rest) fr A := TQ.val (fun _ _ => R_boolEq hx hy ht) k hd
end

/-! ### Guards -/
section
variable {dst : Option Nat} {j dj dd : Nat} {b b' : Bool}
theorem gy (h : TO E n X s ops (⟨dst, o, ty, pos, after, none⟩ :: rest) fr A) (hd : (ops[j]?).bind (·.dst) = some dj := by rfl) (hg : get fr dj = some (.bool b) := by rfl) (hlt : Nat.blt dj n.n = true := by rfl) : TO E n X s ops (⟨dst, o, ty, pos, after, some (j, b)⟩ :: rest) fr A :=
  ⟨fun w hw => SO_yes hd hg hlt (h.run w hw)⟩
theorem gn (h : TO E n X s ops rest ((dd, undef) :: fr) A) (hd : (ops[j]?).bind (·.dst) = some dj := by rfl) (hg : get fr dj = some (.bool b) := by rfl) (hb : b = !b' := by rfl) (hlt : Nat.blt dj n.n = true := by rfl) (hdd : Nat.blt dd n.n = true := by rfl) : TO E n X s ops (⟨some dd, o, ty, pos, after, some (j, b')⟩ :: rest) fr A :=
  ⟨fun w hw => SO_no hd hg hlt hb hdd (h.run w hw)⟩
theorem gnn (h : TO E n X s ops rest fr A) (hd : (ops[j]?).bind (·.dst) = some dj := by rfl) (hg : get fr dj = some (.bool b) := by rfl) (hb : b = !b' := by rfl) (hlt : Nat.blt dj n.n = true := by rfl) : TO E n X s ops (⟨none, o, ty, pos, after, some (j, b')⟩ :: rest) fr A :=
  ⟨fun w hw => SO_no_n hd hg hlt hb (h.run w hw)⟩
theorem gu (h : TO E n X s ops rest ((dd, undef) :: fr) A) (hd : (ops[j]?).bind (·.dst) = some dj := by rfl) (hg : get fr dj = some undef := by rfl) (hlt : Nat.blt dj n.n = true := by rfl) (hdd : Nat.blt dd n.n = true := by rfl) : TO E n X s ops (⟨some dd, o, ty, pos, after, some (j, b')⟩ :: rest) fr A :=
  ⟨fun w hw => SO_nu hd hg hlt hdd (h.run w hw)⟩
theorem TO.split {t : Nat} (h1 : b = true → TO E n X s ops l ((t, .bool true) :: fr) A) (h2 : b = false → TO E n X s ops l ((t, .bool false) :: fr) A) (hg : get fr t = some (.bool b)) : TO E n X s ops l fr A := ⟨fun w hw => SO_split hg (fun h => (h1 h).run w hw) fun h => (h2 h).run w hw⟩
theorem gs (h1 : b = true → TO E n X s ops (⟨dst, o, ty, pos, after, some (j, b')⟩ :: rest) ((dj, .bool true) :: fr) A) (h2 : b = false → TO E n X s ops (⟨dst, o, ty, pos, after, some (j, b')⟩ :: rest) ((dj, .bool false) :: fr) A)
    (hd : (ops[j]?).bind (·.dst) = some dj := by rfl) (hg : get fr dj = some (.bool b) := by rfl) : TO E n X s ops (⟨dst, o, ty, pos, after, some (j, b')⟩ :: rest) fr A := TO.split h1 h2 hg
theorem gsi {p : Prop} [Decidable p] (h1 : p → TO E n X s ops (⟨dst, o, ty, pos, after, some (j, b')⟩ :: rest) ((dj, .bool true) :: fr) A) (h2 : ¬ p → TO E n X s ops (⟨dst, o, ty, pos, after, some (j, b')⟩ :: rest) ((dj, .bool false) :: fr) A)
    (hd : (ops[j]?).bind (·.dst) = some dj := by rfl) (hg : get fr dj = some (.bool (decide p)) := by rfl) : TO E n X s ops (⟨dst, o, ty, pos, after, some (j, b')⟩ :: rest) fr A := TO.split (fun h => h1 (of_decide_eq_true h)) (fun h => h2 (of_decide_eq_false h)) hg
theorem gsn {p : Prop} [Decidable p] (h1 : ¬ p → TO E n X s ops (⟨dst, o, ty, pos, after, some (j, b')⟩ :: rest) ((dj, .bool true) :: fr) A) (h2 : p → TO E n X s ops (⟨dst, o, ty, pos, after, some (j, b')⟩ :: rest) ((dj, .bool false) :: fr) A)
    (hd : (ops[j]?).bind (·.dst) = some dj := by rfl) (hg : get fr dj = some (.bool (!decide p)) := by rfl) : TO E n X s ops (⟨dst, o, ty, pos, after, some (j, b')⟩ :: rest) fr A := TO.split (fun h => h1 (by simpa using h)) (fun h => h2 (by simpa using h)) hg
theorem qgy (h : TQ E n X s ops (⟨dst, o, ty, pos, after, none⟩ :: rest) fr A) (hd : (ops[j]?).bind (·.dst) = some dj := by rfl) (hg : get fr dj = some (.bool b) := by rfl) (hlt : Nat.blt dj n.n = true := by rfl) : TQ E n X s ops (⟨dst, o, ty, pos, after, some (j, b)⟩ :: rest) fr A := ⟨SQ_yes hd hg hlt h.run⟩
theorem qgn (h : TQ E n X s ops rest ((dd, undef) :: fr) A) (hd : (ops[j]?).bind (·.dst) = some dj := by rfl) (hg : get fr dj = some (.bool b) := by rfl) (hb : b = !b' := by rfl) (hlt : Nat.blt dj n.n = true := by rfl) (hdd : Nat.blt dd n.n = true := by rfl) : TQ E n X s ops (⟨some dd, o, ty, pos, after, some (j, b')⟩ :: rest) fr A := ⟨SQ_no hd hg hlt hb hdd h.run⟩
theorem qgu (h : TQ E n X s ops rest ((dd, undef) :: fr) A) (hd : (ops[j]?).bind (·.dst) = some dj := by rfl) (hg : get fr dj = some undef := by rfl) (hlt : Nat.blt dj n.n = true := by rfl) (hdd : Nat.blt dd n.n = true := by rfl) : TQ E n X s ops (⟨some dd, o, ty, pos, after, some (j, b')⟩ :: rest) fr A := ⟨SQ_nu hd hg hlt hdd h.run⟩
theorem qgs (h1 : b = true → TQ E n X s ops (⟨dst, o, ty, pos, after, some (j, b')⟩ :: rest) ((dj, .bool true) :: fr) A) (h2 : b = false → TQ E n X s ops (⟨dst, o, ty, pos, after, some (j, b')⟩ :: rest) ((dj, .bool false) :: fr) A)
    (hd : (ops[j]?).bind (·.dst) = some dj := by rfl) (hg : get fr dj = some (.bool b) := by rfl) : TQ E n X s ops (⟨dst, o, ty, pos, after, some (j, b')⟩ :: rest) fr A := ⟨SQ_gsplit hd hg (fun h => (h1 h).run) fun h => (h2 h).run⟩
theorem qgsi {p : Prop} [Decidable p] (h1 : p → TQ E n X s ops (⟨dst, o, ty, pos, after, some (j, b')⟩ :: rest) ((dj, .bool true) :: fr) A) (h2 : ¬ p → TQ E n X s ops (⟨dst, o, ty, pos, after, some (j, b')⟩ :: rest) ((dj, .bool false) :: fr) A)
    (hd : (ops[j]?).bind (·.dst) = some dj := by rfl) (hg : get fr dj = some (.bool (decide p)) := by rfl) : TQ E n X s ops (⟨dst, o, ty, pos, after, some (j, b')⟩ :: rest) fr A := qgs (fun h => h1 (of_decide_eq_true h)) (fun h => h2 (of_decide_eq_false h)) hd hg
theorem qgsn {p : Prop} [Decidable p] (h1 : ¬ p → TQ E n X s ops (⟨dst, o, ty, pos, after, some (j, b')⟩ :: rest) ((dj, .bool true) :: fr) A) (h2 : p → TQ E n X s ops (⟨dst, o, ty, pos, after, some (j, b')⟩ :: rest) ((dj, .bool false) :: fr) A)
    (hd : (ops[j]?).bind (·.dst) = some dj := by rfl) (hg : get fr dj = some (.bool (!decide p)) := by rfl) : TQ E n X s ops (⟨dst, o, ty, pos, after, some (j, b')⟩ :: rest) fr A := qgs (fun h => h1 (by simpa using h)) (fun h => h2 (by simpa using h)) hd hg
end

/-! ### Calls -/
section
variable {f : FuncId} {args : List Operand} {ats : Array TypeId} {vs : List Value} {pre B : List Ch} {R : Value → List Ch → Prop} {cap : Array Value} {g : Operand}
theorem Tr.at {w : World} (hf : Tr P f vs pre B R) (hs : Fit A B F) (hp : ∀ c ∈ pre, Has F c) (hw : St X A w) : Fn P f vs w fun v w' => ∃ D, R v D ∧ St X (D ++ F) w' := by
  have h1 := hw.im hs
  refine (hf.run w (lend h1.sat hp)).mono fun v w' ⟨D, hR, hS, hM, hB⟩ => ⟨D, hR, h1.step hM hS hB⟩
theorem has0 {F : List Ch} : ∀ c ∈ ([] : List Ch), Has F c := fun _ h => nomatch h
theorem has00 : ∀ c ∈ ([] : List Ch), ∀ b, ¬ c.wr b ∧ ¬ c.rd b := fun _ h => nomatch h
theorem has01 {c : Ch} {pre : List Ch} [h : Lent c] (k : ∀ c ∈ pre, ∀ b, ¬ c.wr b ∧ ¬ c.rd b) : ∀ x ∈ c :: pre, ∀ b, ¬ x.wr b ∧ ¬ x.rd b := fun x hx => by rcases List.mem_cons.1 hx with rfl | hx; exact h.lent; exact k x hx
theorem has1 {F : List Ch} {c : Ch} {pre : List Ch} (h : Has F c) (k : ∀ c ∈ pre, Has F c) : ∀ x ∈ c :: pre, Has F x := fun x hx => by rcases List.mem_cons.1 hx with rfl | hx; exact h; exact k x hx
theorem ca (hf : Tr P f vs pre B R) (k : ∀ v D, R v D → TO E n X s ops rest ((d, v) :: fr) (D ++ F)) (hv : evs fr args = some vs := by rfl) (hs : Fit A B F := by first | apply Fit.all | ((repeat (first | (apply Fit.nilN; (repeat (first | apply nrm_nil | apply nrm_cons)); try apply nrm_rfl) | (apply Fit.cons; focus ((repeat (first | apply Tk.here | apply Tk.there)); first | done | fail)))); first | done | fail))
    (hp : ∀ c ∈ pre, Has F c := by (repeat (first | exact has0 | refine has1 (by first | (apply has_vw; (repeat (first | apply List.Mem.head | apply List.Mem.tail)); first | done | fail) | (apply has_own; (repeat (first | apply List.Mem.head | apply List.Mem.tail)); first | done | fail) | (apply has_ro; (repeat (first | apply List.Mem.head | apply List.Mem.tail)); first | done | fail) | apply has_nil | ((with_reducible apply has_el); (focus (first | (apply has_vels; (repeat (first | apply List.Mem.head | apply List.Mem.tail)); first | done | fail) | (apply has_rels; (repeat (first | apply List.Mem.head | apply List.Mem.tail)); first | done | fail))); omega) | (apply has_pt; (repeat (first | apply List.Mem.head | apply List.Mem.tail)); first | done | fail) | (apply has_lpt; (repeat (first | apply List.Mem.head | apply List.Mem.tail)); first | done | fail) | (apply has_vels; (repeat (first | apply List.Mem.head | apply List.Mem.tail)); first | done | fail) | (apply has_rels; (repeat (first | apply List.Mem.head | apply List.Mem.tail)); first | done | fail) | with_reducible assumption | ((with_reducible apply has_elg); (focus (first | (apply has_velg; (repeat (first | apply List.Mem.head | apply List.Mem.tail)); first | done | fail) | (apply has_relg; (repeat (first | apply List.Mem.head | apply List.Mem.tail)); first | done | fail))); omega) | (apply has_velg; (repeat (first | apply List.Mem.head | apply List.Mem.tail)); first | done | fail) | (apply has_relg; (repeat (first | apply List.Mem.head | apply List.Mem.tail)); first | done | fail)) ?_)); first | done | fail) (hd : Nat.blt d n.n = true := by rfl) : TO E n X s ops (⟨some d, .call ⟨.value (.func f), args.toArray, ats⟩, ty, pos, after, none⟩ :: rest) fr A :=
  ⟨fun w hw => SO_call hv hd (hf.at hs hp hw) fun v w' ⟨D, hR, hS⟩ => (k v D hR).run w' hS⟩
theorem can (hf : Tr P f vs pre B R) (k : ∀ v D, R v D → TO E n X s ops rest fr (D ++ F)) (hv : evs fr args = some vs := by rfl) (hs : Fit A B F := by first | apply Fit.all | ((repeat (first | (apply Fit.nilN; (repeat (first | apply nrm_nil | apply nrm_cons)); try apply nrm_rfl) | (apply Fit.cons; focus ((repeat (first | apply Tk.here | apply Tk.there)); first | done | fail)))); first | done | fail))
    (hp : ∀ c ∈ pre, Has F c := by (repeat (first | exact has0 | refine has1 (by first | (apply has_vw; (repeat (first | apply List.Mem.head | apply List.Mem.tail)); first | done | fail) | (apply has_own; (repeat (first | apply List.Mem.head | apply List.Mem.tail)); first | done | fail) | (apply has_ro; (repeat (first | apply List.Mem.head | apply List.Mem.tail)); first | done | fail) | apply has_nil | ((with_reducible apply has_el); (focus (first | (apply has_vels; (repeat (first | apply List.Mem.head | apply List.Mem.tail)); first | done | fail) | (apply has_rels; (repeat (first | apply List.Mem.head | apply List.Mem.tail)); first | done | fail))); omega) | (apply has_pt; (repeat (first | apply List.Mem.head | apply List.Mem.tail)); first | done | fail) | (apply has_lpt; (repeat (first | apply List.Mem.head | apply List.Mem.tail)); first | done | fail) | (apply has_vels; (repeat (first | apply List.Mem.head | apply List.Mem.tail)); first | done | fail) | (apply has_rels; (repeat (first | apply List.Mem.head | apply List.Mem.tail)); first | done | fail) | with_reducible assumption | ((with_reducible apply has_elg); (focus (first | (apply has_velg; (repeat (first | apply List.Mem.head | apply List.Mem.tail)); first | done | fail) | (apply has_relg; (repeat (first | apply List.Mem.head | apply List.Mem.tail)); first | done | fail))); omega) | (apply has_velg; (repeat (first | apply List.Mem.head | apply List.Mem.tail)); first | done | fail) | (apply has_relg; (repeat (first | apply List.Mem.head | apply List.Mem.tail)); first | done | fail)) ?_)); first | done | fail) : TO E n X s ops (⟨none, .call ⟨.value (.func f), args.toArray, ats⟩, ty, pos, after, none⟩ :: rest) fr A :=
  ⟨fun w hw => SO_call_n hv (hf.at hs hp hw) fun v w' ⟨D, hR, hS⟩ => (k v D hR).run w' hS⟩
theorem cav (hf : Tr P f (vs ++ cap.toList) pre B R) (k : ∀ v D, R v D → TO E n X s ops rest ((d, v) :: fr) (D ++ F)) (hg : ev fr g = some (.func (.func f) #[] cap) := by rfl) (hv : evs fr args = some vs := by rfl) (hs : Fit A B F := by first | apply Fit.all | ((repeat (first | (apply Fit.nilN; (repeat (first | apply nrm_nil | apply nrm_cons)); try apply nrm_rfl) | (apply Fit.cons; focus ((repeat (first | apply Tk.here | apply Tk.there)); first | done | fail)))); first | done | fail))
    (hp : ∀ c ∈ pre, Has F c := by (repeat (first | exact has0 | refine has1 (by first | (apply has_vw; (repeat (first | apply List.Mem.head | apply List.Mem.tail)); first | done | fail) | (apply has_own; (repeat (first | apply List.Mem.head | apply List.Mem.tail)); first | done | fail) | (apply has_ro; (repeat (first | apply List.Mem.head | apply List.Mem.tail)); first | done | fail) | apply has_nil | ((with_reducible apply has_el); (focus (first | (apply has_vels; (repeat (first | apply List.Mem.head | apply List.Mem.tail)); first | done | fail) | (apply has_rels; (repeat (first | apply List.Mem.head | apply List.Mem.tail)); first | done | fail))); omega) | (apply has_pt; (repeat (first | apply List.Mem.head | apply List.Mem.tail)); first | done | fail) | (apply has_lpt; (repeat (first | apply List.Mem.head | apply List.Mem.tail)); first | done | fail) | (apply has_vels; (repeat (first | apply List.Mem.head | apply List.Mem.tail)); first | done | fail) | (apply has_rels; (repeat (first | apply List.Mem.head | apply List.Mem.tail)); first | done | fail) | with_reducible assumption | ((with_reducible apply has_elg); (focus (first | (apply has_velg; (repeat (first | apply List.Mem.head | apply List.Mem.tail)); first | done | fail) | (apply has_relg; (repeat (first | apply List.Mem.head | apply List.Mem.tail)); first | done | fail))); omega) | (apply has_velg; (repeat (first | apply List.Mem.head | apply List.Mem.tail)); first | done | fail) | (apply has_relg; (repeat (first | apply List.Mem.head | apply List.Mem.tail)); first | done | fail)) ?_)); first | done | fail) (hd : Nat.blt d n.n = true := by rfl) : TO E n X s ops (⟨some d, .call ⟨.value g, args.toArray, ats⟩, ty, pos, after, none⟩ :: rest) fr A :=
  ⟨fun w hw => SO_callv hg hv hd (hf.at hs hp hw) fun v w' ⟨D, hR, hS⟩ => (k v D hR).run w' hS⟩
theorem cavn (hf : Tr P f (vs ++ cap.toList) pre B R) (k : ∀ v D, R v D → TO E n X s ops rest fr (D ++ F)) (hg : ev fr g = some (.func (.func f) #[] cap) := by rfl) (hv : evs fr args = some vs := by rfl) (hs : Fit A B F := by first | apply Fit.all | ((repeat (first | (apply Fit.nilN; (repeat (first | apply nrm_nil | apply nrm_cons)); try apply nrm_rfl) | (apply Fit.cons; focus ((repeat (first | apply Tk.here | apply Tk.there)); first | done | fail)))); first | done | fail))
    (hp : ∀ c ∈ pre, Has F c := by (repeat (first | exact has0 | refine has1 (by first | (apply has_vw; (repeat (first | apply List.Mem.head | apply List.Mem.tail)); first | done | fail) | (apply has_own; (repeat (first | apply List.Mem.head | apply List.Mem.tail)); first | done | fail) | (apply has_ro; (repeat (first | apply List.Mem.head | apply List.Mem.tail)); first | done | fail) | apply has_nil | ((with_reducible apply has_el); (focus (first | (apply has_vels; (repeat (first | apply List.Mem.head | apply List.Mem.tail)); first | done | fail) | (apply has_rels; (repeat (first | apply List.Mem.head | apply List.Mem.tail)); first | done | fail))); omega) | (apply has_pt; (repeat (first | apply List.Mem.head | apply List.Mem.tail)); first | done | fail) | (apply has_lpt; (repeat (first | apply List.Mem.head | apply List.Mem.tail)); first | done | fail) | (apply has_vels; (repeat (first | apply List.Mem.head | apply List.Mem.tail)); first | done | fail) | (apply has_rels; (repeat (first | apply List.Mem.head | apply List.Mem.tail)); first | done | fail) | with_reducible assumption | ((with_reducible apply has_elg); (focus (first | (apply has_velg; (repeat (first | apply List.Mem.head | apply List.Mem.tail)); first | done | fail) | (apply has_relg; (repeat (first | apply List.Mem.head | apply List.Mem.tail)); first | done | fail))); omega) | (apply has_velg; (repeat (first | apply List.Mem.head | apply List.Mem.tail)); first | done | fail) | (apply has_relg; (repeat (first | apply List.Mem.head | apply List.Mem.tail)); first | done | fail)) ?_)); first | done | fail) : TO E n X s ops (⟨none, .call ⟨.value g, args.toArray, ats⟩, ty, pos, after, none⟩ :: rest) fr A :=
  ⟨fun w hw => SO_callv_n hg hv (hf.at hs hp hw) fun v w' ⟨D, hR, hS⟩ => (k v D hR).run w' hS⟩
/-- In a drawn region: a call whose value is determined, and that leaves the pieces as they are. -/
theorem qca (hf : Tr P f vs pre [] R) (hR : ∀ u D, R u D → u = v ∧ D = []) (k : TQ E n X s ops rest ((d, v) :: fr) A) (hv : evs fr args = some vs := by rfl)
    (hp : ∀ c ∈ pre, Has A c := by (repeat (first | exact has0 | refine has1 (by first | (apply has_vw; (repeat (first | apply List.Mem.head | apply List.Mem.tail)); first | done | fail) | (apply has_own; (repeat (first | apply List.Mem.head | apply List.Mem.tail)); first | done | fail) | (apply has_ro; (repeat (first | apply List.Mem.head | apply List.Mem.tail)); first | done | fail) | apply has_nil | ((with_reducible apply has_el); (focus (first | (apply has_vels; (repeat (first | apply List.Mem.head | apply List.Mem.tail)); first | done | fail) | (apply has_rels; (repeat (first | apply List.Mem.head | apply List.Mem.tail)); first | done | fail))); omega) | (apply has_pt; (repeat (first | apply List.Mem.head | apply List.Mem.tail)); first | done | fail) | (apply has_lpt; (repeat (first | apply List.Mem.head | apply List.Mem.tail)); first | done | fail) | (apply has_vels; (repeat (first | apply List.Mem.head | apply List.Mem.tail)); first | done | fail) | (apply has_rels; (repeat (first | apply List.Mem.head | apply List.Mem.tail)); first | done | fail) | with_reducible assumption | ((with_reducible apply has_elg); (focus (first | (apply has_velg; (repeat (first | apply List.Mem.head | apply List.Mem.tail)); first | done | fail) | (apply has_relg; (repeat (first | apply List.Mem.head | apply List.Mem.tail)); first | done | fail))); omega) | (apply has_velg; (repeat (first | apply List.Mem.head | apply List.Mem.tail)); first | done | fail) | (apply has_relg; (repeat (first | apply List.Mem.head | apply List.Mem.tail)); first | done | fail)) ?_)); first | done | fail) (hd : Nat.blt d n.n = true := by rfl) : TQ E n X s ops (⟨some d, .call ⟨.value (.func f), args.toArray, ats⟩, ty, pos, after, none⟩ :: rest) fr A :=
  ⟨SQ_call hv hd (fun w hw => (hf.at (F := A) Fit.nil hp hw).mono fun u w' ⟨D, hu, hS⟩ => by obtain ⟨rfl, rfl⟩ := hR u D hu; exact ⟨rfl, hS⟩) k.run⟩
end

/-! ### The end -/
section
variable {R : Value → List Ch → Prop} {fn : Func} {w0 : World} {A0 D G : List Ch} {t t2 t3 nn : Nat} {v1 v2 v3 : Value}
theorem PR.mk {w : World} (h : R v D) (hw : St ⟨bodyPost P fn (RetP (PR w0 A0 R)), w0, A0⟩ A w) (hf : Fit A D G) (nb : ∀ c ∈ D, ∀ b, ¬ c.bd b) : PR w0 A0 R v w := by
  have h1 := hw.im (Im.trans hf (Im.drop _ _))
  exact ⟨D, h, h1.sat, h1.mv, nb⟩
theorem nb0 : ∀ c ∈ ([] : List Ch), ∀ b, ¬ c.bd b := fun _ h => nomatch h
theorem nb1 {c : Ch} {D : List Ch} [h : NoB c] (k : ∀ c ∈ D, ∀ b, ¬ c.bd b) : ∀ x ∈ c :: D, ∀ b, ¬ x.bd b := fun x hx => by rcases List.mem_cons.1 hx with rfl | hx; exact h.nb; exact k x hx
theorem r0 (h : R (.tuple #[]) D) (hr : fn.results = #[] := by rfl) (hf : Fit A D G := by first | apply Fit.all | ((repeat (first | (apply Fit.nilN; (repeat (first | apply nrm_nil | apply nrm_cons)); try apply nrm_rfl) | (apply Fit.cons; focus ((repeat (first | apply Tk.here | apply Tk.there)); first | done | fail)))); first | done | fail)) (nb : ∀ c ∈ D, ∀ b, ¬ c.bd b := by (repeat (first | exact nb0 | refine nb1 ?_)); first | done | fail) :
    TX E ⟨nn, [], none⟩ ⟨bodyPost P fn (RetP (PR w0 A0 R)), w0, A0⟩ [] .ret fr A := ⟨fun w hw => SX_ret0 rfl hr (PR.mk h hw hf nb)⟩
theorem e0 (h : R (.tuple #[]) D) (hr : fn.results = #[] := by rfl) (hf : Fit A D G := by first | apply Fit.all | ((repeat (first | (apply Fit.nilN; (repeat (first | apply nrm_nil | apply nrm_cons)); try apply nrm_rfl) | (apply Fit.cons; focus ((repeat (first | apply Tk.here | apply Tk.there)); first | done | fail)))); first | done | fail)) (nb : ∀ c ∈ D, ∀ b, ¬ c.bd b := by (repeat (first | exact nb0 | refine nb1 ?_)); first | done | fail) :
    TX E ⟨nn, [], none⟩ ⟨bodyPost P fn (RetP (PR w0 A0 R)), w0, A0⟩ [] .normal fr A := ⟨fun w hw => SX_end0 rfl hr (PR.mk h hw hf nb)⟩
theorem r1 (h : R v D) (hr : fn.results = #[.tmp t] := by rfl) (hv : get fr t = some v := by rfl) (hf : Fit A D G := by first | apply Fit.all | ((repeat (first | (apply Fit.nilN; (repeat (first | apply nrm_nil | apply nrm_cons)); try apply nrm_rfl) | (apply Fit.cons; focus ((repeat (first | apply Tk.here | apply Tk.there)); first | done | fail)))); first | done | fail)) (nb : ∀ c ∈ D, ∀ b, ¬ c.bd b := by (repeat (first | exact nb0 | refine nb1 ?_)); first | done | fail) :
    TX E ⟨nn, [], none⟩ ⟨bodyPost P fn (RetP (PR w0 A0 R)), w0, A0⟩ [] .ret fr A := ⟨fun w hw => SX_ret1 rfl hr hv (PR.mk h hw hf nb)⟩
theorem r2 (h : R (.tuple #[v1, v2]) D) (hr : fn.results = #[.tmp t, .tmp t2] := by rfl) (hv : get fr t = some v1 := by rfl) (hv2 : get fr t2 = some v2 := by rfl) (hf : Fit A D G := by first | apply Fit.all | ((repeat (first | (apply Fit.nilN; (repeat (first | apply nrm_nil | apply nrm_cons)); try apply nrm_rfl) | (apply Fit.cons; focus ((repeat (first | apply Tk.here | apply Tk.there)); first | done | fail)))); first | done | fail)) (nb : ∀ c ∈ D, ∀ b, ¬ c.bd b := by (repeat (first | exact nb0 | refine nb1 ?_)); first | done | fail) :
    TX E ⟨nn, [], none⟩ ⟨bodyPost P fn (RetP (PR w0 A0 R)), w0, A0⟩ [] .ret fr A := ⟨fun w hw => SX_ret2 rfl hr hv hv2 (PR.mk h hw hf nb)⟩
theorem r3 (h : R (.tuple #[v1, v2, v3]) D) (hr : fn.results = #[.tmp t, .tmp t2, .tmp t3] := by rfl) (hv : get fr t = some v1 := by rfl) (hv2 : get fr t2 = some v2 := by rfl) (hv3 : get fr t3 = some v3 := by rfl) (hf : Fit A D G := by first | apply Fit.all | ((repeat (first | (apply Fit.nilN; (repeat (first | apply nrm_nil | apply nrm_cons)); try apply nrm_rfl) | (apply Fit.cons; focus ((repeat (first | apply Tk.here | apply Tk.there)); first | done | fail)))); first | done | fail))
    (nb : ∀ c ∈ D, ∀ b, ¬ c.bd b := by (repeat (first | exact nb0 | refine nb1 ?_)); first | done | fail) : TX E ⟨nn, [], none⟩ ⟨bodyPost P fn (RetP (PR w0 A0 R)), w0, A0⟩ [] .ret fr A := ⟨fun w hw => SX_ret3 rfl hr hv hv2 hv3 (PR.mk h hw hf nb)⟩
end
/-- A contract of the elder kind. -/
theorem Tr.of_fn {f : FuncId} {args : List Value} {pre : List Ch} {R : Value → List Ch → Prop} (lent : ∀ c ∈ pre, ∀ b, ¬ c.wr b ∧ ¬ c.rd b) (h : ∀ w, Sat pre w → Fn P f args w fun v w' => Ext w w' ∧ ∃ D, R v D ∧ Sat D w' ∧ (∀ b, fts D b → w.heap.size ≤ b) ∧ ∀ c ∈ D, ∀ b, ¬ c.bd b) : Tr P f args pre [] R :=
  ⟨fun w hw => (h w (by simpa using hw)).mono fun v w' ⟨hE, D, h1, h2, h3, h4⟩ => ⟨D, h1, h2, Mv.upd hE (by simp) (fun b hb => .inr (h3 b hb.ft)) (fun b hb => .inr (.inr (h3 b hb.ft))), h4⟩, lent⟩
theorem Tr.fn {f : FuncId} {args : List Value} {pre : List Ch} {R : Value → List Ch → Prop} (h : Tr P f args pre [] R) {w : World} (hw : Sat pre w) : Fn P f args w fun v w' => Ext w w' ∧ ∃ D, R v D ∧ Sat D w' ∧ ∀ b, fts D b → w.heap.size ≤ b :=
  (h.run w (by simpa using hw)).mono fun v w' ⟨D, h1, h2, h3, h4⟩ => ⟨⟨h3.os, h3.tape, h3.output, h3.size, fun k hk _ => h3.block k hk wrs_nil⟩, D, h1, h2, fun b ⟨c, hc, hb⟩ => by
    rcases hb with hb | hb | hb
    · rcases h3.wr b ⟨c, hc, hb⟩ with h | h; exact absurd h wrs_nil; exact h
    · rcases h3.rd b ⟨c, hc, hb⟩ with h | h | h; exact absurd h wrs_nil; exact absurd h rds_nil; exact h
    · exact absurd hb (h4 c hc b)⟩
end
end Go.Art
