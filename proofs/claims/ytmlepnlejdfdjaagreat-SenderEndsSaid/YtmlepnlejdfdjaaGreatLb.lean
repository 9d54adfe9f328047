/- Texts put together: U V R W S M. Conditions: none. -/
import Derived.Test.YtmlepnlejdfdjaaGreatLa
set_option linter.unusedSimpArgs false
set_option linter.unusedVariables false
namespace Go.Art
open Go Go.RowKit

/-- Where a walk stands: what is wanted, and the world and the pieces that it began with. -/
structure Cx where
  Q : Exit → Act → World → Prop
  w0 : World
  A0 : List Ch
structure St (X : Cx) (A : List Ch) (w : World) : Prop where
  sat : Sat A w
  mv : Mv X.w0 X.A0 w A
theorem St.im {X : Cx} {A B : List Ch} {w : World} (h : St X A w) (i : Im A B) : St X B w :=
  ⟨i.sat w h.sat, h.mv.trans ⟨rfl, rfl, rfl, Nat.le_refl _, fun _ _ _ => rfl, fun b hb => .inl (i.wr b hb), fun b hb => by rcases i.rd b hb with h1 | h1; exact .inl h1; exact .inr (.inl h1)⟩⟩
theorem St.step {X : Cx} {A B F : List Ch} {w w' : World} (h : St X (A ++ F) w) (m : Mv w A w' B) (hb : Sat B w') (nb : ∀ c ∈ B, ∀ b, ¬ c.bd b) : St X (B ++ F) w' :=
  ⟨(m.frame h.sat hb nb).1, h.mv.trans (m.frame h.sat hb nb).2⟩
theorem St.ext {X : Cx} {A : List Ch} {w w' : World} (h : St X A w) (u : Ext w w') : St X A w' := h.step (A := []) (B := []) (Mv.of_ext u []) (Sat.nil _) (by simp)
theorem St.has {X : Cx} {A : List Ch} {w : World} {c : Ch} (h : St X A w) (hc : Has A c) : c.P w := hc.P w h.sat
theorem St.mem {X : Cx} {A : List Ch} {w : World} {c : Ch} (h : St X A w) (hc : c ∈ A) : c.P w := h.sat.h c hc
/-- A new piece. -/
theorem St.new {X : Cx} {A : List Ch} {w w' : World} {c : Ch} (h : St X A w) (u : Ext w w') (hc : c.P w') (h1 : ∀ b, c.ft b → w.heap.size ≤ b) (h2 : ∀ b, ¬ c.bd b) : St X (c :: A) w' :=
  h.step (A := []) (B := [c]) (Mv.upd u (by simp) (fun b hb => .inr (h1 b (.inl (wrs_one.1 hb)))) (fun b hb => .inr (.inr (h1 b (.inr (.inl (rds_one.1 hb))))))) (Sat.one hc) (by simpa using h2)
/-- A piece is changed in place. -/
theorem St.set {X : Cx} {A : List Ch} {w w' : World} {c d : Ch} {S : List Nat} (h : St X (c :: A) w) (u : Upd w w' S) (hS : ∀ b ∈ S, c.wr b ∨ w.heap.size ≤ b) (hd : d.P w') (h1 : ∀ b, d.ft b → c.wr b ∨ w.heap.size ≤ b) (h2 : ∀ b, ¬ d.bd b) : St X (d :: A) w' :=
  h.step (A := [c]) (B := [d]) (Mv.upd u (fun b hb => by rcases hS b hb with h | h; exact .inl (wrs_one.2 h); exact .inr h)
    (fun b hb => by rcases h1 b (.inl (wrs_one.1 hb)) with h | h; exact .inl (wrs_one.2 h); exact .inr h)
    (fun b hb => by rcases h1 b (.inr (.inl (rds_one.1 hb))) with h | h; exact .inl (wrs_one.2 h); exact .inr (.inr h))) (Sat.one hd) (by simpa using h2)

section
structure TC {P : Program} (E : Env P) (n : Sh) (X : Cx) (s : List K) (c : Code) (fr : Fr) (A : List Ch) : Prop where
  run : ∀ w, St X A w → SC E n X.Q s c fr w
structure TX {P : Program} (E : Env P) (n : Sh) (X : Cx) (s : List K) (e : Exit) (fr : Fr) (A : List Ch) : Prop where
  run : ∀ w, St X A w → SX E n X.Q s e fr w
structure TO {P : Program} (E : Env P) (n : Sh) (X : Cx) (s : List K) (ops : Array Oper) (l : List Oper) (fr : Fr) (A : List Ch) : Prop where
  run : ∀ w, St X A w → SO E n X.Q s ops l fr w
structure TQ {P : Program} (E : Env P) (n : Sh) (X : Cx) (s : List K) (ops : Array Oper) (l : List Oper) (fr : Fr) (A : List Ch) : Prop where
  run : SQ E n X.Q s (St X A) ops l fr
structure TA {P : Program} (E : Env P) (n : Sh) (X : Cx) (s : List K) (ops : Array Oper) (fuel : Nat) (listed : Array Bool) (fr : Fr) (A : List Ch) : Prop where
  run : ∀ w, St X A w → SA E n (NP P n.r X.Q s) ops fuel listed fr w

/-- What is asked of the end. -/
def PR (w0 : World) (A0 : List Ch) (R : Value → List Ch → Prop) (v : Value) (w' : World) : Prop := ∃ B, R v B ∧ Sat B w' ∧ Mv w0 A0 w' B ∧ ∀ c ∈ B, ∀ b, ¬ c.bd b
/-- The contract of a function: pre is lent to it, A is given, R tells what it hands back. -/
structure Tr (P : Program) (f : FuncId) (args : List Value) (pre A : List Ch) (R : Value → List Ch → Prop) : Prop where
  run : ∀ w, Sat (pre ++ A) w → Fn P f args w (PR w A R)
  lent : ∀ c ∈ pre, ∀ b, ¬ c.wr b ∧ ¬ c.rd b
end

section
variable {P : Program} {E : Env P} {n : Sh} {X : Cx} {s : List K} {fr : Fr} {A A' B F : List Ch} {ops : Array Oper} {rest l : List Oper} {d : Nat} {o : Op} {ty : TypeId} {pos : String} {after : Array Edge} {v u : Value} {c0 : Code} {e : Exit}

theorem Tr.mono {f : FuncId} {args : List Value} {pre A : List Ch} {R R' : Value → List Ch → Prop} (h : Tr P f args pre A R) (hr : ∀ v B, R v B → R' v B) : Tr P f args pre A R' :=
  ⟨fun w hw => (h.run w hw).mono fun v w' ⟨B, h1, h2⟩ => ⟨B, hr v B h1, h2⟩, h.lent⟩
theorem Tr.enter {f : FuncId} {fn : Func} {c : Code} {args : List Value} {pre A : List Ch} {R : Value → List Ch → Prop} (E : Env P) (n : Nat) (hf : P.funcs[f]? = some fn) (hnm : (fn.name == "runtime.NumGoroutine") = false) (hb : fn.body = some c)
    (hn : fn.ntmps = n) (hl : Nat.ble args.length n = true) (hp : ∀ c ∈ pre, ∀ b, ¬ c.wr b ∧ ¬ c.rd b) (h : ∀ w0, TC E ⟨n, [], none⟩ ⟨bodyPost P fn (RetP (PR w0 A R)), w0, A⟩ [] c (argFr args 0) (pre ++ A)) : Tr P f args pre A R := by
  refine ⟨fun w hw => Fn.enter E n hf hnm hb hn hl ((h w).run w ⟨hw, Mv.refl w A |>.trans ⟨rfl, rfl, rfl, Nat.le_refl _, fun _ _ _ => rfl, fun b hb => ?_, fun b hb => ?_⟩⟩), hp⟩
  · rcases wrs_app.1 hb with ⟨c, hc, h1⟩ | h1
    · exact absurd h1 (hp c hc b).1
    · exact .inl h1
  · rcases rds_app.1 hb with ⟨c, hc, h1⟩ | h1
    · exact absurd h1 (hp c hc b).2
    · exact .inr (.inl h1)
theorem Tr.enterM {f : FuncId} {fn : Func} {c : Code} {args : List Value} {pre A : List Ch} {R : Value → List Ch → Prop} (E : Env P) (n : Nat) (hf : P.funcs[f]? = some fn) (hnm : (fn.name == "runtime.NumGoroutine") = false) (hb : fn.body = some c)
    (hn : fn.ntmps = n) (hl : Nat.ble args.length n = true) (hp : ∀ c ∈ pre, ∀ b, ¬ c.wr b ∧ ¬ c.rd b) (h : ∀ w0, TC E ⟨n, [], none⟩ ⟨bodyPostM (FF none) 0 P fn (RetP (PR w0 A R)), w0, A⟩ [] c (argFr args 0) (pre ++ A)) : Tr P f args pre A R := by
  refine ⟨fun w hw => Fn.enterM E n hf hnm hb hn hl ((h w).run w ⟨hw, Mv.refl w A |>.trans ⟨rfl, rfl, rfl, Nat.le_refl _, fun _ _ _ => rfl, fun b hb => ?_, fun b hb => ?_⟩⟩), hp⟩
  · rcases wrs_app.1 hb with ⟨c, hc, h1⟩ | h1
    · exact absurd h1 (hp c hc b).1
    · exact .inl h1
  · rcases rds_app.1 hb with ⟨c, hc, h1⟩ | h1
    · exact absurd h1 (hp c hc b).2
    · exact .inr (.inl h1)

/-! ### Control -/
theorem sq {a b : Code} (h : TC E n X (.code b :: s) a fr A) : TC E n X s (.seq a b) fr A := ⟨fun w hw => SC_seq (h.run w hw)⟩
theorem sk (h : TX E n X s .normal fr A) : TC E n X s .skip fr A := ⟨fun w hw => SC_skip (h.run w hw)⟩
theorem bk {id : Nat} (h : TC E n X (.block id :: s) c0 fr A) : TC E n X s (.block id c0) fr A := ⟨fun w hw => SC_block (h.run w hw)⟩
theorem rg {id : Nat} (h : TO E n X s l.toArray l fr A) : TC E n X s (.region id l.toArray false) fr A := ⟨fun w hw => SC_region (h.run w hw)⟩
theorem rq {id : Nat} (h : TQ E n X s l.toArray l fr A) (hB : Region.lexB .any l.toArray = true := by kernel_rfl) : TC E n X s (.region id l.toArray true) fr A :=
  ⟨fun w hw => SC_regionQ (St X A) hB (hw.ext (Upd.draw w)) h.run⟩
theorem ra {id : Nat} (h : TA E n X s l.toArray l.length (Array.replicate l.length false) fr A) : TC E n X s (.region id l.toArray true) fr A :=
  ⟨fun w hw => SC_regionA (h.run _ (hw.ext (Upd.draw w)))⟩
theorem nl (h : TX E n X s .normal fr A) : TO E n X s ops [] fr A := ⟨fun w hw => SO_nil (h.run w hw)⟩
theorem nq (h : TX E n X s .normal fr A) : TQ E n X s ops [] fr A := ⟨SQ_nil fun w hw => h.run w hw⟩
theorem xc {y : Code} (h : TC E n X s y fr A) : TX E n X (.code y :: s) .normal fr A := ⟨fun w hw => SX_code (h.run w hw)⟩
theorem xb {id : Nat} (h : TX E n X s .normal fr A) : TX E n X (.block id :: s) .normal fr A := ⟨fun w hw => SX_block (h.run w hw)⟩
theorem xe {id : Nat} {s' : List K} (k : TX E n X s' .normal fr A) (h : popX id s = some s' := by rfl) : TC E n X s (.exit id) fr A := ⟨fun w hw => SC_e h (k.run w hw)⟩
theorem rt (h : TX E n X [] .ret fr A) : TC E n X s .ret fr A := ⟨fun w hw => SC_r (h.run w hw)⟩
theorem ct {c : Operand} {x y : Code} (h : TC E n X s x fr A) (hc : ev fr c = some (.bool true) := by rfl) : TC E n X s (.cond c x y) fr A := ⟨fun w hw => SC_cond_t hc (h.run w hw)⟩
theorem cf {c : Operand} {x y : Code} (h : TC E n X s y fr A) (hc : ev fr c = some (.bool false) := by rfl) : TC E n X s (.cond c x y) fr A := ⟨fun w hw => SC_cond_f hc (h.run w hw)⟩
theorem cb {c : Operand} {x y : Code} {t : Bool} (h1 : t = true → TC E n X s x fr A) (h2 : t = false → TC E n X s y fr A) (hc : ev fr c = some (.bool t) := by rfl) : TC E n X s (.cond c x y) fr A :=
  ⟨fun w hw => SC_cond hc (fun h => (h1 h).run w hw) fun h => (h2 h).run w hw⟩
theorem ci {c : Operand} {x y : Code} {p : Prop} [Decidable p] (h1 : p → TC E n X s x fr A) (h2 : ¬ p → TC E n X s y fr A) (hc : ev fr c = some (.bool (decide p)) := by rfl) : TC E n X s (.cond c x y) fr A :=
  cb (fun h => h1 (of_decide_eq_true h)) (fun h => h2 (of_decide_eq_false h)) hc
theorem cn {c : Operand} {x y : Code} {p : Prop} [Decidable p] (h1 : ¬ p → TC E n X s x fr A) (h2 : p → TC E n X s y fr A) (hc : ev fr c = some (.bool (!decide p)) := by rfl) : TC E n X s (.cond c x y) fr A :=
  cb (fun h => h1 (by simpa using h)) (fun h => h2 (by simpa using h)) hc
theorem gc {c : Operand} {a b : Code} (h : TC E n X s (.cond c a b) fr A) : TC E n X s (.cond c a b) fr A := h
theorem TC.im (i : Im A B) (h : TC E n X s c0 fr B) : TC E n X s c0 fr A := ⟨fun w hw => h.run w (hw.im i)⟩
theorem TX.im (i : Im A B) (h : TX E n X s e fr B) : TX E n X s e fr A := ⟨fun w hw => h.run w (hw.im i)⟩
theorem TO.im (i : Im A B) (h : TO E n X s ops l fr B) : TO E n X s ops l fr A := ⟨fun w hw => h.run w (hw.im i)⟩
/-- A fact that the pieces bear. -/
theorem TC.fact {p : Prop} (hp : ∀ w, Sat A w → p) (h : p → TC E n X s c0 fr A) : TC E n X s c0 fr A := ⟨fun w hw => (h (hp w hw.sat)).run w hw⟩
theorem TO.fact {p : Prop} (hp : ∀ w, Sat A w → p) (h : p → TO E n X s ops l fr A) : TO E n X s ops l fr A := ⟨fun w hw => (h (hp w hw.sat)).run w hw⟩
theorem TX.fact {p : Prop} (hp : ∀ w, Sat A w → p) (h : p → TX E n X s e fr A) : TX E n X s e fr A := ⟨fun w hw => (h (hp w hw.sat)).run w hw⟩

/-! ### Loops -/
/-- Slots that stay. -/
def pickK : List Nat → Fr → (Fr → Prop) → Prop
  | [], _, k => k []
  | t :: ts, fr, k => match get fr t with
    | some v => pickK ts fr fun r => k ((t, v) :: r)
    | none => pickK ts fr k
theorem pickK_sub : ∀ {ts : List Nat} {fr : Fr} {k : Fr → Prop}, pickK ts fr k → ∃ fr', Sub fr' fr ∧ k fr'
  | [], _, _, h => ⟨[], Sub.nil, h⟩
  | t :: ts, fr, k, h => by
    simp only [pickK] at h
    split at h
    · rename_i v hv
      obtain ⟨fr', h1, h2⟩ := pickK_sub h
      exact ⟨_, Sub.cons hv rfl h1, h2⟩
    · exact pickK_sub h
theorem Sub.app : ∀ {a b fr : Fr}, Sub a fr → Sub b fr → Sub (a ++ b) fr
  | [], _, _, _, hb => hb
  | (t, v) :: a, b, fr, ha, hb => by
    intro x u hx
    simp only [List.cons_append, get] at hx
    by_cases htx : t = x
    · subst htx
      refine ha t u ?_
      simpa [get] using hx
    · have e : (Nat.beq t x) = false := nbeq_f htx
      simp only [e, cond_false] at hx
      have hsub : Sub (a ++ b) fr ∨ True := .inr trivial
      by_cases hax : get a x = none
      · have hab : ∀ (a : Fr), get a x = none → get (a ++ b) x = get b x := by
          intro a
          induction a with
          | nil => intro _; rfl
          | cons p r ih =>
            intro hp
            obtain ⟨pt, pv⟩ := p
            simp only [get] at hp
            cases hb : Nat.beq pt x with
            | true => rw [hb] at hp; cases hp
            | false => rw [hb, cond_false] at hp; simp only [List.cons_append, get, hb, cond_false]; exact ih hp
        rw [hab a hax] at hx
        exact hb x u hx
      · obtain ⟨z, hz⟩ : ∃ z, get a x = some z := by
          cases hg : get a x with
          | none => exact absurd hg hax
          | some z => exact ⟨z, rfl⟩
        have hab : ∀ (a : Fr), get a x = some z → get (a ++ b) x = some z := by
          intro a
          induction a with
          | nil => intro h; cases h
          | cons p r ih =>
            intro hp
            obtain ⟨pt, pv⟩ := p
            simp only [get] at hp
            cases hb : Nat.beq pt x with
            | true => rw [hb] at hp; simp only [List.cons_append, get, hb]; exact hp
            | false => rw [hb, cond_false] at hp; simp only [List.cons_append, get, hb, cond_false]; exact ih hp
        rw [hab a hz] at hx
        cases hx
        refine ha x _ ?_
        simp only [get, e, cond_false]; exact hz
def LoopT (n : Sh) (X : Cx) {ι : Type} (inv : ι → Fr) (J : ι → List Ch) (I : ι → Prop) (μ : ι → Nat) (i : ι) (a : Act) (w : World) : Prop :=
  ∃ i', I i' ∧ Holds n a (inv i') ∧ St X (J i') w ∧ μ i' < μ i
theorem SC.weakK {w : World} : SC E n X.Q s c0 fr w → SC E n X.Q s c0 fr w := id
/-- A loop: at its head stand the slots inv and the pieces J, at some ghost i for which I; slots 'keep' and pieces F stay as they are. -/
theorem TC.loop {ι : Type} (inv : ι → Fr) (J : ι → List Ch) (I : ι → Prop) (μ : ι → Nat) (i0 : ι) (keep : List Nat) (h0 : I i0)
    (round : pickK keep fr fun kp => ∀ i, I i → TC E n X (.loop (LoopT n X (fun i => inv i ++ kp) (fun i => J i ++ F) I μ i) :: s) c0 (inv i ++ kp) (J i ++ F)) (hs : Sub (inv i0) fr := by (repeat (refine Sub.cons rfl (by first | rfl | go_num) ?_)); exact Sub.nil) (hf : Fit A (J i0) F := by first | apply Fit.all | ((repeat (first | (apply Fit.nilN; (repeat (first | apply nrm_nil | apply nrm_cons)); try apply nrm_rfl) | (apply Fit.cons; focus ((repeat (first | apply Tk.here | apply Tk.there)); first | done | fail)))); first | done | fail)) : TC E n X s (.loop c0) fr A := by
  obtain ⟨kp, hk, round⟩ := pickK_sub round
  refine ⟨fun w hw => ?_⟩
  have key : LoopK n (ι := ι) (fun i => inv i ++ kp) (fun i w => I i ∧ St X (J i ++ F) w) μ = fun i => LoopT n X (fun i => inv i ++ kp) (fun i => J i ++ F) I μ i := by
    funext i a w
    apply propext
    constructor
    · rintro ⟨i', ⟨h1, h2⟩, h3, h4⟩; exact ⟨i', h1, h3, h2, h4⟩
    · rintro ⟨i', h1, h3, h2, h4⟩; exact ⟨i', ⟨h1, h2⟩, h3, h4⟩
  refine SC_loop (ι := ι) (fun i => inv i ++ kp) (fun i w => I i ∧ St X (J i ++ F) w) μ i0 ⟨h0, hw.im hf⟩ (Sub.app hs hk) fun i w' ⟨hI, hS⟩ => ?_
  rw [key]
  exact (round i hI).run w' hS
theorem lp {ι : Type} {inv : ι → Fr} {J : ι → List Ch} {I : ι → Prop} {μ : ι → Nat} {i : ι} {G : List Ch} (i' : ι) (h : I i') (hs : Sub (inv i') fr := by (repeat (refine Sub.cons rfl (by first | rfl | go_num) ?_)); exact Sub.nil) (hf : Fit A (J i') G := by first | apply Fit.all | ((repeat (first | (apply Fit.nilN; (repeat (first | apply nrm_nil | apply nrm_cons)); try apply nrm_rfl) | (apply Fit.cons; focus ((repeat (first | apply Tk.here | apply Tk.there)); first | done | fail)))); first | done | fail)) (hlt : μ i' < μ i := by first | omega | (dsimp only; omega)) :
    TX E n X (.loop (LoopT n X inv J I μ i) :: s) .normal fr A :=
  ⟨fun w hw => ⟨fun _ ha => ⟨i', h, ha.sub hs, hw.im (Im.trans hf (Im.drop _ _)), hlt⟩⟩⟩
/-- A cut: what is known is named anew. -/
theorem TC.cut (fr' : Fr) (B : List Ch) (h : TC E n X s c0 fr' (B ++ F)) (hs : Sub fr' fr := by (repeat (refine Sub.cons rfl (by first | rfl | go_num) ?_)); exact Sub.nil) (hf : Fit A B F := by first | apply Fit.all | ((repeat (first | (apply Fit.nilN; (repeat (first | apply nrm_nil | apply nrm_cons)); try apply nrm_rfl) | (apply Fit.cons; focus ((repeat (first | apply Tk.here | apply Tk.there)); first | done | fail)))); first | done | fail)) : TC E n X s c0 fr A := ⟨fun w hw => SC_sub fr' hs (h.run w (hw.im hf))⟩
theorem TX.cut (fr' : Fr) (B : List Ch) (h : TX E n X s e fr' (B ++ F)) (hs : Sub fr' fr := by (repeat (refine Sub.cons rfl (by first | rfl | go_num) ?_)); exact Sub.nil) (hf : Fit A B F := by first | apply Fit.all | ((repeat (first | (apply Fit.nilN; (repeat (first | apply nrm_nil | apply nrm_cons)); try apply nrm_rfl) | (apply Fit.cons; focus ((repeat (first | apply Tk.here | apply Tk.there)); first | done | fail)))); first | done | fail)) : TX E n X s e fr A := ⟨fun w hw => SX_sub fr' hs (h.run w (hw.im hf))⟩

/-! ### Operations -/
theorem TO.val (hr : ∀ w, Sat A w → OpV P n fr o ty w v w) (k : TO E n X s ops rest ((d, v) :: fr) A) (hd : Nat.blt d n.n = true := by rfl) : TO E n X s ops (⟨some d, o, ty, pos, after, none⟩ :: rest) fr A :=
  ⟨fun w hw => SO_v hd (hr w hw.sat) (k.run w hw)⟩
theorem TQ.val (hr : ∀ w, Sat A w → OpV P n fr o ty w v w) (k : TQ E n X s ops rest ((d, v) :: fr) A) (hd : Nat.blt d n.n = true := by rfl) : TQ E n X s ops (⟨some d, o, ty, pos, after, none⟩ :: rest) fr A :=
  ⟨SQ_v hd (fun w hw => hr w hw.sat) k.run⟩
theorem oa (k : TO E n X s ops rest ((d, v) :: fr) A) (h : evOp E fr o = some v := by rfl) (hd : Nat.blt d n.n = true := by rfl) : TO E n X s ops (⟨some d, o, ty, pos, after, none⟩ :: rest) fr A := TO.val (fun _ _ => R_auto h) k hd
theorem qa (k : TQ E n X s ops rest ((d, v) :: fr) A) (h : evOp E fr o = some v := by rfl) (hd : Nat.blt d n.n = true := by rfl) : TQ E n X s ops (⟨some d, o, ty, pos, after, none⟩ :: rest) fr A := TQ.val (fun _ _ => R_auto h) k hd
section
variable {op : BinOp} {t t' : TypeId} {x y : Operand} {m q : Int} {z : Value} {by_ : Nat} {el : TypeId} {xs : List Value} {i : Int} {k1 k2 : IntKind} {lo hi : Int} {z1 z2 : Operand}
theorem aw (k : TO E n X s ops rest ((d, I m) :: fr) A) (h : evOp E fr (.binOp op t x y t') = some (.int .i64 (IntKind.i64.wrap m)) := by rfl) (hb : -9223372036854775808 ≤ m ∧ m ≤ 9223372036854775807 := by omega) (hd : Nat.blt d n.n = true := by rfl) :
    TO E n X s ops (⟨some d, .binOp op t x y t', ty, pos, after, none⟩ :: rest) fr A := TO.val (fun _ _ => R_wrap (R_auto h) hb) k hd
theorem qaw (k : TQ E n X s ops rest ((d, I m) :: fr) A) (h : evOp E fr (.binOp op t x y t') = some (.int .i64 (IntKind.i64.wrap m)) := by rfl) (hb : -9223372036854775808 ≤ m ∧ m ≤ 9223372036854775807 := by omega) (hd : Nat.blt d n.n = true := by rfl) :
    TQ E n X s ops (⟨some d, .binOp op t x y t', ty, pos, after, none⟩ :: rest) fr A := TQ.val (fun _ _ => R_wrap (R_auto h) hb) k hd
theorem ao (h : TO E n X s ops (⟨some d, .binOp op t x y t', ty, pos, after, none⟩ :: rest) fr A) : TO E n X s ops (⟨some d, .binOp op t x y t', ty, pos, after, none⟩ :: rest) fr A := h
theorem qao (h : TQ E n X s ops (⟨some d, .binOp op t x y t', ty, pos, after, none⟩ :: rest) fr A) : TQ E n X s ops (⟨some d, .binOp op t x y t', ty, pos, after, none⟩ :: rest) fr A := h
theorem wo (h : TO E n X s ops l fr A) : TO E n X s ops l fr A := h
theorem wq (h : TQ E n X s ops l fr A) : TQ E n X s ops l fr A := h
theorem adiv (k : TO E n X s ops rest ((d, I (m / q)) :: fr) A) (hx : ev fr x = some (I m) := by rfl) (hy : ev fr y = some (I q) := by rfl) (hb : 0 ≤ m ∧ m ≤ 9223372036854775807 ∧ 1 ≤ q := by omega) (hd : Nat.blt d n.n = true := by rfl) :
    TO E n X s ops (⟨some d, .binOp .quo t x y t', ty, pos, after, none⟩ :: rest) fr A := TO.val (fun _ _ => R_quo64 hx hy hb) k hd
theorem amod (k : TO E n X s ops rest ((d, I (m % q)) :: fr) A) (hx : ev fr x = some (I m) := by rfl) (hy : ev fr y = some (I q) := by rfl) (hb : 0 ≤ m ∧ q ≠ 0 := by omega) (hd : Nat.blt d n.n = true := by rfl) :
    TO E n X s ops (⟨some d, .binOp .rem t x y t', ty, pos, after, none⟩ :: rest) fr A := TO.val (fun _ _ => R_rem64 hx hy hb) k hd

/-! blocks of cells -/
theorem ptcell {w : World} {b j : Nat} {cs : List Value} {T : TypeId} (h : Sat A w) (hm : pt b cs T ∈ A) (hj : cs[j]? = some v) : w.cell? ⟨b, j, none⟩ = some v := blk_cell (h.h _ hm) (by simpa using hj)
theorem ld {b j : Nat} {cs : List Value} {T : TypeId} {dt : TypeDesc} (k : TO E n X s ops rest ((d, v) :: fr) A) (hx : ev fr x = some (.pointer (some ⟨b, j, none⟩)) := by rfl)
    (hm : pt b cs T ∈ A := by (repeat (first | apply List.Mem.head | apply List.Mem.tail)); first | done | fail) (hj : cs[j]? = some v := by rfl) (ht : lk E.und t = some dt := by rfl) (hg : aggB dt = false := by rfl) (hd : Nat.blt d n.n = true := by rfl) :
    TO E n X s ops (⟨some d, .load t x, ty, pos, after, none⟩ :: rest) fr A := TO.val (fun _ h => R_load ht hg hx (ptcell h hm hj)) k hd
theorem qld {b j : Nat} {cs : List Value} {T : TypeId} {dt : TypeDesc} (k : TQ E n X s ops rest ((d, v) :: fr) A) (hx : ev fr x = some (.pointer (some ⟨b, j, none⟩)) := by rfl)
    (hm : pt b cs T ∈ A := by (repeat (first | apply List.Mem.head | apply List.Mem.tail)); first | done | fail) (hj : cs[j]? = some v := by rfl) (ht : lk E.und t = some dt := by rfl) (hg : aggB dt = false := by rfl) (hd : Nat.blt d n.n = true := by rfl) :
    TQ E n X s ops (⟨some d, .load t x, ty, pos, after, none⟩ :: rest) fr A := TQ.val (fun _ h => R_load ht hg hx (ptcell h hm hj)) k hd
/-- One of a list is set. -/
inductive SetAt (v : Value) : List Value → Nat → List Value → Prop
  | z (c : Value) (r : List Value) : SetAt v (c :: r) 0 (v :: r)
  | s (c : Value) {r r' : List Value} {j : Nat} : SetAt v r j r' → SetAt v (c :: r) (j + 1) (c :: r')
theorem SetAt.eq {v : Value} {cs cs' : List Value} {j : Nat} (h : SetAt v cs j cs') : cs' = cs.set j v ∧ j < cs.length := by
  induction h with
  | z c r => exact ⟨rfl, by simp⟩
  | s c _ ih => exact ⟨by rw [ih.1]; rfl, by simpa using ih.2⟩
theorem sr {b j : Nat} {cs cs' : List Value} {T : TypeId} (k : TO E n X s ops rest fr (pt b cs' T :: A')) (ha : ev fr x = some (.pointer (some ⟨b, j, none⟩)) := by rfl)
    (hm : Tk (pt b cs T) A A' := by (repeat (first | apply Tk.here | apply Tk.there)); first | done | fail) (hx : ev fr y = some v := by rfl) (hv : v.oneCell' = true := by first | rfl | assumption) (hs : SetAt v cs j cs' := by (repeat (first | exact SetAt.z _ _ | apply SetAt.s)); first | done | fail)
    (ht : lk E.inf t = some (z, 1, by_) := by rfl) : TO E n X s ops (⟨none, .store t x y, ty, pos, after, none⟩ :: rest) fr A := ⟨fun w hw => by
  have h1 := hw.im hm
  obtain ⟨rfl, hj⟩ := hs.eq
  refine SO_store ht ha hx hv (h1.mem (List.Mem.head _)) (lt_nblt (by simpa using hj)) fun w' hU hb => k.run w' (h1.set hU (by simp [pt]) ?_ ?_ (by simp [pt]))
  · show w'.heap[b]? = some (.cells (cs.set j v).toArray T (0, 0))
    rw [hb]; simp
  · rintro x (rfl | h | h); exact .inl rfl; exact h.elim; exact h.elim⟩
theorem bx (k : ∀ b, TO E n X s ops rest ((d, .pointer (some ⟨b, 0, none⟩)) :: fr) (pt b v.cells.toList t :: A)) (hx : ev fr x = some v := by rfl) (hd : Nat.blt d n.n = true := by rfl) :
    TO E n X s ops (⟨some d, .box t x, ty, pos, after, none⟩ :: rest) fr A := ⟨fun w hw =>
  SO_box hd hx fun w' hE hz hb => (k _).run w' (hw.new hE (by simpa [pt] using hb) (by rintro y (rfl | h | h); exact Nat.le_refl _; exact h.elim; exact h.elim) (by simp [pt]))⟩
theorem al {sz : Nat} (k : ∀ b, TO E n X s ops rest ((d, .pointer (some ⟨b, 0, none⟩)) :: fr) (pt b z.cells.toList t :: A)) (ht : lk E.inf t = some (z, sz, by_) := by rfl) (hd : Nat.blt d n.n = true := by rfl) :
    TO E n X s ops (⟨some d, .alloc t, ty, pos, after, none⟩ :: rest) fr A := ⟨fun w hw =>
  SO_alloc hd ht fun w' hE hz hb => (k _).run w' (hw.new hE (by simpa [pt] using hb) (by rintro y (rfl | h | h); exact Nat.le_refl _; exact h.elim; exact h.elim) (by simp [pt]))⟩

/-! slices -/
theorem has_sl {w : World} (h : Sat A w) (hh : Has A (vw v xs)) : Sl w v xs := hh.P w h
theorem sl_get {α : Type} {g : α → Value} {l : List α} {i : Nat} (h : i < l.length) : (l.map g)[i]? = some (g l[i]) := by simp [h]
theorem ln (k : TO E n X s ops rest ((d, I xs.length) :: fr) A) (hx : ev fr x = some v := by rfl) (hh : Has A (vw v xs) := by first | (apply has_vw; (repeat (first | apply List.Mem.head | apply List.Mem.tail)); first | done | fail) | (apply has_own; (repeat (first | apply List.Mem.head | apply List.Mem.tail)); first | done | fail) | (apply has_ro; (repeat (first | apply List.Mem.head | apply List.Mem.tail)); first | done | fail) | apply has_nil | ((with_reducible apply has_el); (focus (first | (apply has_vels; (repeat (first | apply List.Mem.head | apply List.Mem.tail)); first | done | fail) | (apply has_rels; (repeat (first | apply List.Mem.head | apply List.Mem.tail)); first | done | fail))); omega) | (apply has_pt; (repeat (first | apply List.Mem.head | apply List.Mem.tail)); first | done | fail) | (apply has_lpt; (repeat (first | apply List.Mem.head | apply List.Mem.tail)); first | done | fail) | (apply has_vels; (repeat (first | apply List.Mem.head | apply List.Mem.tail)); first | done | fail) | (apply has_rels; (repeat (first | apply List.Mem.head | apply List.Mem.tail)); first | done | fail) | with_reducible assumption | ((with_reducible apply has_elg); (focus (first | (apply has_velg; (repeat (first | apply List.Mem.head | apply List.Mem.tail)); first | done | fail) | (apply has_relg; (repeat (first | apply List.Mem.head | apply List.Mem.tail)); first | done | fail))); omega) | (apply has_velg; (repeat (first | apply List.Mem.head | apply List.Mem.tail)); first | done | fail) | (apply has_relg; (repeat (first | apply List.Mem.head | apply List.Mem.tail)); first | done | fail) | (apply has_vwf; (repeat (first | apply List.Mem.head | apply List.Mem.tail)); first | done | fail)) (ht : lk E.und t = some (.slice el) := by rfl) (hd : Nat.blt d n.n = true := by rfl) :
    TO E n X s ops (⟨some d, .call ⟨.builtin .len, #[x], #[t]⟩, ty, pos, after, none⟩ :: rest) fr A := TO.val (fun _ h => R_len ht hx (has_sl h hh)) k hd
theorem qln (k : TQ E n X s ops rest ((d, I xs.length) :: fr) A) (hx : ev fr x = some v := by rfl) (hh : Has A (vw v xs) := by first | (apply has_vw; (repeat (first | apply List.Mem.head | apply List.Mem.tail)); first | done | fail) | (apply has_own; (repeat (first | apply List.Mem.head | apply List.Mem.tail)); first | done | fail) | (apply has_ro; (repeat (first | apply List.Mem.head | apply List.Mem.tail)); first | done | fail) | apply has_nil | ((with_reducible apply has_el); (focus (first | (apply has_vels; (repeat (first | apply List.Mem.head | apply List.Mem.tail)); first | done | fail) | (apply has_rels; (repeat (first | apply List.Mem.head | apply List.Mem.tail)); first | done | fail))); omega) | (apply has_pt; (repeat (first | apply List.Mem.head | apply List.Mem.tail)); first | done | fail) | (apply has_lpt; (repeat (first | apply List.Mem.head | apply List.Mem.tail)); first | done | fail) | (apply has_vels; (repeat (first | apply List.Mem.head | apply List.Mem.tail)); first | done | fail) | (apply has_rels; (repeat (first | apply List.Mem.head | apply List.Mem.tail)); first | done | fail) | with_reducible assumption | ((with_reducible apply has_elg); (focus (first | (apply has_velg; (repeat (first | apply List.Mem.head | apply List.Mem.tail)); first | done | fail) | (apply has_relg; (repeat (first | apply List.Mem.head | apply List.Mem.tail)); first | done | fail))); omega) | (apply has_velg; (repeat (first | apply List.Mem.head | apply List.Mem.tail)); first | done | fail) | (apply has_relg; (repeat (first | apply List.Mem.head | apply List.Mem.tail)); first | done | fail) | (apply has_vwf; (repeat (first | apply List.Mem.head | apply List.Mem.tail)); first | done | fail)) (ht : lk E.und t = some (.slice el) := by rfl) (hd : Nat.blt d n.n = true := by rfl) :
    TQ E n X s ops (⟨some d, .call ⟨.builtin .len, #[x], #[t]⟩, ty, pos, after, none⟩ :: rest) fr A := TQ.val (fun _ h => R_len ht hx (has_sl h hh)) k hd
theorem ix (k : TO E n X s ops rest ((d, .pointer (some (addrAt v i.toNat))) :: fr) A) (hx : ev fr x = some v := by rfl) (hy : ev fr y = some (.int k1 i) := by rfl) (hh : Has A (vw v xs) := by first | (apply has_vw; (repeat (first | apply List.Mem.head | apply List.Mem.tail)); first | done | fail) | (apply has_own; (repeat (first | apply List.Mem.head | apply List.Mem.tail)); first | done | fail) | (apply has_ro; (repeat (first | apply List.Mem.head | apply List.Mem.tail)); first | done | fail) | apply has_nil | ((with_reducible apply has_el); (focus (first | (apply has_vels; (repeat (first | apply List.Mem.head | apply List.Mem.tail)); first | done | fail) | (apply has_rels; (repeat (first | apply List.Mem.head | apply List.Mem.tail)); first | done | fail))); omega) | (apply has_pt; (repeat (first | apply List.Mem.head | apply List.Mem.tail)); first | done | fail) | (apply has_lpt; (repeat (first | apply List.Mem.head | apply List.Mem.tail)); first | done | fail) | (apply has_vels; (repeat (first | apply List.Mem.head | apply List.Mem.tail)); first | done | fail) | (apply has_rels; (repeat (first | apply List.Mem.head | apply List.Mem.tail)); first | done | fail) | with_reducible assumption | ((with_reducible apply has_elg); (focus (first | (apply has_velg; (repeat (first | apply List.Mem.head | apply List.Mem.tail)); first | done | fail) | (apply has_relg; (repeat (first | apply List.Mem.head | apply List.Mem.tail)); first | done | fail))); omega) | (apply has_velg; (repeat (first | apply List.Mem.head | apply List.Mem.tail)); first | done | fail) | (apply has_relg; (repeat (first | apply List.Mem.head | apply List.Mem.tail)); first | done | fail) | (apply has_vwf; (repeat (first | apply List.Mem.head | apply List.Mem.tail)); first | done | fail)) (hb : 0 ≤ i ∧ i < xs.length := by omega)
    (ht : lk E.und t = some (.slice el) := by rfl) (he : lk E.inf el = some (z, 1, by_) := by rfl) (hd : Nat.blt d n.n = true := by rfl) : TO E n X s ops (⟨some d, .indexAddr t x y, ty, pos, after, none⟩ :: rest) fr A :=
  TO.val (fun _ h => R_idx ht he hx hy (has_sl h hh) hb) k hd
theorem qix (k : TQ E n X s ops rest ((d, .pointer (some (addrAt v i.toNat))) :: fr) A) (hx : ev fr x = some v := by rfl) (hy : ev fr y = some (.int k1 i) := by rfl) (hh : Has A (vw v xs) := by first | (apply has_vw; (repeat (first | apply List.Mem.head | apply List.Mem.tail)); first | done | fail) | (apply has_own; (repeat (first | apply List.Mem.head | apply List.Mem.tail)); first | done | fail) | (apply has_ro; (repeat (first | apply List.Mem.head | apply List.Mem.tail)); first | done | fail) | apply has_nil | ((with_reducible apply has_el); (focus (first | (apply has_vels; (repeat (first | apply List.Mem.head | apply List.Mem.tail)); first | done | fail) | (apply has_rels; (repeat (first | apply List.Mem.head | apply List.Mem.tail)); first | done | fail))); omega) | (apply has_pt; (repeat (first | apply List.Mem.head | apply List.Mem.tail)); first | done | fail) | (apply has_lpt; (repeat (first | apply List.Mem.head | apply List.Mem.tail)); first | done | fail) | (apply has_vels; (repeat (first | apply List.Mem.head | apply List.Mem.tail)); first | done | fail) | (apply has_rels; (repeat (first | apply List.Mem.head | apply List.Mem.tail)); first | done | fail) | with_reducible assumption | ((with_reducible apply has_elg); (focus (first | (apply has_velg; (repeat (first | apply List.Mem.head | apply List.Mem.tail)); first | done | fail) | (apply has_relg; (repeat (first | apply List.Mem.head | apply List.Mem.tail)); first | done | fail))); omega) | (apply has_velg; (repeat (first | apply List.Mem.head | apply List.Mem.tail)); first | done | fail) | (apply has_relg; (repeat (first | apply List.Mem.head | apply List.Mem.tail)); first | done | fail) | (apply has_vwf; (repeat (first | apply List.Mem.head | apply List.Mem.tail)); first | done | fail)) (hb : 0 ≤ i ∧ i < xs.length := by omega)
    (ht : lk E.und t = some (.slice el) := by rfl) (he : lk E.inf el = some (z, 1, by_) := by rfl) (hd : Nat.blt d n.n = true := by rfl) : TQ E n X s ops (⟨some d, .indexAddr t x y, ty, pos, after, none⟩ :: rest) fr A :=
  TQ.val (fun _ h => R_idx ht he hx hy (has_sl h hh) hb) k hd
theorem le {j : Nat} {dt : TypeDesc} (k : TO E n X s ops rest ((d, u) :: fr) A) (hx : ev fr x = some (.pointer (some (addrAt v j))) := by rfl) (hh : Has A (vw v xs) := by first | (apply has_vw; (repeat (first | apply List.Mem.head | apply List.Mem.tail)); first | done | fail) | (apply has_own; (repeat (first | apply List.Mem.head | apply List.Mem.tail)); first | done | fail) | (apply has_ro; (repeat (first | apply List.Mem.head | apply List.Mem.tail)); first | done | fail) | apply has_nil | ((with_reducible apply has_el); (focus (first | (apply has_vels; (repeat (first | apply List.Mem.head | apply List.Mem.tail)); first | done | fail) | (apply has_rels; (repeat (first | apply List.Mem.head | apply List.Mem.tail)); first | done | fail))); omega) | (apply has_pt; (repeat (first | apply List.Mem.head | apply List.Mem.tail)); first | done | fail) | (apply has_lpt; (repeat (first | apply List.Mem.head | apply List.Mem.tail)); first | done | fail) | (apply has_vels; (repeat (first | apply List.Mem.head | apply List.Mem.tail)); first | done | fail) | (apply has_rels; (repeat (first | apply List.Mem.head | apply List.Mem.tail)); first | done | fail) | with_reducible assumption | ((with_reducible apply has_elg); (focus (first | (apply has_velg; (repeat (first | apply List.Mem.head | apply List.Mem.tail)); first | done | fail) | (apply has_relg; (repeat (first | apply List.Mem.head | apply List.Mem.tail)); first | done | fail))); omega) | (apply has_velg; (repeat (first | apply List.Mem.head | apply List.Mem.tail)); first | done | fail) | (apply has_relg; (repeat (first | apply List.Mem.head | apply List.Mem.tail)); first | done | fail) | (apply has_vwf; (repeat (first | apply List.Mem.head | apply List.Mem.tail)); first | done | fail)) (hj : xs[j]? = some u := by first | rfl | assumption)
    (ht : lk E.und t = some dt := by rfl) (hg : aggB dt = false := by rfl) (hd : Nat.blt d n.n = true := by rfl) : TO E n X s ops (⟨some d, .load t x, ty, pos, after, none⟩ :: rest) fr A := TO.val (fun _ h => R_load ht hg hx ((has_sl h hh).cell hj)) k hd
theorem qle {j : Nat} {dt : TypeDesc} (k : TQ E n X s ops rest ((d, u) :: fr) A) (hx : ev fr x = some (.pointer (some (addrAt v j))) := by rfl) (hh : Has A (vw v xs) := by first | (apply has_vw; (repeat (first | apply List.Mem.head | apply List.Mem.tail)); first | done | fail) | (apply has_own; (repeat (first | apply List.Mem.head | apply List.Mem.tail)); first | done | fail) | (apply has_ro; (repeat (first | apply List.Mem.head | apply List.Mem.tail)); first | done | fail) | apply has_nil | ((with_reducible apply has_el); (focus (first | (apply has_vels; (repeat (first | apply List.Mem.head | apply List.Mem.tail)); first | done | fail) | (apply has_rels; (repeat (first | apply List.Mem.head | apply List.Mem.tail)); first | done | fail))); omega) | (apply has_pt; (repeat (first | apply List.Mem.head | apply List.Mem.tail)); first | done | fail) | (apply has_lpt; (repeat (first | apply List.Mem.head | apply List.Mem.tail)); first | done | fail) | (apply has_vels; (repeat (first | apply List.Mem.head | apply List.Mem.tail)); first | done | fail) | (apply has_rels; (repeat (first | apply List.Mem.head | apply List.Mem.tail)); first | done | fail) | with_reducible assumption | ((with_reducible apply has_elg); (focus (first | (apply has_velg; (repeat (first | apply List.Mem.head | apply List.Mem.tail)); first | done | fail) | (apply has_relg; (repeat (first | apply List.Mem.head | apply List.Mem.tail)); first | done | fail))); omega) | (apply has_velg; (repeat (first | apply List.Mem.head | apply List.Mem.tail)); first | done | fail) | (apply has_relg; (repeat (first | apply List.Mem.head | apply List.Mem.tail)); first | done | fail) | (apply has_vwf; (repeat (first | apply List.Mem.head | apply List.Mem.tail)); first | done | fail)) (hj : xs[j]? = some u := by first | rfl | assumption)
    (ht : lk E.und t = some dt := by rfl) (hg : aggB dt = false := by rfl) (hd : Nat.blt d n.n = true := by rfl) : TQ E n X s ops (⟨some d, .load t x, ty, pos, after, none⟩ :: rest) fr A := TQ.val (fun _ h => R_load ht hg hx ((has_sl h hh).cell hj)) k hd
theorem ixn {i : Nat} (k : TO E n X s ops rest ((d, .pointer (some (addrAt v i))) :: fr) A) (hx : ev fr x = some v := by rfl) (hy : ev fr y = some (.int k1 (i : Int)) := by rfl) (hh : Has A (vw v xs) := by first | (apply has_vw; (repeat (first | apply List.Mem.head | apply List.Mem.tail)); first | done | fail) | (apply has_own; (repeat (first | apply List.Mem.head | apply List.Mem.tail)); first | done | fail) | (apply has_ro; (repeat (first | apply List.Mem.head | apply List.Mem.tail)); first | done | fail) | apply has_nil | ((with_reducible apply has_el); (focus (first | (apply has_vels; (repeat (first | apply List.Mem.head | apply List.Mem.tail)); first | done | fail) | (apply has_rels; (repeat (first | apply List.Mem.head | apply List.Mem.tail)); first | done | fail))); omega) | (apply has_pt; (repeat (first | apply List.Mem.head | apply List.Mem.tail)); first | done | fail) | (apply has_lpt; (repeat (first | apply List.Mem.head | apply List.Mem.tail)); first | done | fail) | (apply has_vels; (repeat (first | apply List.Mem.head | apply List.Mem.tail)); first | done | fail) | (apply has_rels; (repeat (first | apply List.Mem.head | apply List.Mem.tail)); first | done | fail) | with_reducible assumption | ((with_reducible apply has_elg); (focus (first | (apply has_velg; (repeat (first | apply List.Mem.head | apply List.Mem.tail)); first | done | fail) | (apply has_relg; (repeat (first | apply List.Mem.head | apply List.Mem.tail)); first | done | fail))); omega) | (apply has_velg; (repeat (first | apply List.Mem.head | apply List.Mem.tail)); first | done | fail) | (apply has_relg; (repeat (first | apply List.Mem.head | apply List.Mem.tail)); first | done | fail) | (apply has_vwf; (repeat (first | apply List.Mem.head | apply List.Mem.tail)); first | done | fail)) (hb : i < xs.length := by omega)
    (ht : lk E.und t = some (.slice el) := by rfl) (he : lk E.inf el = some (z, 1, by_) := by rfl) (hd : Nat.blt d n.n = true := by rfl) : TO E n X s ops (⟨some d, .indexAddr t x y, ty, pos, after, none⟩ :: rest) fr A := ix (i := (i : Int)) k hx hy hh (by omega) ht he hd
theorem qixn {i : Nat} (k : TQ E n X s ops rest ((d, .pointer (some (addrAt v i))) :: fr) A) (hx : ev fr x = some v := by rfl) (hy : ev fr y = some (.int k1 (i : Int)) := by rfl) (hh : Has A (vw v xs) := by first | (apply has_vw; (repeat (first | apply List.Mem.head | apply List.Mem.tail)); first | done | fail) | (apply has_own; (repeat (first | apply List.Mem.head | apply List.Mem.tail)); first | done | fail) | (apply has_ro; (repeat (first | apply List.Mem.head | apply List.Mem.tail)); first | done | fail) | apply has_nil | ((with_reducible apply has_el); (focus (first | (apply has_vels; (repeat (first | apply List.Mem.head | apply List.Mem.tail)); first | done | fail) | (apply has_rels; (repeat (first | apply List.Mem.head | apply List.Mem.tail)); first | done | fail))); omega) | (apply has_pt; (repeat (first | apply List.Mem.head | apply List.Mem.tail)); first | done | fail) | (apply has_lpt; (repeat (first | apply List.Mem.head | apply List.Mem.tail)); first | done | fail) | (apply has_vels; (repeat (first | apply List.Mem.head | apply List.Mem.tail)); first | done | fail) | (apply has_rels; (repeat (first | apply List.Mem.head | apply List.Mem.tail)); first | done | fail) | with_reducible assumption | ((with_reducible apply has_elg); (focus (first | (apply has_velg; (repeat (first | apply List.Mem.head | apply List.Mem.tail)); first | done | fail) | (apply has_relg; (repeat (first | apply List.Mem.head | apply List.Mem.tail)); first | done | fail))); omega) | (apply has_velg; (repeat (first | apply List.Mem.head | apply List.Mem.tail)); first | done | fail) | (apply has_relg; (repeat (first | apply List.Mem.head | apply List.Mem.tail)); first | done | fail) | (apply has_vwf; (repeat (first | apply List.Mem.head | apply List.Mem.tail)); first | done | fail)) (hb : i < xs.length := by omega)
    (ht : lk E.und t = some (.slice el) := by rfl) (he : lk E.inf el = some (z, 1, by_) := by rfl) (hd : Nat.blt d n.n = true := by rfl) : TQ E n X s ops (⟨some d, .indexAddr t x y, ty, pos, after, none⟩ :: rest) fr A := qix (i := (i : Int)) k hx hy hh (by omega) ht he hd
theorem sc {lo hi : Int} (k : TO E n X s ops rest ((d, slSub v lo.toNat hi.toNat) :: fr) A) (hx : ev fr x = some v := by rfl) (hl : ev fr z1 = some (.int k1 lo) := by rfl) (hh : ev fr z2 = some (.int k2 hi) := by rfl) (hs : Has A (vw v xs) := by first | (apply has_vw; (repeat (first | apply List.Mem.head | apply List.Mem.tail)); first | done | fail) | (apply has_own; (repeat (first | apply List.Mem.head | apply List.Mem.tail)); first | done | fail) | (apply has_ro; (repeat (first | apply List.Mem.head | apply List.Mem.tail)); first | done | fail) | apply has_nil | ((with_reducible apply has_el); (focus (first | (apply has_vels; (repeat (first | apply List.Mem.head | apply List.Mem.tail)); first | done | fail) | (apply has_rels; (repeat (first | apply List.Mem.head | apply List.Mem.tail)); first | done | fail))); omega) | (apply has_pt; (repeat (first | apply List.Mem.head | apply List.Mem.tail)); first | done | fail) | (apply has_lpt; (repeat (first | apply List.Mem.head | apply List.Mem.tail)); first | done | fail) | (apply has_vels; (repeat (first | apply List.Mem.head | apply List.Mem.tail)); first | done | fail) | (apply has_rels; (repeat (first | apply List.Mem.head | apply List.Mem.tail)); first | done | fail) | with_reducible assumption | ((with_reducible apply has_elg); (focus (first | (apply has_velg; (repeat (first | apply List.Mem.head | apply List.Mem.tail)); first | done | fail) | (apply has_relg; (repeat (first | apply List.Mem.head | apply List.Mem.tail)); first | done | fail))); omega) | (apply has_velg; (repeat (first | apply List.Mem.head | apply List.Mem.tail)); first | done | fail) | (apply has_relg; (repeat (first | apply List.Mem.head | apply List.Mem.tail)); first | done | fail) | (apply has_vwf; (repeat (first | apply List.Mem.head | apply List.Mem.tail)); first | done | fail)) (hb : 0 ≤ lo ∧ lo ≤ hi ∧ hi ≤ xs.length := by omega)
    (ht : lk E.und t = some (.slice el) := by rfl) (he : lk E.inf el = some (z, 1, by_) := by rfl) (hd : Nat.blt d n.n = true := by rfl) : TO E n X s ops (⟨some d, .slice t x (some z1) (some z2) none, ty, pos, after, none⟩ :: rest) fr A :=
  TO.val (fun _ h => R_slice ht he hx hl hh (has_sl h hs) hb) k hd
theorem scl {lo : Int} (k : TO E n X s ops rest ((d, slSub v lo.toNat xs.length) :: fr) A) (hx : ev fr x = some v := by rfl) (hl : ev fr z1 = some (.int k1 lo) := by rfl) (hs : Has A (vw v xs) := by first | (apply has_vw; (repeat (first | apply List.Mem.head | apply List.Mem.tail)); first | done | fail) | (apply has_own; (repeat (first | apply List.Mem.head | apply List.Mem.tail)); first | done | fail) | (apply has_ro; (repeat (first | apply List.Mem.head | apply List.Mem.tail)); first | done | fail) | apply has_nil | ((with_reducible apply has_el); (focus (first | (apply has_vels; (repeat (first | apply List.Mem.head | apply List.Mem.tail)); first | done | fail) | (apply has_rels; (repeat (first | apply List.Mem.head | apply List.Mem.tail)); first | done | fail))); omega) | (apply has_pt; (repeat (first | apply List.Mem.head | apply List.Mem.tail)); first | done | fail) | (apply has_lpt; (repeat (first | apply List.Mem.head | apply List.Mem.tail)); first | done | fail) | (apply has_vels; (repeat (first | apply List.Mem.head | apply List.Mem.tail)); first | done | fail) | (apply has_rels; (repeat (first | apply List.Mem.head | apply List.Mem.tail)); first | done | fail) | with_reducible assumption | ((with_reducible apply has_elg); (focus (first | (apply has_velg; (repeat (first | apply List.Mem.head | apply List.Mem.tail)); first | done | fail) | (apply has_relg; (repeat (first | apply List.Mem.head | apply List.Mem.tail)); first | done | fail))); omega) | (apply has_velg; (repeat (first | apply List.Mem.head | apply List.Mem.tail)); first | done | fail) | (apply has_relg; (repeat (first | apply List.Mem.head | apply List.Mem.tail)); first | done | fail) | (apply has_vwf; (repeat (first | apply List.Mem.head | apply List.Mem.tail)); first | done | fail)) (hb : 0 ≤ lo ∧ lo ≤ xs.length := by omega)
    (ht : lk E.und t = some (.slice el) := by rfl) (he : lk E.inf el = some (z, 1, by_) := by rfl) (hd : Nat.blt d n.n = true := by rfl) : TO E n X s ops (⟨some d, .slice t x (some z1) none none, ty, pos, after, none⟩ :: rest) fr A :=
  TO.val (fun _ h => R_sliceLo ht he hx hl (has_sl h hs) hb) k hd
theorem sch {hi : Int} (k : TO E n X s ops rest ((d, slSub v 0 hi.toNat) :: fr) A) (hx : ev fr x = some v := by rfl) (hl : ev fr z1 = some (.int k1 hi) := by rfl) (hs : Has A (vw v xs) := by first | (apply has_vw; (repeat (first | apply List.Mem.head | apply List.Mem.tail)); first | done | fail) | (apply has_own; (repeat (first | apply List.Mem.head | apply List.Mem.tail)); first | done | fail) | (apply has_ro; (repeat (first | apply List.Mem.head | apply List.Mem.tail)); first | done | fail) | apply has_nil | ((with_reducible apply has_el); (focus (first | (apply has_vels; (repeat (first | apply List.Mem.head | apply List.Mem.tail)); first | done | fail) | (apply has_rels; (repeat (first | apply List.Mem.head | apply List.Mem.tail)); first | done | fail))); omega) | (apply has_pt; (repeat (first | apply List.Mem.head | apply List.Mem.tail)); first | done | fail) | (apply has_lpt; (repeat (first | apply List.Mem.head | apply List.Mem.tail)); first | done | fail) | (apply has_vels; (repeat (first | apply List.Mem.head | apply List.Mem.tail)); first | done | fail) | (apply has_rels; (repeat (first | apply List.Mem.head | apply List.Mem.tail)); first | done | fail) | with_reducible assumption | ((with_reducible apply has_elg); (focus (first | (apply has_velg; (repeat (first | apply List.Mem.head | apply List.Mem.tail)); first | done | fail) | (apply has_relg; (repeat (first | apply List.Mem.head | apply List.Mem.tail)); first | done | fail))); omega) | (apply has_velg; (repeat (first | apply List.Mem.head | apply List.Mem.tail)); first | done | fail) | (apply has_relg; (repeat (first | apply List.Mem.head | apply List.Mem.tail)); first | done | fail) | (apply has_vwf; (repeat (first | apply List.Mem.head | apply List.Mem.tail)); first | done | fail)) (hb : 0 ≤ hi ∧ hi ≤ xs.length := by omega)
    (ht : lk E.und t = some (.slice el) := by rfl) (he : lk E.inf el = some (z, 1, by_) := by rfl) (hd : Nat.blt d n.n = true := by rfl) : TO E n X s ops (⟨some d, .slice t x none (some z1) none, ty, pos, after, none⟩ :: rest) fr A :=
  TO.val (fun _ h => R_sliceHi ht he hx hl (has_sl h hs) hb) k hd
theorem slice_nil_eq {w : World} {o : Option Addr} {l c : Nat} (h : Sl w (.slice o l c) xs) : l = xs.length := by obtain ⟨_, _, h1, _⟩ := h; cases h1; rfl
/-- A store into an own slice. -/
theorem so {j : Nat} {ys : List Value} {c : Value} (k : TO E n X s ops rest fr (own el v ys :: A')) (hx : ev fr x = some (.pointer (some (addrAt v j))) := by rfl) (hm : Tk (own el v xs) A A' := by (repeat (first | apply Tk.here | apply Tk.there)); first | done | fail) (hy : ev fr y = some c := by rfl)
    (hj : j < xs.length := by omega) (hs : ys = xs.set j c := by rfl) (hc : c.oneCell' = true := by first | rfl | assumption) (ht : lk E.inf t = some (z, 1, by_) := by rfl) : TO E n X s ops (⟨none, .store t x y, ty, pos, after, none⟩ :: rest) fr A := ⟨fun w hw => by
  subst hs
  have h1 := hw.im hm
  have h2 : OwnO w el v xs := h1.mem (List.Mem.head _)
  refine SO_storeO ht h2 hx hy hc hj fun w' hU hO => k.run w' (h1.set hU (fun b hb => .inl (by show v.ownBlock = some b; simpa using hb)) hO ?_ (fun _ h => h))
  rintro b (hb | hb | hb); exact .inl hb; exact hb.elim; exact hb.elim⟩
/-- append to an own slice. -/
theorem ap {news : List Value} {e : TypeId} (k : ∀ v', TO E n X s ops rest ((d, v') :: fr) (own e v' (xs ++ news) :: A')) (hx : ev fr x = some v := by rfl) (hy : ev fr y = some u := by rfl) (hm : Tk (own e v xs) A A' := by (repeat (first | apply Tk.here | apply Tk.there)); first | done | fail) (hu : Has A' (vw u news) := by first | (apply has_vw; (repeat (first | apply List.Mem.head | apply List.Mem.tail)); first | done | fail) | (apply has_own; (repeat (first | apply List.Mem.head | apply List.Mem.tail)); first | done | fail) | (apply has_ro; (repeat (first | apply List.Mem.head | apply List.Mem.tail)); first | done | fail) | apply has_nil | ((with_reducible apply has_el); (focus (first | (apply has_vels; (repeat (first | apply List.Mem.head | apply List.Mem.tail)); first | done | fail) | (apply has_rels; (repeat (first | apply List.Mem.head | apply List.Mem.tail)); first | done | fail))); omega) | (apply has_pt; (repeat (first | apply List.Mem.head | apply List.Mem.tail)); first | done | fail) | (apply has_lpt; (repeat (first | apply List.Mem.head | apply List.Mem.tail)); first | done | fail) | (apply has_vels; (repeat (first | apply List.Mem.head | apply List.Mem.tail)); first | done | fail) | (apply has_rels; (repeat (first | apply List.Mem.head | apply List.Mem.tail)); first | done | fail) | with_reducible assumption | ((with_reducible apply has_elg); (focus (first | (apply has_velg; (repeat (first | apply List.Mem.head | apply List.Mem.tail)); first | done | fail) | (apply has_relg; (repeat (first | apply List.Mem.head | apply List.Mem.tail)); first | done | fail))); omega) | (apply has_velg; (repeat (first | apply List.Mem.head | apply List.Mem.tail)); first | done | fail) | (apply has_relg; (repeat (first | apply List.Mem.head | apply List.Mem.tail)); first | done | fail) | (apply has_vwf; (repeat (first | apply List.Mem.head | apply List.Mem.tail)); first | done | fail))
    (h1 : ∀ c ∈ news, c.oneCell' = true := by simp) (ht : lk E.und t = some (.slice e) := by rfl) (he : lk E.inf e = some (z, 1, by_) := by rfl) (hz : z.cells.size = 1 := by rfl) (hby : (xs.length + news.length) * by_ ≤ 140737488355328 := by simp; omega)
    (h63 : xs.length + news.length ≤ 9223372036854775807 := by simp; omega) (hd : Nat.blt d n.n = true := by rfl) : TO E n X s ops (⟨some d, .call ⟨.builtin .append, #[x, y], #[t, t]⟩, ty, pos, after, none⟩ :: rest) fr A := ⟨fun w hw => by
  have h2 := hw.im hm
  have h3 : OwnO w e v xs := h2.mem (List.Mem.head _)
  have h4 : Sl w u news := hu.P w (Sat.cons.1 h2.sat).2.2
  refine SO_appendO hd ht he hz hx hy h3 h4 h1 hby h63 fun v' w' hO hU hW => (k v').run w' (h2.set hU (fun b hb => .inl (by show v.ownBlock = some b; simpa using hb)) hO ?_ (fun _ h => h))
  rintro b (hb' | hb' | hb')
  · exact hW b hb'
  · exact hb'.elim
  · exact hb'.elim⟩
theorem St.own {w w' : World} {e : TypeId} {g : Option Nat} (h : St X A w) (u' : Ext w w') (hO : Own w' e g v xs) (hg : ∀ b, g = some b → w.heap.size ≤ b) : St X (own e v xs :: A) w' := by
  have hb := hO.block
  refine h.new u' (OwnO.of hO) ?_ (fun _ h => h)
  rintro b (h1 | h1 | h1)
  · exact hg b (by rw [← hb]; exact h1)
  · exact h1.elim
  · exact h1.elim
/-- A slice literal. -/
theorem sli {m : Nat} {parts : List (Nat × Operand)} {vs : List Value} {e : TypeId} (k : ∀ v', TO E n X s ops rest ((d, v') :: fr) (own e v' vs :: A)) (hp : parts = idxP 0 (parts.map (·.2)) := by rfl) (hv : evs fr (parts.map (·.2)) = some vs := by rfl)
    (h1 : ∀ v ∈ vs, v.oneCell' = true := by simp; done) (hk : vs.length = m := by rfl) (hk0 : Nat.blt 0 m = true := by rfl) (hkm : Nat.ble m 16777216 = true := by rfl) (ht : lk E.und t = some (.slice e) := by rfl) (he : lk E.inf e = some (z, 1, by_) := by rfl) (hd : Nat.blt d n.n = true := by rfl) :
    TO E n X s ops (⟨some d, .buildSlice t m parts.toArray, ty, pos, after, none⟩ :: rest) fr A := ⟨fun w hw =>
  SO_slit hd ht he hp hv h1 hk hk0 hkm fun w' hE hO => (k _).run w' (hw.own hE hO (by simp))⟩
theorem sl0 {e : TypeId} (k : ∀ v', TO E n X s ops rest ((d, v') :: fr) (own e v' [] :: A)) (ht : lk E.und t = some (.slice e) := by rfl) (he : lk E.inf e = some (z, 1, by_) := by rfl) (hd : Nat.blt d n.n = true := by rfl) :
    TO E n X s ops (⟨some d, .buildSlice t 0 #[], ty, pos, after, none⟩ :: rest) fr A := ⟨fun w hw => SO_slit0 hd ht he fun w' hE hO => (k _).run w' (hw.own hE hO (by simp))⟩
theorem mk {e : TypeId} {m : Int} (k : ∀ v', TO E n X s ops rest ((d, v') :: fr) (own e v' (List.replicate m.toNat z) :: A)) (hx : ev fr x = some (.int k1 m) := by rfl) (hy : ev fr y = some (.int k1 m) := by rfl) (ht : lk E.und t = some (.slice e) := by rfl) (he : lk E.inf e = some (z, 1, by_) := by rfl)
    (hz : z.cells = #[z] := by rfl) (h0 : 0 ≤ m := by omega) (hby : by_ * m.toNat ≤ 281474976710656 := by omega) (h63 : m ≤ 9223372036854775807 := by omega) (hd : Nat.blt d n.n = true := by rfl) :
    TO E n X s ops (⟨some d, .makeSlice t x y, ty, pos, after, none⟩ :: rest) fr A := ⟨fun w hw => SO_make hd ht he hz hx hy h0 hby h63 fun w' v hE hO => (k v).run w' (hw.own hE hO (by simp))⟩
/-! nil -/
theorem isl {o' : Option Addr} {l' c' : Nat} (k : TO E n X s ops rest ((d, .bool o'.isNone) :: fr) A) (hx : ev fr x = some (.slice o' l' c') := by rfl) (ht : lk E.und t = some (.slice el) := by rfl) (hd : Nat.blt d n.n = true := by rfl) :
    TO E n X s ops (⟨some d, .binOp .eql t x (.const (.slice none 0 0)) t', ty, pos, after, none⟩ :: rest) fr A := TO.val (fun _ _ => R_slEqNil ht hx) k hd
theorem ipe {p' : Option Addr} (k : TO E n X s ops rest ((d, .bool p'.isNone) :: fr) A) (hx : ev fr x = some (.pointer p') := by rfl) (ht : lk E.und t = some (.pointer el) := by rfl) (hd : Nat.blt d n.n = true := by rfl) :
    TO E n X s ops (⟨some d, .binOp .eql t x (.const (.pointer none)) t', ty, pos, after, none⟩ :: rest) fr A := TO.val (fun _ _ => R_ptrEqNil ht hx) k hd
theorem ipn {p' : Option Addr} (k : TO E n X s ops rest ((d, .bool (!p'.isNone)) :: fr) A) (hx : ev fr x = some (.pointer p') := by rfl) (ht : lk E.und t = some (.pointer el) := by rfl) (hd : Nat.blt d n.n = true := by rfl) :
    TO E n X s ops (⟨some d, .binOp .neq t x (.const (.pointer none)) t', ty, pos, after, none⟩ :: rest) fr A := TO.val (fun _ _ => R_ptrNeNil ht hx) k hd
theorem ibe {b1 b2 : Bool} (k : TO E n X s ops rest ((d, .bool (b1 == b2)) :: fr) A) (hx : ev fr x = some (.bool b1) := by rfl) (hy : ev fr y = some (.bool b2) := by rfl) (ht : lk E.und t = some .bool := by rfl) (hd : Nat.blt d n.n = true := by rfl) :
    TO E n X s ops (⟨some d, .binOp .eql t x y t', ty, pos, after, none⟩ :: rest) fr A := TO.val (fun _ _ => R_boolEq hx hy ht) k hd
theorem qibe {b1 b2 : Bool} (k : TQ E n X s ops rest ((d, .bool (b1 == b2)) :: fr) A) (hx : ev fr x = some (.bool b1) := by rfl) (hy : ev fr y = some (.bool b2) := by rfl) (ht : lk E.und t = some .bool := by rfl) (hd : Nat.blt d n.n = true := by rfl) :
    TQ E n X s ops (⟨some d, .binOp .eql t x y t', ty, pos, after, none⟩ :: rest) fr A := TQ.val (fun _ _ => R_boolEq hx hy ht) k hd
end

/-! ### Guards -/
section
variable {dst : Option Nat} {j dj dd : Nat} {b b' : Bool}
theorem gy (h : TO E n X s ops (⟨dst, o, ty, pos, after, none⟩ :: rest) fr A) (hd : (ops[j]?).bind (·.dst) = some dj := by rfl) (hg : get fr dj = some (.bool b) := by rfl) (hlt : Nat.blt dj n.n = true := by rfl) : TO E n X s ops (⟨dst, o, ty, pos, after, some (j, b)⟩ :: rest) fr A :=
  ⟨fun w hw => SO_yes hd hg hlt (h.run w hw)⟩
theorem gn (h : TO E n X s ops rest ((dd, undef) :: fr) A) (hd : (ops[j]?).bind (·.dst) = some dj := by rfl) (hg : get fr dj = some (.bool b) := by rfl) (hb : b = !b' := by rfl) (hlt : Nat.blt dj n.n = true := by rfl) (hdd : Nat.blt dd n.n = true := by rfl) : TO E n X s ops (⟨some dd, o, ty, pos, after, some (j, b')⟩ :: rest) fr A :=
  ⟨fun w hw => SO_no hd hg hlt hb hdd (h.run w hw)⟩
theorem gnn (h : TO E n X s ops rest fr A) (hd : (ops[j]?).bind (·.dst) = some dj := by rfl) (hg : get fr dj = some (.bool b) := by rfl) (hb : b = !b' := by rfl) (hlt : Nat.blt dj n.n = true := by rfl) : TO E n X s ops (⟨none, o, ty, pos, after, some (j, b')⟩ :: rest) fr A :=
  ⟨fun w hw => SO_no_n hd hg hlt hb (h.run w hw)⟩
theorem gu (h : TO E n X s ops rest ((dd, undef) :: fr) A) (hd : (ops[j]?).bind (·.dst) = some dj := by rfl) (hg : get fr dj = some undef := by rfl) (hlt : Nat.blt dj n.n = true := by rfl) (hdd : Nat.blt dd n.n = true := by rfl) : TO E n X s ops (⟨some dd, o, ty, pos, after, some (j, b')⟩ :: rest) fr A :=
  ⟨fun w hw => SO_nu hd hg hlt hdd (h.run w hw)⟩
theorem TO.split {t : Nat} (h1 : b = true → TO E n X s ops l ((t, .bool true) :: fr) A) (h2 : b = false → TO E n X s ops l ((t, .bool false) :: fr) A) (hg : get fr t = some (.bool b)) : TO E n X s ops l fr A := ⟨fun w hw => SO_split hg (fun h => (h1 h).run w hw) fun h => (h2 h).run w hw⟩
theorem gs (h1 : b = true → TO E n X s ops (⟨dst, o, ty, pos, after, some (j, b')⟩ :: rest) ((dj, .bool true) :: fr) A) (h2 : b = false → TO E n X s ops (⟨dst, o, ty, pos, after, some (j, b')⟩ :: rest) ((dj, .bool false) :: fr) A)
    (hd : (ops[j]?).bind (·.dst) = some dj := by rfl) (hg : get fr dj = some (.bool b) := by rfl) : TO E n X s ops (⟨dst, o, ty, pos, after, some (j, b')⟩ :: rest) fr A := TO.split h1 h2 hg
theorem gsi {p : Prop} [Decidable p] (h1 : p → TO E n X s ops (⟨dst, o, ty, pos, after, some (j, b')⟩ :: rest) ((dj, .bool true) :: fr) A) (h2 : ¬ p → TO E n X s ops (⟨dst, o, ty, pos, after, some (j, b')⟩ :: rest) ((dj, .bool false) :: fr) A)
    (hd : (ops[j]?).bind (·.dst) = some dj := by rfl) (hg : get fr dj = some (.bool (decide p)) := by rfl) : TO E n X s ops (⟨dst, o, ty, pos, after, some (j, b')⟩ :: rest) fr A := TO.split (fun h => h1 (of_decide_eq_true h)) (fun h => h2 (of_decide_eq_false h)) hg
theorem gsn {p : Prop} [Decidable p] (h1 : ¬ p → TO E n X s ops (⟨dst, o, ty, pos, after, some (j, b')⟩ :: rest) ((dj, .bool true) :: fr) A) (h2 : p → TO E n X s ops (⟨dst, o, ty, pos, after, some (j, b')⟩ :: rest) ((dj, .bool false) :: fr) A)
    (hd : (ops[j]?).bind (·.dst) = some dj := by rfl) (hg : get fr dj = some (.bool (!decide p)) := by rfl) : TO E n X s ops (⟨dst, o, ty, pos, after, some (j, b')⟩ :: rest) fr A := TO.split (fun h => h1 (by simpa using h)) (fun h => h2 (by simpa using h)) hg
theorem qgy (h : TQ E n X s ops (⟨dst, o, ty, pos, after, none⟩ :: rest) fr A) (hd : (ops[j]?).bind (·.dst) = some dj := by rfl) (hg : get fr dj = some (.bool b) := by rfl) (hlt : Nat.blt dj n.n = true := by rfl) : TQ E n X s ops (⟨dst, o, ty, pos, after, some (j, b)⟩ :: rest) fr A := ⟨SQ_yes hd hg hlt h.run⟩
theorem qgn (h : TQ E n X s ops rest ((dd, undef) :: fr) A) (hd : (ops[j]?).bind (·.dst) = some dj := by rfl) (hg : get fr dj = some (.bool b) := by rfl) (hb : b = !b' := by rfl) (hlt : Nat.blt dj n.n = true := by rfl) (hdd : Nat.blt dd n.n = true := by rfl) : TQ E n X s ops (⟨some dd, o, ty, pos, after, some (j, b')⟩ :: rest) fr A := ⟨SQ_no hd hg hlt hb hdd h.run⟩
theorem qgu (h : TQ E n X s ops rest ((dd, undef) :: fr) A) (hd : (ops[j]?).bind (·.dst) = some dj := by rfl) (hg : get fr dj = some undef := by rfl) (hlt : Nat.blt dj n.n = true := by rfl) (hdd : Nat.blt dd n.n = true := by rfl) : TQ E n X s ops (⟨some dd, o, ty, pos, after, some (j, b')⟩ :: rest) fr A := ⟨SQ_nu hd hg hlt hdd h.run⟩
theorem qgs (h1 : b = true → TQ E n X s ops (⟨dst, o, ty, pos, after, some (j, b')⟩ :: rest) ((dj, .bool true) :: fr) A) (h2 : b = false → TQ E n X s ops (⟨dst, o, ty, pos, after, some (j, b')⟩ :: rest) ((dj, .bool false) :: fr) A)
    (hd : (ops[j]?).bind (·.dst) = some dj := by rfl) (hg : get fr dj = some (.bool b) := by rfl) : TQ E n X s ops (⟨dst, o, ty, pos, after, some (j, b')⟩ :: rest) fr A := ⟨SQ_gsplit hd hg (fun h => (h1 h).run) fun h => (h2 h).run⟩
theorem qgsi {p : Prop} [Decidable p] (h1 : p → TQ E n X s ops (⟨dst, o, ty, pos, after, some (j, b')⟩ :: rest) ((dj, .bool true) :: fr) A) (h2 : ¬ p → TQ E n X s ops (⟨dst, o, ty, pos, after, some (j, b')⟩ :: rest) ((dj, .bool false) :: fr) A)
    (hd : (ops[j]?).bind (·.dst) = some dj := by rfl) (hg : get fr dj = some (.bool (decide p)) := by rfl) : TQ E n X s ops (⟨dst, o, ty, pos, after, some (j, b')⟩ :: rest) fr A := qgs (fun h => h1 (of_decide_eq_true h)) (fun h => h2 (of_decide_eq_false h)) hd hg
theorem qgsn {p : Prop} [Decidable p] (h1 : ¬ p → TQ E n X s ops (⟨dst, o, ty, pos, after, some (j, b')⟩ :: rest) ((dj, .bool true) :: fr) A) (h2 : p → TQ E n X s ops (⟨dst, o, ty, pos, after, some (j, b')⟩ :: rest) ((dj, .bool false) :: fr) A)
    (hd : (ops[j]?).bind (·.dst) = some dj := by rfl) (hg : get fr dj = some (.bool (!decide p)) := by rfl) : TQ E n X s ops (⟨dst, o, ty, pos, after, some (j, b')⟩ :: rest) fr A := qgs (fun h => h1 (by simpa using h)) (fun h => h2 (by simpa using h)) hd hg
end

/-! ### Calls -/
section
variable {f : FuncId} {args : List Operand} {ats : Array TypeId} {vs : List Value} {pre B : List Ch} {R : Value → List Ch → Prop} {cap : Array Value} {g : Operand}
theorem Tr.at {w : World} (hf : Tr P f vs pre B R) (hs : Fit A B F) (hp : ∀ c ∈ pre, Has F c) (hw : St X A w) : Fn P f vs w fun v w' => ∃ D, R v D ∧ St X (D ++ F) w' := by
  have h1 := hw.im hs
  refine (hf.run w (lend h1.sat hp)).mono fun v w' ⟨D, hR, hS, hM, hB⟩ => ⟨D, hR, h1.step hM hS hB⟩
theorem has0 {F : List Ch} : ∀ c ∈ ([] : List Ch), Has F c := fun _ h => nomatch h
theorem has00 : ∀ c ∈ ([] : List Ch), ∀ b, ¬ c.wr b ∧ ¬ c.rd b := fun _ h => nomatch h
theorem has01 {c : Ch} {pre : List Ch} [h : Lent c] (k : ∀ c ∈ pre, ∀ b, ¬ c.wr b ∧ ¬ c.rd b) : ∀ x ∈ c :: pre, ∀ b, ¬ x.wr b ∧ ¬ x.rd b := fun x hx => by rcases List.mem_cons.1 hx with rfl | hx; exact h.lent; exact k x hx
theorem has1 {F : List Ch} {c : Ch} {pre : List Ch} (h : Has F c) (k : ∀ c ∈ pre, Has F c) : ∀ x ∈ c :: pre, Has F x := fun x hx => by rcases List.mem_cons.1 hx with rfl | hx; exact h; exact k x hx
theorem ca (hf : Tr P f vs pre B R) (k : ∀ v D, R v D → TO E n X s ops rest ((d, v) :: fr) (D ++ F)) (hv : evs fr args = some vs := by rfl) (hs : Fit A B F := by first | apply Fit.all | ((repeat (first | (apply Fit.nilN; (repeat (first | apply nrm_nil | apply nrm_cons)); try apply nrm_rfl) | (apply Fit.cons; focus ((repeat (first | apply Tk.here | apply Tk.there)); first | done | fail)))); first | done | fail))
    (hp : ∀ c ∈ pre, Has F c := by (repeat (first | exact has0 | refine has1 (by first | (apply has_vw; (repeat (first | apply List.Mem.head | apply List.Mem.tail)); first | done | fail) | (apply has_own; (repeat (first | apply List.Mem.head | apply List.Mem.tail)); first | done | fail) | (apply has_ro; (repeat (first | apply List.Mem.head | apply List.Mem.tail)); first | done | fail) | apply has_nil | ((with_reducible apply has_el); (focus (first | (apply has_vels; (repeat (first | apply List.Mem.head | apply List.Mem.tail)); first | done | fail) | (apply has_rels; (repeat (first | apply List.Mem.head | apply List.Mem.tail)); first | done | fail))); omega) | (apply has_pt; (repeat (first | apply List.Mem.head | apply List.Mem.tail)); first | done | fail) | (apply has_lpt; (repeat (first | apply List.Mem.head | apply List.Mem.tail)); first | done | fail) | (apply has_vels; (repeat (first | apply List.Mem.head | apply List.Mem.tail)); first | done | fail) | (apply has_rels; (repeat (first | apply List.Mem.head | apply List.Mem.tail)); first | done | fail) | with_reducible assumption | ((with_reducible apply has_elg); (focus (first | (apply has_velg; (repeat (first | apply List.Mem.head | apply List.Mem.tail)); first | done | fail) | (apply has_relg; (repeat (first | apply List.Mem.head | apply List.Mem.tail)); first | done | fail))); omega) | (apply has_velg; (repeat (first | apply List.Mem.head | apply List.Mem.tail)); first | done | fail) | (apply has_relg; (repeat (first | apply List.Mem.head | apply List.Mem.tail)); first | done | fail) | (apply has_vwf; (repeat (first | apply List.Mem.head | apply List.Mem.tail)); first | done | fail)) ?_)); first | done | fail) (hd : Nat.blt d n.n = true := by rfl) : TO E n X s ops (⟨some d, .call ⟨.value (.func f), args.toArray, ats⟩, ty, pos, after, none⟩ :: rest) fr A :=
  ⟨fun w hw => SO_call hv hd (hf.at hs hp hw) fun v w' ⟨D, hR, hS⟩ => (k v D hR).run w' hS⟩
theorem can (hf : Tr P f vs pre B R) (k : ∀ v D, R v D → TO E n X s ops rest fr (D ++ F)) (hv : evs fr args = some vs := by rfl) (hs : Fit A B F := by first | apply Fit.all | ((repeat (first | (apply Fit.nilN; (repeat (first | apply nrm_nil | apply nrm_cons)); try apply nrm_rfl) | (apply Fit.cons; focus ((repeat (first | apply Tk.here | apply Tk.there)); first | done | fail)))); first | done | fail))
    (hp : ∀ c ∈ pre, Has F c := by (repeat (first | exact has0 | refine has1 (by first | (apply has_vw; (repeat (first | apply List.Mem.head | apply List.Mem.tail)); first | done | fail) | (apply has_own; (repeat (first | apply List.Mem.head | apply List.Mem.tail)); first | done | fail) | (apply has_ro; (repeat (first | apply List.Mem.head | apply List.Mem.tail)); first | done | fail) | apply has_nil | ((with_reducible apply has_el); (focus (first | (apply has_vels; (repeat (first | apply List.Mem.head | apply List.Mem.tail)); first | done | fail) | (apply has_rels; (repeat (first | apply List.Mem.head | apply List.Mem.tail)); first | done | fail))); omega) | (apply has_pt; (repeat (first | apply List.Mem.head | apply List.Mem.tail)); first | done | fail) | (apply has_lpt; (repeat (first | apply List.Mem.head | apply List.Mem.tail)); first | done | fail) | (apply has_vels; (repeat (first | apply List.Mem.head | apply List.Mem.tail)); first | done | fail) | (apply has_rels; (repeat (first | apply List.Mem.head | apply List.Mem.tail)); first | done | fail) | with_reducible assumption | ((with_reducible apply has_elg); (focus (first | (apply has_velg; (repeat (first | apply List.Mem.head | apply List.Mem.tail)); first | done | fail) | (apply has_relg; (repeat (first | apply List.Mem.head | apply List.Mem.tail)); first | done | fail))); omega) | (apply has_velg; (repeat (first | apply List.Mem.head | apply List.Mem.tail)); first | done | fail) | (apply has_relg; (repeat (first | apply List.Mem.head | apply List.Mem.tail)); first | done | fail) | (apply has_vwf; (repeat (first | apply List.Mem.head | apply List.Mem.tail)); first | done | fail)) ?_)); first | done | fail) : TO E n X s ops (⟨none, .call ⟨.value (.func f), args.toArray, ats⟩, ty, pos, after, none⟩ :: rest) fr A :=
  ⟨fun w hw => SO_call_n hv (hf.at hs hp hw) fun v w' ⟨D, hR, hS⟩ => (k v D hR).run w' hS⟩
theorem cav (hf : Tr P f (vs ++ cap.toList) pre B R) (k : ∀ v D, R v D → TO E n X s ops rest ((d, v) :: fr) (D ++ F)) (hg : ev fr g = some (.func (.func f) #[] cap) := by rfl) (hv : evs fr args = some vs := by rfl) (hs : Fit A B F := by first | apply Fit.all | ((repeat (first | (apply Fit.nilN; (repeat (first | apply nrm_nil | apply nrm_cons)); try apply nrm_rfl) | (apply Fit.cons; focus ((repeat (first | apply Tk.here | apply Tk.there)); first | done | fail)))); first | done | fail))
    (hp : ∀ c ∈ pre, Has F c := by (repeat (first | exact has0 | refine has1 (by first | (apply has_vw; (repeat (first | apply List.Mem.head | apply List.Mem.tail)); first | done | fail) | (apply has_own; (repeat (first | apply List.Mem.head | apply List.Mem.tail)); first | done | fail) | (apply has_ro; (repeat (first | apply List.Mem.head | apply List.Mem.tail)); first | done | fail) | apply has_nil | ((with_reducible apply has_el); (focus (first | (apply has_vels; (repeat (first | apply List.Mem.head | apply List.Mem.tail)); first | done | fail) | (apply has_rels; (repeat (first | apply List.Mem.head | apply List.Mem.tail)); first | done | fail))); omega) | (apply has_pt; (repeat (first | apply List.Mem.head | apply List.Mem.tail)); first | done | fail) | (apply has_lpt; (repeat (first | apply List.Mem.head | apply List.Mem.tail)); first | done | fail) | (apply has_vels; (repeat (first | apply List.Mem.head | apply List.Mem.tail)); first | done | fail) | (apply has_rels; (repeat (first | apply List.Mem.head | apply List.Mem.tail)); first | done | fail) | with_reducible assumption | ((with_reducible apply has_elg); (focus (first | (apply has_velg; (repeat (first | apply List.Mem.head | apply List.Mem.tail)); first | done | fail) | (apply has_relg; (repeat (first | apply List.Mem.head | apply List.Mem.tail)); first | done | fail))); omega) | (apply has_velg; (repeat (first | apply List.Mem.head | apply List.Mem.tail)); first | done | fail) | (apply has_relg; (repeat (first | apply List.Mem.head | apply List.Mem.tail)); first | done | fail) | (apply has_vwf; (repeat (first | apply List.Mem.head | apply List.Mem.tail)); first | done | fail)) ?_)); first | done | fail) (hd : Nat.blt d n.n = true := by rfl) : TO E n X s ops (⟨some d, .call ⟨.value g, args.toArray, ats⟩, ty, pos, after, none⟩ :: rest) fr A :=
  ⟨fun w hw => SO_callv hg hv hd (hf.at hs hp hw) fun v w' ⟨D, hR, hS⟩ => (k v D hR).run w' hS⟩
theorem cavn (hf : Tr P f (vs ++ cap.toList) pre B R) (k : ∀ v D, R v D → TO E n X s ops rest fr (D ++ F)) (hg : ev fr g = some (.func (.func f) #[] cap) := by rfl) (hv : evs fr args = some vs := by rfl) (hs : Fit A B F := by first | apply Fit.all | ((repeat (first | (apply Fit.nilN; (repeat (first | apply nrm_nil | apply nrm_cons)); try apply nrm_rfl) | (apply Fit.cons; focus ((repeat (first | apply Tk.here | apply Tk.there)); first | done | fail)))); first | done | fail))
    (hp : ∀ c ∈ pre, Has F c := by (repeat (first | exact has0 | refine has1 (by first | (apply has_vw; (repeat (first | apply List.Mem.head | apply List.Mem.tail)); first | done | fail) | (apply has_own; (repeat (first | apply List.Mem.head | apply List.Mem.tail)); first | done | fail) | (apply has_ro; (repeat (first | apply List.Mem.head | apply List.Mem.tail)); first | done | fail) | apply has_nil | ((with_reducible apply has_el); (focus (first | (apply has_vels; (repeat (first | apply List.Mem.head | apply List.Mem.tail)); first | done | fail) | (apply has_rels; (repeat (first | apply List.Mem.head | apply List.Mem.tail)); first | done | fail))); omega) | (apply has_pt; (repeat (first | apply List.Mem.head | apply List.Mem.tail)); first | done | fail) | (apply has_lpt; (repeat (first | apply List.Mem.head | apply List.Mem.tail)); first | done | fail) | (apply has_vels; (repeat (first | apply List.Mem.head | apply List.Mem.tail)); first | done | fail) | (apply has_rels; (repeat (first | apply List.Mem.head | apply List.Mem.tail)); first | done | fail) | with_reducible assumption | ((with_reducible apply has_elg); (focus (first | (apply has_velg; (repeat (first | apply List.Mem.head | apply List.Mem.tail)); first | done | fail) | (apply has_relg; (repeat (first | apply List.Mem.head | apply List.Mem.tail)); first | done | fail))); omega) | (apply has_velg; (repeat (first | apply List.Mem.head | apply List.Mem.tail)); first | done | fail) | (apply has_relg; (repeat (first | apply List.Mem.head | apply List.Mem.tail)); first | done | fail) | (apply has_vwf; (repeat (first | apply List.Mem.head | apply List.Mem.tail)); first | done | fail)) ?_)); first | done | fail) : TO E n X s ops (⟨none, .call ⟨.value g, args.toArray, ats⟩, ty, pos, after, none⟩ :: rest) fr A :=
  ⟨fun w hw => SO_callv_n hg hv (hf.at hs hp hw) fun v w' ⟨D, hR, hS⟩ => (k v D hR).run w' hS⟩
/-- In a drawn region: a call whose value is determined, and that leaves the pieces as they are. -/
theorem qca (hf : Tr P f vs pre [] R) (hR : ∀ u D, R u D → u = v ∧ D = []) (k : TQ E n X s ops rest ((d, v) :: fr) A) (hv : evs fr args = some vs := by rfl)
    (hp : ∀ c ∈ pre, Has A c := by (repeat (first | exact has0 | refine has1 (by first | (apply has_vw; (repeat (first | apply List.Mem.head | apply List.Mem.tail)); first | done | fail) | (apply has_own; (repeat (first | apply List.Mem.head | apply List.Mem.tail)); first | done | fail) | (apply has_ro; (repeat (first | apply List.Mem.head | apply List.Mem.tail)); first | done | fail) | apply has_nil | ((with_reducible apply has_el); (focus (first | (apply has_vels; (repeat (first | apply List.Mem.head | apply List.Mem.tail)); first | done | fail) | (apply has_rels; (repeat (first | apply List.Mem.head | apply List.Mem.tail)); first | done | fail))); omega) | (apply has_pt; (repeat (first | apply List.Mem.head | apply List.Mem.tail)); first | done | fail) | (apply has_lpt; (repeat (first | apply List.Mem.head | apply List.Mem.tail)); first | done | fail) | (apply has_vels; (repeat (first | apply List.Mem.head | apply List.Mem.tail)); first | done | fail) | (apply has_rels; (repeat (first | apply List.Mem.head | apply List.Mem.tail)); first | done | fail) | with_reducible assumption | ((with_reducible apply has_elg); (focus (first | (apply has_velg; (repeat (first | apply List.Mem.head | apply List.Mem.tail)); first | done | fail) | (apply has_relg; (repeat (first | apply List.Mem.head | apply List.Mem.tail)); first | done | fail))); omega) | (apply has_velg; (repeat (first | apply List.Mem.head | apply List.Mem.tail)); first | done | fail) | (apply has_relg; (repeat (first | apply List.Mem.head | apply List.Mem.tail)); first | done | fail) | (apply has_vwf; (repeat (first | apply List.Mem.head | apply List.Mem.tail)); first | done | fail)) ?_)); first | done | fail) (hd : Nat.blt d n.n = true := by rfl) : TQ E n X s ops (⟨some d, .call ⟨.value (.func f), args.toArray, ats⟩, ty, pos, after, none⟩ :: rest) fr A :=
  ⟨SQ_call hv hd (fun w hw => (hf.at (F := A) Fit.nil hp hw).mono fun u w' ⟨D, hu, hS⟩ => by obtain ⟨rfl, rfl⟩ := hR u D hu; exact ⟨rfl, hS⟩) k.run⟩
end

/-! ### The end -/
section
variable {R : Value → List Ch → Prop} {fn : Func} {w0 : World} {A0 D G : List Ch} {t t2 t3 nn : Nat} {v1 v2 v3 : Value}
theorem PR.mk {w : World} (h : R v D) (hw : St ⟨bodyPost P fn (RetP (PR w0 A0 R)), w0, A0⟩ A w) (hf : Fit A D G) (nb : ∀ c ∈ D, ∀ b, ¬ c.bd b) : PR w0 A0 R v w := by
  have h1 := hw.im (Im.trans hf (Im.drop _ _))
  exact ⟨D, h, h1.sat, h1.mv, nb⟩
theorem nb0 : ∀ c ∈ ([] : List Ch), ∀ b, ¬ c.bd b := fun _ h => nomatch h
theorem nb1 {c : Ch} {D : List Ch} [h : NoB c] (k : ∀ c ∈ D, ∀ b, ¬ c.bd b) : ∀ x ∈ c :: D, ∀ b, ¬ x.bd b := fun x hx => by rcases List.mem_cons.1 hx with rfl | hx; exact h.nb; exact k x hx
theorem r0 (h : R (.tuple #[]) D) (hr : fn.results = #[] := by rfl) (hf : Fit A D G := by first | apply Fit.all | ((repeat (first | (apply Fit.nilN; (repeat (first | apply nrm_nil | apply nrm_cons)); try apply nrm_rfl) | (apply Fit.cons; focus ((repeat (first | apply Tk.here | apply Tk.there)); first | done | fail)))); first | done | fail)) (nb : ∀ c ∈ D, ∀ b, ¬ c.bd b := by (repeat (first | exact nb0 | refine nb1 ?_)); first | done | fail) :
    TX E ⟨nn, [], none⟩ ⟨bodyPost P fn (RetP (PR w0 A0 R)), w0, A0⟩ [] .ret fr A := ⟨fun w hw => SX_ret0 rfl hr (PR.mk h hw hf nb)⟩
theorem e0 (h : R (.tuple #[]) D) (hr : fn.results = #[] := by rfl) (hf : Fit A D G := by first | apply Fit.all | ((repeat (first | (apply Fit.nilN; (repeat (first | apply nrm_nil | apply nrm_cons)); try apply nrm_rfl) | (apply Fit.cons; focus ((repeat (first | apply Tk.here | apply Tk.there)); first | done | fail)))); first | done | fail)) (nb : ∀ c ∈ D, ∀ b, ¬ c.bd b := by (repeat (first | exact nb0 | refine nb1 ?_)); first | done | fail) :
    TX E ⟨nn, [], none⟩ ⟨bodyPost P fn (RetP (PR w0 A0 R)), w0, A0⟩ [] .normal fr A := ⟨fun w hw => SX_end0 rfl hr (PR.mk h hw hf nb)⟩
theorem r1 (h : R v D) (hr : fn.results = #[.tmp t] := by rfl) (hv : get fr t = some v := by rfl) (hf : Fit A D G := by first | apply Fit.all | ((repeat (first | (apply Fit.nilN; (repeat (first | apply nrm_nil | apply nrm_cons)); try apply nrm_rfl) | (apply Fit.cons; focus ((repeat (first | apply Tk.here | apply Tk.there)); first | done | fail)))); first | done | fail)) (nb : ∀ c ∈ D, ∀ b, ¬ c.bd b := by (repeat (first | exact nb0 | refine nb1 ?_)); first | done | fail) :
    TX E ⟨nn, [], none⟩ ⟨bodyPost P fn (RetP (PR w0 A0 R)), w0, A0⟩ [] .ret fr A := ⟨fun w hw => SX_ret1 rfl hr hv (PR.mk h hw hf nb)⟩
theorem r2 (h : R (.tuple #[v1, v2]) D) (hr : fn.results = #[.tmp t, .tmp t2] := by rfl) (hv : get fr t = some v1 := by rfl) (hv2 : get fr t2 = some v2 := by rfl) (hf : Fit A D G := by first | apply Fit.all | ((repeat (first | (apply Fit.nilN; (repeat (first | apply nrm_nil | apply nrm_cons)); try apply nrm_rfl) | (apply Fit.cons; focus ((repeat (first | apply Tk.here | apply Tk.there)); first | done | fail)))); first | done | fail)) (nb : ∀ c ∈ D, ∀ b, ¬ c.bd b := by (repeat (first | exact nb0 | refine nb1 ?_)); first | done | fail) :
    TX E ⟨nn, [], none⟩ ⟨bodyPost P fn (RetP (PR w0 A0 R)), w0, A0⟩ [] .ret fr A := ⟨fun w hw => SX_ret2 rfl hr hv hv2 (PR.mk h hw hf nb)⟩
theorem r3 (h : R (.tuple #[v1, v2, v3]) D) (hr : fn.results = #[.tmp t, .tmp t2, .tmp t3] := by rfl) (hv : get fr t = some v1 := by rfl) (hv2 : get fr t2 = some v2 := by rfl) (hv3 : get fr t3 = some v3 := by rfl) (hf : Fit A D G := by first | apply Fit.all | ((repeat (first | (apply Fit.nilN; (repeat (first | apply nrm_nil | apply nrm_cons)); try apply nrm_rfl) | (apply Fit.cons; focus ((repeat (first | apply Tk.here | apply Tk.there)); first | done | fail)))); first | done | fail))
    (nb : ∀ c ∈ D, ∀ b, ¬ c.bd b := by (repeat (first | exact nb0 | refine nb1 ?_)); first | done | fail) : TX E ⟨nn, [], none⟩ ⟨bodyPost P fn (RetP (PR w0 A0 R)), w0, A0⟩ [] .ret fr A := ⟨fun w hw => SX_ret3 rfl hr hv hv2 hv3 (PR.mk h hw hf nb)⟩
end
/-- A contract of the elder kind. -/
theorem Tr.of_fn {f : FuncId} {args : List Value} {pre : List Ch} {R : Value → List Ch → Prop} (lent : ∀ c ∈ pre, ∀ b, ¬ c.wr b ∧ ¬ c.rd b) (h : ∀ w, Sat pre w → Fn P f args w fun v w' => Ext w w' ∧ ∃ D, R v D ∧ Sat D w' ∧ (∀ b, fts D b → w.heap.size ≤ b) ∧ ∀ c ∈ D, ∀ b, ¬ c.bd b) : Tr P f args pre [] R :=
  ⟨fun w hw => (h w (by simpa using hw)).mono fun v w' ⟨hE, D, h1, h2, h3, h4⟩ => ⟨D, h1, h2, Mv.upd hE (by simp) (fun b hb => .inr (h3 b hb.ft)) (fun b hb => .inr (.inr (h3 b hb.ft))), h4⟩, lent⟩
theorem Tr.fn {f : FuncId} {args : List Value} {pre : List Ch} {R : Value → List Ch → Prop} (h : Tr P f args pre [] R) {w : World} (hw : Sat pre w) : Fn P f args w fun v w' => Ext w w' ∧ ∃ D, R v D ∧ Sat D w' ∧ ∀ b, fts D b → w.heap.size ≤ b :=
  (h.run w (by simpa using hw)).mono fun v w' ⟨D, h1, h2, h3, h4⟩ => ⟨⟨h3.os, h3.tape, h3.output, h3.size, fun k hk _ => h3.block k hk wrs_nil⟩, D, h1, h2, fun b ⟨c, hc, hb⟩ => by
    rcases hb with hb | hb | hb
    · rcases h3.wr b ⟨c, hc, hb⟩ with h | h; exact absurd h wrs_nil; exact h
    · rcases h3.rd b ⟨c, hc, hb⟩ with h | h | h; exact absurd h wrs_nil; exact absurd h rds_nil; exact h
    · exact absurd hb (h4 c hc b)⟩
end
end Go.Art
set_option linter.unusedSimpArgs false
set_option linter.unusedVariables false
namespace Go.Art
open Go Go.RowKit

abbrev ptr (b : Nat) : Value := .pointer (some ⟨b, 0, none⟩)
abbrev tup2 (a b : Value) : Value := .tuple #[a, b]
abbrev Is (l : List Int) : List Value := l.map I
theorem Is_get (l : List Int) (i : Nat) (h : i < l.length) : (Is l)[i]? = some (I (l.getD i 0)) := by simp [List.getD_eq_getElem?_getD, h]
theorem Is_len (l : List Int) : (Is l).length = l.length := List.length_map ..
theorem Is_one (l : List Int) : ∀ c ∈ Is l, c.oneCell' = true := by
  intro c hc; obtain ⟨_, _, rfl⟩ := List.mem_map.1 hc; rfl
theorem Is_set (l : List Int) (i : Nat) (x : Int) : Is (l.set i x) = (Is l).set i (I x) := List.map_set ..
theorem Is_app (l m : List Int) : Is (l ++ m) = Is l ++ Is m := List.map_append ..
theorem Is_inj {l m : List Int} (h : Is l = Is m) : l = m := List.map_inj_right (fun a b e => by injection e) |>.1 h
theorem Is_rep (n : Nat) (x : Int) : List.replicate n (I x) = Is (List.replicate n x) := by simp
theorem Is_sub (l : List Int) (lo hi : Nat) : ((Is l).take hi).drop lo = Is ((l.take hi).drop lo) := by simp
theorem Sl.geti {w : World} {v : Value} {l : List Int} (h : Sl w v (Is l)) {i : Nat} (hi : i < l.length) : w.cell? (addrAt v i) = some (I (l.getD i 0)) := h.cell (Is_get l i hi)
theorem take_succ' {α : Type} [Inhabited α] {l : List α} {i : Nat} (h : i < l.length) (z : α) : l.take (i + 1) = l.take i ++ [l.getD i z] := by
  rw [List.take_succ_eq_append_getElem h]; simp [List.getD_eq_getElem?_getD, h]
theorem eq_of_getD {xs ys : List Int} (hl : xs.length = ys.length) (h : ∀ j, j < xs.length → xs.getD j 0 = ys.getD j 0) : xs = ys := by
  refine List.ext_getElem hl fun i h1 h2 => ?_
  have := h i h1
  simpa [List.getD_eq_getElem?_getD, h1, h2] using this
theorem getD_set (l : List Int) (i j : Nat) (x : Int) (h : i < l.length) : (l.set i x).getD j 0 = if i = j then x else l.getD j 0 := by
  simp only [List.getD_eq_getElem?_getD, List.getElem?_set]
  by_cases e : i = j
  · subst e; simp [h]
  · rw [if_neg e, if_neg e]
theorem mem_getD {l : List Int} {x : Int} : x ∈ l ↔ ∃ i, i < l.length ∧ l.getD i 0 = x := by
  rw [List.mem_iff_getElem]
  constructor
  · rintro ⟨i, h, rfl⟩; exact ⟨i, h, by simp [List.getD_eq_getElem?_getD, h]⟩
  · rintro ⟨i, h, rfl⟩; exact ⟨i, h, by simp [List.getD_eq_getElem?_getD, h]⟩

theorem has_subi {F : List Ch} {v : Value} {l : List Int} (h : Has F (vw v (Is l))) {lo hi : Nat} (h1 : lo ≤ hi) (h2 : hi ≤ l.length) : Has F (vw (slSub v lo hi) (Is ((l.take hi).drop lo))) := by
  rw [← Is_sub]; exact has_sub h h1 (by simpa using h2)
theorem im_subi (e : TypeId) (v : Value) (l : List Int) {lo hi : Nat} (h1 : lo ≤ hi) (h2 : hi ≤ l.length) : Im1 (own e v (Is l)) (own e (slSub v lo hi) (Is ((l.take hi).drop lo))) := by
  have := im_sub e v (Is l) h1 (by simpa using h2)
  rwa [Is_sub] at this
theorem vw_len {A : List Ch} {v : Value} {xs : List Value} (h : Has A (vw v xs)) (w : World) (hw : Sat A w) : xs.length ≤ 9223372036854775807 := (has_sl hw h).len

section
variable {P : Program} {E : Env P} {n : Sh} {X : Cx} {s : List K} {fr : Fr} {A A' B F : List Ch} {ops : Array Oper} {rest l : List Oper} {d : Nat} {o : Op} {ty : TypeId} {pos : String} {after : Array Edge} {v u : Value} {c0 : Code} {e : Exit}
  {op : BinOp} {t t' : TypeId} {x y : Operand} {m q : Int} {z : Value} {by_ : Nat} {el : TypeId} {xs : List Value} {i : Int} {k1 k2 : IntKind} {z1 z2 : Operand}
theorem TC.leni {l : List Int} (k : l.length ≤ 9223372036854775807 → TC E n X s c0 fr A) (hh : Has A (vw v (Is l)) := by first | (apply has_vw; (repeat (first | apply List.Mem.head | apply List.Mem.tail)); first | done | fail) | (apply has_own; (repeat (first | apply List.Mem.head | apply List.Mem.tail)); first | done | fail) | (apply has_ro; (repeat (first | apply List.Mem.head | apply List.Mem.tail)); first | done | fail) | apply has_nil | ((with_reducible apply has_el); (focus (first | (apply has_vels; (repeat (first | apply List.Mem.head | apply List.Mem.tail)); first | done | fail) | (apply has_rels; (repeat (first | apply List.Mem.head | apply List.Mem.tail)); first | done | fail))); omega) | (apply has_pt; (repeat (first | apply List.Mem.head | apply List.Mem.tail)); first | done | fail) | (apply has_lpt; (repeat (first | apply List.Mem.head | apply List.Mem.tail)); first | done | fail) | (apply has_vels; (repeat (first | apply List.Mem.head | apply List.Mem.tail)); first | done | fail) | (apply has_rels; (repeat (first | apply List.Mem.head | apply List.Mem.tail)); first | done | fail) | with_reducible assumption | ((with_reducible apply has_elg); (focus (first | (apply has_velg; (repeat (first | apply List.Mem.head | apply List.Mem.tail)); first | done | fail) | (apply has_relg; (repeat (first | apply List.Mem.head | apply List.Mem.tail)); first | done | fail))); omega) | (apply has_velg; (repeat (first | apply List.Mem.head | apply List.Mem.tail)); first | done | fail) | (apply has_relg; (repeat (first | apply List.Mem.head | apply List.Mem.tail)); first | done | fail) | (apply has_vwf; (repeat (first | apply List.Mem.head | apply List.Mem.tail)); first | done | fail)) : TC E n X s c0 fr A := TC.fact (fun w hw => by simpa using vw_len hh w hw) k
theorem bx1 (k : ∀ b, TO E n X s ops rest ((d, ptr b) :: fr) (pt b [v] t :: A)) (hx : ev fr x = some v := by rfl) (hv : v.oneCell' = true := by first | rfl | assumption) (hd : Nat.blt d n.n = true := by rfl) :
    TO E n X s ops (⟨some d, .box t x, ty, pos, after, none⟩ :: rest) fr A := bx (fun b => by rw [oneCell_cells hv]; exact k b) hx hd
theorem TC.one (k : v.oneCell' = true → TC E n X s c0 fr A) (hh : Has A (vw v xs) := by first | (apply has_vw; (repeat (first | apply List.Mem.head | apply List.Mem.tail)); first | done | fail) | (apply has_own; (repeat (first | apply List.Mem.head | apply List.Mem.tail)); first | done | fail) | (apply has_ro; (repeat (first | apply List.Mem.head | apply List.Mem.tail)); first | done | fail) | apply has_nil | ((with_reducible apply has_el); (focus (first | (apply has_vels; (repeat (first | apply List.Mem.head | apply List.Mem.tail)); first | done | fail) | (apply has_rels; (repeat (first | apply List.Mem.head | apply List.Mem.tail)); first | done | fail))); omega) | (apply has_pt; (repeat (first | apply List.Mem.head | apply List.Mem.tail)); first | done | fail) | (apply has_lpt; (repeat (first | apply List.Mem.head | apply List.Mem.tail)); first | done | fail) | (apply has_vels; (repeat (first | apply List.Mem.head | apply List.Mem.tail)); first | done | fail) | (apply has_rels; (repeat (first | apply List.Mem.head | apply List.Mem.tail)); first | done | fail) | with_reducible assumption | ((with_reducible apply has_elg); (focus (first | (apply has_velg; (repeat (first | apply List.Mem.head | apply List.Mem.tail)); first | done | fail) | (apply has_relg; (repeat (first | apply List.Mem.head | apply List.Mem.tail)); first | done | fail))); omega) | (apply has_velg; (repeat (first | apply List.Mem.head | apply List.Mem.tail)); first | done | fail) | (apply has_relg; (repeat (first | apply List.Mem.head | apply List.Mem.tail)); first | done | fail) | (apply has_vwf; (repeat (first | apply List.Mem.head | apply List.Mem.tail)); first | done | fail)) : TC E n X s c0 fr A := TC.fact (fun w hw => by obtain ⟨a, c, rfl, _⟩ := hh.P w hw; rfl) k
theorem TO.one (k : v.oneCell' = true → TO E n X s ops rest fr A) (hh : Has A (vw v xs) := by first | (apply has_vw; (repeat (first | apply List.Mem.head | apply List.Mem.tail)); first | done | fail) | (apply has_own; (repeat (first | apply List.Mem.head | apply List.Mem.tail)); first | done | fail) | (apply has_ro; (repeat (first | apply List.Mem.head | apply List.Mem.tail)); first | done | fail) | apply has_nil | ((with_reducible apply has_el); (focus (first | (apply has_vels; (repeat (first | apply List.Mem.head | apply List.Mem.tail)); first | done | fail) | (apply has_rels; (repeat (first | apply List.Mem.head | apply List.Mem.tail)); first | done | fail))); omega) | (apply has_pt; (repeat (first | apply List.Mem.head | apply List.Mem.tail)); first | done | fail) | (apply has_lpt; (repeat (first | apply List.Mem.head | apply List.Mem.tail)); first | done | fail) | (apply has_vels; (repeat (first | apply List.Mem.head | apply List.Mem.tail)); first | done | fail) | (apply has_rels; (repeat (first | apply List.Mem.head | apply List.Mem.tail)); first | done | fail) | with_reducible assumption | ((with_reducible apply has_elg); (focus (first | (apply has_velg; (repeat (first | apply List.Mem.head | apply List.Mem.tail)); first | done | fail) | (apply has_relg; (repeat (first | apply List.Mem.head | apply List.Mem.tail)); first | done | fail))); omega) | (apply has_velg; (repeat (first | apply List.Mem.head | apply List.Mem.tail)); first | done | fail) | (apply has_relg; (repeat (first | apply List.Mem.head | apply List.Mem.tail)); first | done | fail) | (apply has_vwf; (repeat (first | apply List.Mem.head | apply List.Mem.tail)); first | done | fail)) : TO E n X s ops rest fr A := TO.fact (fun w hw => by obtain ⟨a, c, rfl, _⟩ := hh.P w hw; rfl) k
theorem acw (k : TO E n X s ops rest ((d, I m) :: fr) A) (h : evOp E fr (.convert t t' x) = some (.int .i64 (IntKind.i64.wrap m)) := by rfl) (hb : -9223372036854775808 ≤ m ∧ m ≤ 9223372036854775807 := by omega) (hd : Nat.blt d n.n = true := by rfl) :
    TO E n X s ops (⟨some d, .convert t t' x, ty, pos, after, none⟩ :: rest) fr A := TO.val (fun _ _ => R_wrap (R_auto h) hb) k hd
theorem qacw (k : TQ E n X s ops rest ((d, I m) :: fr) A) (h : evOp E fr (.convert t t' x) = some (.int .i64 (IntKind.i64.wrap m)) := by rfl) (hb : -9223372036854775808 ≤ m ∧ m ≤ 9223372036854775807 := by omega) (hd : Nat.blt d n.n = true := by rfl) :
    TQ E n X s ops (⟨some d, .convert t t' x, ty, pos, after, none⟩ :: rest) fr A := TQ.val (fun _ _ => R_wrap (R_auto h) hb) k hd
theorem anw (k : TO E n X s ops rest ((d, I m) :: fr) A) (h : evOp E fr (.unOp .neg t x) = some (.int .i64 (IntKind.i64.wrap m)) := by rfl) (hb : -9223372036854775808 ≤ m ∧ m ≤ 9223372036854775807 := by omega) (hd : Nat.blt d n.n = true := by rfl) :
    TO E n X s ops (⟨some d, .unOp .neg t x, ty, pos, after, none⟩ :: rest) fr A := TO.val (fun _ _ => R_wrap (R_auto h) hb) k hd
section
variable {α : Type} {g : α → Value} {l : List α}
theorem lnm (k : TO E n X s ops rest ((d, I l.length) :: fr) A) (hx : ev fr x = some v := by rfl) (hh : Has A (vw v (l.map g)) := by first | (apply has_vw; (repeat (first | apply List.Mem.head | apply List.Mem.tail)); first | done | fail) | (apply has_own; (repeat (first | apply List.Mem.head | apply List.Mem.tail)); first | done | fail) | (apply has_ro; (repeat (first | apply List.Mem.head | apply List.Mem.tail)); first | done | fail) | apply has_nil | ((with_reducible apply has_el); (focus (first | (apply has_vels; (repeat (first | apply List.Mem.head | apply List.Mem.tail)); first | done | fail) | (apply has_rels; (repeat (first | apply List.Mem.head | apply List.Mem.tail)); first | done | fail))); omega) | (apply has_pt; (repeat (first | apply List.Mem.head | apply List.Mem.tail)); first | done | fail) | (apply has_lpt; (repeat (first | apply List.Mem.head | apply List.Mem.tail)); first | done | fail) | (apply has_vels; (repeat (first | apply List.Mem.head | apply List.Mem.tail)); first | done | fail) | (apply has_rels; (repeat (first | apply List.Mem.head | apply List.Mem.tail)); first | done | fail) | with_reducible assumption | ((with_reducible apply has_elg); (focus (first | (apply has_velg; (repeat (first | apply List.Mem.head | apply List.Mem.tail)); first | done | fail) | (apply has_relg; (repeat (first | apply List.Mem.head | apply List.Mem.tail)); first | done | fail))); omega) | (apply has_velg; (repeat (first | apply List.Mem.head | apply List.Mem.tail)); first | done | fail) | (apply has_relg; (repeat (first | apply List.Mem.head | apply List.Mem.tail)); first | done | fail) | (apply has_vwf; (repeat (first | apply List.Mem.head | apply List.Mem.tail)); first | done | fail)) (ht : lk E.und t = some (.slice el) := by rfl) (hd : Nat.blt d n.n = true := by rfl) :
    TO E n X s ops (⟨some d, .call ⟨.builtin .len, #[x], #[t]⟩, ty, pos, after, none⟩ :: rest) fr A := ln (xs := l.map g) (by simpa using k) hx hh ht hd
theorem qlnm (k : TQ E n X s ops rest ((d, I l.length) :: fr) A) (hx : ev fr x = some v := by rfl) (hh : Has A (vw v (l.map g)) := by first | (apply has_vw; (repeat (first | apply List.Mem.head | apply List.Mem.tail)); first | done | fail) | (apply has_own; (repeat (first | apply List.Mem.head | apply List.Mem.tail)); first | done | fail) | (apply has_ro; (repeat (first | apply List.Mem.head | apply List.Mem.tail)); first | done | fail) | apply has_nil | ((with_reducible apply has_el); (focus (first | (apply has_vels; (repeat (first | apply List.Mem.head | apply List.Mem.tail)); first | done | fail) | (apply has_rels; (repeat (first | apply List.Mem.head | apply List.Mem.tail)); first | done | fail))); omega) | (apply has_pt; (repeat (first | apply List.Mem.head | apply List.Mem.tail)); first | done | fail) | (apply has_lpt; (repeat (first | apply List.Mem.head | apply List.Mem.tail)); first | done | fail) | (apply has_vels; (repeat (first | apply List.Mem.head | apply List.Mem.tail)); first | done | fail) | (apply has_rels; (repeat (first | apply List.Mem.head | apply List.Mem.tail)); first | done | fail) | with_reducible assumption | ((with_reducible apply has_elg); (focus (first | (apply has_velg; (repeat (first | apply List.Mem.head | apply List.Mem.tail)); first | done | fail) | (apply has_relg; (repeat (first | apply List.Mem.head | apply List.Mem.tail)); first | done | fail))); omega) | (apply has_velg; (repeat (first | apply List.Mem.head | apply List.Mem.tail)); first | done | fail) | (apply has_relg; (repeat (first | apply List.Mem.head | apply List.Mem.tail)); first | done | fail) | (apply has_vwf; (repeat (first | apply List.Mem.head | apply List.Mem.tail)); first | done | fail)) (ht : lk E.und t = some (.slice el) := by rfl) (hd : Nat.blt d n.n = true := by rfl) :
    TQ E n X s ops (⟨some d, .call ⟨.builtin .len, #[x], #[t]⟩, ty, pos, after, none⟩ :: rest) fr A := qln (xs := l.map g) (by simpa using k) hx hh ht hd
theorem ixm (k : TO E n X s ops rest ((d, .pointer (some (addrAt v i.toNat))) :: fr) A) (hx : ev fr x = some v := by rfl) (hy : ev fr y = some (.int k1 i) := by rfl) (hh : Has A (vw v (l.map g)) := by first | (apply has_vw; (repeat (first | apply List.Mem.head | apply List.Mem.tail)); first | done | fail) | (apply has_own; (repeat (first | apply List.Mem.head | apply List.Mem.tail)); first | done | fail) | (apply has_ro; (repeat (first | apply List.Mem.head | apply List.Mem.tail)); first | done | fail) | apply has_nil | ((with_reducible apply has_el); (focus (first | (apply has_vels; (repeat (first | apply List.Mem.head | apply List.Mem.tail)); first | done | fail) | (apply has_rels; (repeat (first | apply List.Mem.head | apply List.Mem.tail)); first | done | fail))); omega) | (apply has_pt; (repeat (first | apply List.Mem.head | apply List.Mem.tail)); first | done | fail) | (apply has_lpt; (repeat (first | apply List.Mem.head | apply List.Mem.tail)); first | done | fail) | (apply has_vels; (repeat (first | apply List.Mem.head | apply List.Mem.tail)); first | done | fail) | (apply has_rels; (repeat (first | apply List.Mem.head | apply List.Mem.tail)); first | done | fail) | with_reducible assumption | ((with_reducible apply has_elg); (focus (first | (apply has_velg; (repeat (first | apply List.Mem.head | apply List.Mem.tail)); first | done | fail) | (apply has_relg; (repeat (first | apply List.Mem.head | apply List.Mem.tail)); first | done | fail))); omega) | (apply has_velg; (repeat (first | apply List.Mem.head | apply List.Mem.tail)); first | done | fail) | (apply has_relg; (repeat (first | apply List.Mem.head | apply List.Mem.tail)); first | done | fail) | (apply has_vwf; (repeat (first | apply List.Mem.head | apply List.Mem.tail)); first | done | fail)) (hb : 0 ≤ i ∧ i < l.length := by omega)
    (ht : lk E.und t = some (.slice el) := by rfl) (he : lk E.inf el = some (z, 1, by_) := by rfl) (hd : Nat.blt d n.n = true := by rfl) : TO E n X s ops (⟨some d, .indexAddr t x y, ty, pos, after, none⟩ :: rest) fr A := ix k hx hy hh (by simpa using hb) ht he hd
theorem qixm (k : TQ E n X s ops rest ((d, .pointer (some (addrAt v i.toNat))) :: fr) A) (hx : ev fr x = some v := by rfl) (hy : ev fr y = some (.int k1 i) := by rfl) (hh : Has A (vw v (l.map g)) := by first | (apply has_vw; (repeat (first | apply List.Mem.head | apply List.Mem.tail)); first | done | fail) | (apply has_own; (repeat (first | apply List.Mem.head | apply List.Mem.tail)); first | done | fail) | (apply has_ro; (repeat (first | apply List.Mem.head | apply List.Mem.tail)); first | done | fail) | apply has_nil | ((with_reducible apply has_el); (focus (first | (apply has_vels; (repeat (first | apply List.Mem.head | apply List.Mem.tail)); first | done | fail) | (apply has_rels; (repeat (first | apply List.Mem.head | apply List.Mem.tail)); first | done | fail))); omega) | (apply has_pt; (repeat (first | apply List.Mem.head | apply List.Mem.tail)); first | done | fail) | (apply has_lpt; (repeat (first | apply List.Mem.head | apply List.Mem.tail)); first | done | fail) | (apply has_vels; (repeat (first | apply List.Mem.head | apply List.Mem.tail)); first | done | fail) | (apply has_rels; (repeat (first | apply List.Mem.head | apply List.Mem.tail)); first | done | fail) | with_reducible assumption | ((with_reducible apply has_elg); (focus (first | (apply has_velg; (repeat (first | apply List.Mem.head | apply List.Mem.tail)); first | done | fail) | (apply has_relg; (repeat (first | apply List.Mem.head | apply List.Mem.tail)); first | done | fail))); omega) | (apply has_velg; (repeat (first | apply List.Mem.head | apply List.Mem.tail)); first | done | fail) | (apply has_relg; (repeat (first | apply List.Mem.head | apply List.Mem.tail)); first | done | fail) | (apply has_vwf; (repeat (first | apply List.Mem.head | apply List.Mem.tail)); first | done | fail)) (hb : 0 ≤ i ∧ i < l.length := by omega)
    (ht : lk E.und t = some (.slice el) := by rfl) (he : lk E.inf el = some (z, 1, by_) := by rfl) (hd : Nat.blt d n.n = true := by rfl) : TQ E n X s ops (⟨some d, .indexAddr t x y, ty, pos, after, none⟩ :: rest) fr A := qix k hx hy hh (by simpa using hb) ht he hd
theorem ixmn {i : Nat} (k : TO E n X s ops rest ((d, .pointer (some (addrAt v i))) :: fr) A) (hx : ev fr x = some v := by rfl) (hy : ev fr y = some (.int k1 (i : Int)) := by rfl) (hh : Has A (vw v (l.map g)) := by first | (apply has_vw; (repeat (first | apply List.Mem.head | apply List.Mem.tail)); first | done | fail) | (apply has_own; (repeat (first | apply List.Mem.head | apply List.Mem.tail)); first | done | fail) | (apply has_ro; (repeat (first | apply List.Mem.head | apply List.Mem.tail)); first | done | fail) | apply has_nil | ((with_reducible apply has_el); (focus (first | (apply has_vels; (repeat (first | apply List.Mem.head | apply List.Mem.tail)); first | done | fail) | (apply has_rels; (repeat (first | apply List.Mem.head | apply List.Mem.tail)); first | done | fail))); omega) | (apply has_pt; (repeat (first | apply List.Mem.head | apply List.Mem.tail)); first | done | fail) | (apply has_lpt; (repeat (first | apply List.Mem.head | apply List.Mem.tail)); first | done | fail) | (apply has_vels; (repeat (first | apply List.Mem.head | apply List.Mem.tail)); first | done | fail) | (apply has_rels; (repeat (first | apply List.Mem.head | apply List.Mem.tail)); first | done | fail) | with_reducible assumption | ((with_reducible apply has_elg); (focus (first | (apply has_velg; (repeat (first | apply List.Mem.head | apply List.Mem.tail)); first | done | fail) | (apply has_relg; (repeat (first | apply List.Mem.head | apply List.Mem.tail)); first | done | fail))); omega) | (apply has_velg; (repeat (first | apply List.Mem.head | apply List.Mem.tail)); first | done | fail) | (apply has_relg; (repeat (first | apply List.Mem.head | apply List.Mem.tail)); first | done | fail) | (apply has_vwf; (repeat (first | apply List.Mem.head | apply List.Mem.tail)); first | done | fail)) (hb : i < l.length := by omega)
    (ht : lk E.und t = some (.slice el) := by rfl) (he : lk E.inf el = some (z, 1, by_) := by rfl) (hd : Nat.blt d n.n = true := by rfl) : TO E n X s ops (⟨some d, .indexAddr t x y, ty, pos, after, none⟩ :: rest) fr A := ixn k hx hy hh (by simpa using hb) ht he hd
theorem qixmn {i : Nat} (k : TQ E n X s ops rest ((d, .pointer (some (addrAt v i))) :: fr) A) (hx : ev fr x = some v := by rfl) (hy : ev fr y = some (.int k1 (i : Int)) := by rfl) (hh : Has A (vw v (l.map g)) := by first | (apply has_vw; (repeat (first | apply List.Mem.head | apply List.Mem.tail)); first | done | fail) | (apply has_own; (repeat (first | apply List.Mem.head | apply List.Mem.tail)); first | done | fail) | (apply has_ro; (repeat (first | apply List.Mem.head | apply List.Mem.tail)); first | done | fail) | apply has_nil | ((with_reducible apply has_el); (focus (first | (apply has_vels; (repeat (first | apply List.Mem.head | apply List.Mem.tail)); first | done | fail) | (apply has_rels; (repeat (first | apply List.Mem.head | apply List.Mem.tail)); first | done | fail))); omega) | (apply has_pt; (repeat (first | apply List.Mem.head | apply List.Mem.tail)); first | done | fail) | (apply has_lpt; (repeat (first | apply List.Mem.head | apply List.Mem.tail)); first | done | fail) | (apply has_vels; (repeat (first | apply List.Mem.head | apply List.Mem.tail)); first | done | fail) | (apply has_rels; (repeat (first | apply List.Mem.head | apply List.Mem.tail)); first | done | fail) | with_reducible assumption | ((with_reducible apply has_elg); (focus (first | (apply has_velg; (repeat (first | apply List.Mem.head | apply List.Mem.tail)); first | done | fail) | (apply has_relg; (repeat (first | apply List.Mem.head | apply List.Mem.tail)); first | done | fail))); omega) | (apply has_velg; (repeat (first | apply List.Mem.head | apply List.Mem.tail)); first | done | fail) | (apply has_relg; (repeat (first | apply List.Mem.head | apply List.Mem.tail)); first | done | fail) | (apply has_vwf; (repeat (first | apply List.Mem.head | apply List.Mem.tail)); first | done | fail)) (hb : i < l.length := by omega)
    (ht : lk E.und t = some (.slice el) := by rfl) (he : lk E.inf el = some (z, 1, by_) := by rfl) (hd : Nat.blt d n.n = true := by rfl) : TQ E n X s ops (⟨some d, .indexAddr t x y, ty, pos, after, none⟩ :: rest) fr A := qixn k hx hy hh (by simpa using hb) ht he hd
theorem scm {lo hi : Int} (k : TO E n X s ops rest ((d, slSub v lo.toNat hi.toNat) :: fr) A) (hx : ev fr x = some v := by rfl) (hl : ev fr z1 = some (.int k1 lo) := by rfl) (hh : ev fr z2 = some (.int k2 hi) := by rfl) (hs : Has A (vw v (l.map g)) := by first | (apply has_vw; (repeat (first | apply List.Mem.head | apply List.Mem.tail)); first | done | fail) | (apply has_own; (repeat (first | apply List.Mem.head | apply List.Mem.tail)); first | done | fail) | (apply has_ro; (repeat (first | apply List.Mem.head | apply List.Mem.tail)); first | done | fail) | apply has_nil | ((with_reducible apply has_el); (focus (first | (apply has_vels; (repeat (first | apply List.Mem.head | apply List.Mem.tail)); first | done | fail) | (apply has_rels; (repeat (first | apply List.Mem.head | apply List.Mem.tail)); first | done | fail))); omega) | (apply has_pt; (repeat (first | apply List.Mem.head | apply List.Mem.tail)); first | done | fail) | (apply has_lpt; (repeat (first | apply List.Mem.head | apply List.Mem.tail)); first | done | fail) | (apply has_vels; (repeat (first | apply List.Mem.head | apply List.Mem.tail)); first | done | fail) | (apply has_rels; (repeat (first | apply List.Mem.head | apply List.Mem.tail)); first | done | fail) | with_reducible assumption | ((with_reducible apply has_elg); (focus (first | (apply has_velg; (repeat (first | apply List.Mem.head | apply List.Mem.tail)); first | done | fail) | (apply has_relg; (repeat (first | apply List.Mem.head | apply List.Mem.tail)); first | done | fail))); omega) | (apply has_velg; (repeat (first | apply List.Mem.head | apply List.Mem.tail)); first | done | fail) | (apply has_relg; (repeat (first | apply List.Mem.head | apply List.Mem.tail)); first | done | fail) | (apply has_vwf; (repeat (first | apply List.Mem.head | apply List.Mem.tail)); first | done | fail)) (hb : 0 ≤ lo ∧ lo ≤ hi ∧ hi ≤ l.length := by omega)
    (ht : lk E.und t = some (.slice el) := by rfl) (he : lk E.inf el = some (z, 1, by_) := by rfl) (hd : Nat.blt d n.n = true := by rfl) : TO E n X s ops (⟨some d, .slice t x (some z1) (some z2) none, ty, pos, after, none⟩ :: rest) fr A := sc k hx hl hh hs (by simpa using hb) ht he hd
theorem sclm {lo : Int} (k : TO E n X s ops rest ((d, slSub v lo.toNat l.length) :: fr) A) (hx : ev fr x = some v := by rfl) (hl : ev fr z1 = some (.int k1 lo) := by rfl) (hs : Has A (vw v (l.map g)) := by first | (apply has_vw; (repeat (first | apply List.Mem.head | apply List.Mem.tail)); first | done | fail) | (apply has_own; (repeat (first | apply List.Mem.head | apply List.Mem.tail)); first | done | fail) | (apply has_ro; (repeat (first | apply List.Mem.head | apply List.Mem.tail)); first | done | fail) | apply has_nil | ((with_reducible apply has_el); (focus (first | (apply has_vels; (repeat (first | apply List.Mem.head | apply List.Mem.tail)); first | done | fail) | (apply has_rels; (repeat (first | apply List.Mem.head | apply List.Mem.tail)); first | done | fail))); omega) | (apply has_pt; (repeat (first | apply List.Mem.head | apply List.Mem.tail)); first | done | fail) | (apply has_lpt; (repeat (first | apply List.Mem.head | apply List.Mem.tail)); first | done | fail) | (apply has_vels; (repeat (first | apply List.Mem.head | apply List.Mem.tail)); first | done | fail) | (apply has_rels; (repeat (first | apply List.Mem.head | apply List.Mem.tail)); first | done | fail) | with_reducible assumption | ((with_reducible apply has_elg); (focus (first | (apply has_velg; (repeat (first | apply List.Mem.head | apply List.Mem.tail)); first | done | fail) | (apply has_relg; (repeat (first | apply List.Mem.head | apply List.Mem.tail)); first | done | fail))); omega) | (apply has_velg; (repeat (first | apply List.Mem.head | apply List.Mem.tail)); first | done | fail) | (apply has_relg; (repeat (first | apply List.Mem.head | apply List.Mem.tail)); first | done | fail) | (apply has_vwf; (repeat (first | apply List.Mem.head | apply List.Mem.tail)); first | done | fail)) (hb : 0 ≤ lo ∧ lo ≤ l.length := by omega)
    (ht : lk E.und t = some (.slice el) := by rfl) (he : lk E.inf el = some (z, 1, by_) := by rfl) (hd : Nat.blt d n.n = true := by rfl) : TO E n X s ops (⟨some d, .slice t x (some z1) none none, ty, pos, after, none⟩ :: rest) fr A := scl (xs := l.map g) (by simpa using k) hx hl hs (by simpa using hb) ht he hd
theorem schm {hi : Int} (k : TO E n X s ops rest ((d, slSub v 0 hi.toNat) :: fr) A) (hx : ev fr x = some v := by rfl) (hl : ev fr z1 = some (.int k1 hi) := by rfl) (hs : Has A (vw v (l.map g)) := by first | (apply has_vw; (repeat (first | apply List.Mem.head | apply List.Mem.tail)); first | done | fail) | (apply has_own; (repeat (first | apply List.Mem.head | apply List.Mem.tail)); first | done | fail) | (apply has_ro; (repeat (first | apply List.Mem.head | apply List.Mem.tail)); first | done | fail) | apply has_nil | ((with_reducible apply has_el); (focus (first | (apply has_vels; (repeat (first | apply List.Mem.head | apply List.Mem.tail)); first | done | fail) | (apply has_rels; (repeat (first | apply List.Mem.head | apply List.Mem.tail)); first | done | fail))); omega) | (apply has_pt; (repeat (first | apply List.Mem.head | apply List.Mem.tail)); first | done | fail) | (apply has_lpt; (repeat (first | apply List.Mem.head | apply List.Mem.tail)); first | done | fail) | (apply has_vels; (repeat (first | apply List.Mem.head | apply List.Mem.tail)); first | done | fail) | (apply has_rels; (repeat (first | apply List.Mem.head | apply List.Mem.tail)); first | done | fail) | with_reducible assumption | ((with_reducible apply has_elg); (focus (first | (apply has_velg; (repeat (first | apply List.Mem.head | apply List.Mem.tail)); first | done | fail) | (apply has_relg; (repeat (first | apply List.Mem.head | apply List.Mem.tail)); first | done | fail))); omega) | (apply has_velg; (repeat (first | apply List.Mem.head | apply List.Mem.tail)); first | done | fail) | (apply has_relg; (repeat (first | apply List.Mem.head | apply List.Mem.tail)); first | done | fail) | (apply has_vwf; (repeat (first | apply List.Mem.head | apply List.Mem.tail)); first | done | fail)) (hb : 0 ≤ hi ∧ hi ≤ l.length := by omega)
    (ht : lk E.und t = some (.slice el) := by rfl) (he : lk E.inf el = some (z, 1, by_) := by rfl) (hd : Nat.blt d n.n = true := by rfl) : TO E n X s ops (⟨some d, .slice t x none (some z1) none, ty, pos, after, none⟩ :: rest) fr A := sch k hx hl hs (by simpa using hb) ht he hd
end
theorem li {l : List Int} {j : Nat} {dt : TypeDesc} (k : TO E n X s ops rest ((d, I (l.getD j 0)) :: fr) A) (hx : ev fr x = some (.pointer (some (addrAt v j))) := by rfl) (hh : Has A (vw v (Is l)) := by first | (apply has_vw; (repeat (first | apply List.Mem.head | apply List.Mem.tail)); first | done | fail) | (apply has_own; (repeat (first | apply List.Mem.head | apply List.Mem.tail)); first | done | fail) | (apply has_ro; (repeat (first | apply List.Mem.head | apply List.Mem.tail)); first | done | fail) | apply has_nil | ((with_reducible apply has_el); (focus (first | (apply has_vels; (repeat (first | apply List.Mem.head | apply List.Mem.tail)); first | done | fail) | (apply has_rels; (repeat (first | apply List.Mem.head | apply List.Mem.tail)); first | done | fail))); omega) | (apply has_pt; (repeat (first | apply List.Mem.head | apply List.Mem.tail)); first | done | fail) | (apply has_lpt; (repeat (first | apply List.Mem.head | apply List.Mem.tail)); first | done | fail) | (apply has_vels; (repeat (first | apply List.Mem.head | apply List.Mem.tail)); first | done | fail) | (apply has_rels; (repeat (first | apply List.Mem.head | apply List.Mem.tail)); first | done | fail) | with_reducible assumption | ((with_reducible apply has_elg); (focus (first | (apply has_velg; (repeat (first | apply List.Mem.head | apply List.Mem.tail)); first | done | fail) | (apply has_relg; (repeat (first | apply List.Mem.head | apply List.Mem.tail)); first | done | fail))); omega) | (apply has_velg; (repeat (first | apply List.Mem.head | apply List.Mem.tail)); first | done | fail) | (apply has_relg; (repeat (first | apply List.Mem.head | apply List.Mem.tail)); first | done | fail) | (apply has_vwf; (repeat (first | apply List.Mem.head | apply List.Mem.tail)); first | done | fail)) (hj : j < l.length := by omega)
    (ht : lk E.und t = some dt := by rfl) (hg : aggB dt = false := by rfl) (hd : Nat.blt d n.n = true := by rfl) : TO E n X s ops (⟨some d, .load t x, ty, pos, after, none⟩ :: rest) fr A := le k hx hh (Is_get l j hj) ht hg hd
theorem lie {l : List Int} {j : Nat} {c : Int} {dt : TypeDesc} (he : l.getD j 0 = c) (k : TO E n X s ops rest ((d, I c) :: fr) A) (hx : ev fr x = some (.pointer (some (addrAt v j))) := by rfl) (hh : Has A (vw v (Is l)) := by first | (apply has_vw; (repeat (first | apply List.Mem.head | apply List.Mem.tail)); first | done | fail) | (apply has_own; (repeat (first | apply List.Mem.head | apply List.Mem.tail)); first | done | fail) | (apply has_ro; (repeat (first | apply List.Mem.head | apply List.Mem.tail)); first | done | fail) | apply has_nil | ((with_reducible apply has_el); (focus (first | (apply has_vels; (repeat (first | apply List.Mem.head | apply List.Mem.tail)); first | done | fail) | (apply has_rels; (repeat (first | apply List.Mem.head | apply List.Mem.tail)); first | done | fail))); omega) | (apply has_pt; (repeat (first | apply List.Mem.head | apply List.Mem.tail)); first | done | fail) | (apply has_lpt; (repeat (first | apply List.Mem.head | apply List.Mem.tail)); first | done | fail) | (apply has_vels; (repeat (first | apply List.Mem.head | apply List.Mem.tail)); first | done | fail) | (apply has_rels; (repeat (first | apply List.Mem.head | apply List.Mem.tail)); first | done | fail) | with_reducible assumption | ((with_reducible apply has_elg); (focus (first | (apply has_velg; (repeat (first | apply List.Mem.head | apply List.Mem.tail)); first | done | fail) | (apply has_relg; (repeat (first | apply List.Mem.head | apply List.Mem.tail)); first | done | fail))); omega) | (apply has_velg; (repeat (first | apply List.Mem.head | apply List.Mem.tail)); first | done | fail) | (apply has_relg; (repeat (first | apply List.Mem.head | apply List.Mem.tail)); first | done | fail) | (apply has_vwf; (repeat (first | apply List.Mem.head | apply List.Mem.tail)); first | done | fail)) (hj : j < l.length := by omega)
    (ht : lk E.und t = some dt := by rfl) (hg : aggB dt = false := by rfl) (hd : Nat.blt d n.n = true := by rfl) : TO E n X s ops (⟨some d, .load t x, ty, pos, after, none⟩ :: rest) fr A := li (l := l) (by rw [he]; exact k) hx hh hj ht hg hd
theorem qli {l : List Int} {j : Nat} {dt : TypeDesc} (k : TQ E n X s ops rest ((d, I (l.getD j 0)) :: fr) A) (hx : ev fr x = some (.pointer (some (addrAt v j))) := by rfl) (hh : Has A (vw v (Is l)) := by first | (apply has_vw; (repeat (first | apply List.Mem.head | apply List.Mem.tail)); first | done | fail) | (apply has_own; (repeat (first | apply List.Mem.head | apply List.Mem.tail)); first | done | fail) | (apply has_ro; (repeat (first | apply List.Mem.head | apply List.Mem.tail)); first | done | fail) | apply has_nil | ((with_reducible apply has_el); (focus (first | (apply has_vels; (repeat (first | apply List.Mem.head | apply List.Mem.tail)); first | done | fail) | (apply has_rels; (repeat (first | apply List.Mem.head | apply List.Mem.tail)); first | done | fail))); omega) | (apply has_pt; (repeat (first | apply List.Mem.head | apply List.Mem.tail)); first | done | fail) | (apply has_lpt; (repeat (first | apply List.Mem.head | apply List.Mem.tail)); first | done | fail) | (apply has_vels; (repeat (first | apply List.Mem.head | apply List.Mem.tail)); first | done | fail) | (apply has_rels; (repeat (first | apply List.Mem.head | apply List.Mem.tail)); first | done | fail) | with_reducible assumption | ((with_reducible apply has_elg); (focus (first | (apply has_velg; (repeat (first | apply List.Mem.head | apply List.Mem.tail)); first | done | fail) | (apply has_relg; (repeat (first | apply List.Mem.head | apply List.Mem.tail)); first | done | fail))); omega) | (apply has_velg; (repeat (first | apply List.Mem.head | apply List.Mem.tail)); first | done | fail) | (apply has_relg; (repeat (first | apply List.Mem.head | apply List.Mem.tail)); first | done | fail) | (apply has_vwf; (repeat (first | apply List.Mem.head | apply List.Mem.tail)); first | done | fail)) (hj : j < l.length := by omega)
    (ht : lk E.und t = some dt := by rfl) (hg : aggB dt = false := by rfl) (hd : Nat.blt d n.n = true := by rfl) : TQ E n X s ops (⟨some d, .load t x, ty, pos, after, none⟩ :: rest) fr A := qle k hx hh (Is_get l j hj) ht hg hd
theorem soi {l : List Int} {j : Nat} (k : TO E n X s ops rest fr (own el v (Is (l.set j m)) :: A')) (hx : ev fr x = some (.pointer (some (addrAt v j))) := by rfl) (hm : Tk (own el v (Is l)) A A' := by (repeat (first | apply Tk.here | apply Tk.there)); first | done | fail) (hy : ev fr y = some (I m) := by rfl)
    (hj : j < l.length := by omega) (ht : lk E.inf t = some (z, 1, by_) := by rfl) : TO E n X s ops (⟨none, .store t x y, ty, pos, after, none⟩ :: rest) fr A := so k hx hm hy (by simpa using hj) (Is_set l j m) rfl ht
theorem api {l news : List Int} {e : TypeId} (k : ∀ v', TO E n X s ops rest ((d, v') :: fr) (own e v' (Is (l ++ news)) :: A')) (hx : ev fr x = some v := by rfl) (hy : ev fr y = some u := by rfl) (hm : Tk (own e v (Is l)) A A' := by (repeat (first | apply Tk.here | apply Tk.there)); first | done | fail) (hu : Has A' (vw u (Is news)) := by first | (apply has_vw; (repeat (first | apply List.Mem.head | apply List.Mem.tail)); first | done | fail) | (apply has_own; (repeat (first | apply List.Mem.head | apply List.Mem.tail)); first | done | fail) | (apply has_ro; (repeat (first | apply List.Mem.head | apply List.Mem.tail)); first | done | fail) | apply has_nil | ((with_reducible apply has_el); (focus (first | (apply has_vels; (repeat (first | apply List.Mem.head | apply List.Mem.tail)); first | done | fail) | (apply has_rels; (repeat (first | apply List.Mem.head | apply List.Mem.tail)); first | done | fail))); omega) | (apply has_pt; (repeat (first | apply List.Mem.head | apply List.Mem.tail)); first | done | fail) | (apply has_lpt; (repeat (first | apply List.Mem.head | apply List.Mem.tail)); first | done | fail) | (apply has_vels; (repeat (first | apply List.Mem.head | apply List.Mem.tail)); first | done | fail) | (apply has_rels; (repeat (first | apply List.Mem.head | apply List.Mem.tail)); first | done | fail) | with_reducible assumption | ((with_reducible apply has_elg); (focus (first | (apply has_velg; (repeat (first | apply List.Mem.head | apply List.Mem.tail)); first | done | fail) | (apply has_relg; (repeat (first | apply List.Mem.head | apply List.Mem.tail)); first | done | fail))); omega) | (apply has_velg; (repeat (first | apply List.Mem.head | apply List.Mem.tail)); first | done | fail) | (apply has_relg; (repeat (first | apply List.Mem.head | apply List.Mem.tail)); first | done | fail) | (apply has_vwf; (repeat (first | apply List.Mem.head | apply List.Mem.tail)); first | done | fail))
    (hl : l.length + news.length ≤ 17592186044416 := by first | omega | (simp only [List.length_append, List.length_cons, List.length_nil]; omega)) (ht : lk E.und t = some (.slice e) := by rfl) (he : lk E.inf e = some (z, 1, by_) := by rfl) (hz : z.cells.size = 1 := by rfl) (hb : by_ ≤ 8 := by decide)
    (hd : Nat.blt d n.n = true := by rfl) : TO E n X s ops (⟨some d, .call ⟨.builtin .append, #[x, y], #[t, t]⟩, ty, pos, after, none⟩ :: rest) fr A :=
  ap (fun v' => by have := k v'; rwa [Is_app] at this) hx hy hm hu (Is_one news) ht he hz (by rw [Is_len, Is_len]; have := Nat.mul_le_mul hl hb; omega) (by rw [Is_len, Is_len]; omega) hd
/-- append of one to an own slice, the one's literal made ahead. -/
theorem mki {e : TypeId} (k : ∀ v', TO E n X s ops rest ((d, v') :: fr) (own e v' (Is (List.replicate m.toNat 0)) :: A)) (hx : ev fr x = some (.int k1 m) := by rfl) (hy : ev fr y = some (.int k1 m) := by rfl) (ht : lk E.und t = some (.slice e) := by rfl)
    (he : lk E.inf e = some (I 0, 1, by_) := by rfl) (h0 : 0 ≤ m := by omega) (hby : by_ * m.toNat ≤ 281474976710656 := by omega) (h63 : m ≤ 9223372036854775807 := by omega) (hd : Nat.blt d n.n = true := by rfl) :
    TO E n X s ops (⟨some d, .makeSlice t x y, ty, pos, after, none⟩ :: rest) fr A := mk (fun v' => by have := k v'; rwa [← Is_rep] at this) hx hy ht he rfl h0 hby h63 hd
theorem slii (l : List Int) {m : Nat} {parts : List (Nat × Operand)} {e : TypeId} (k : ∀ v', TO E n X s ops rest ((d, v') :: fr) (own e v' (Is l) :: A)) (hp : parts = idxP 0 (parts.map (·.2)) := by rfl) (hv : evs fr (parts.map (·.2)) = some (Is l) := by rfl)
    (hk : (Is l).length = m := by rfl) (hk0 : Nat.blt 0 m = true := by rfl) (hkm : Nat.ble m 16777216 = true := by rfl) (ht : lk E.und t = some (.slice e) := by rfl) (he : lk E.inf e = some (z, 1, by_) := by rfl) (hd : Nat.blt d n.n = true := by rfl) :
    TO E n X s ops (⟨some d, .buildSlice t m parts.toArray, ty, pos, after, none⟩ :: rest) fr A := sli k hp hv (Is_one l) hk hk0 hkm ht he hd
/-! words (uint64), as integers -/
theorem ucv {m : Int} (k : TO E n X s ops rest ((d, .int .u64 m) :: fr) A) (h : evOp E fr (.convert t t' x) = some (.int .u64 (IntKind.u64.wrap m)) := by rfl) (hb : 0 ≤ m ∧ m < 18446744073709551616 := by omega) (hd : Nat.blt d n.n = true := by rfl) :
    TO E n X s ops (⟨some d, .convert t t' x, ty, pos, after, none⟩ :: rest) fr A := TO.val (fun _ _ => by
      have e : IntKind.u64.wrap m = m := by rw [show IntKind.u64.wrap m = m % 18446744073709551616 by simp [IntKind.wrap, IntKind.bits, IntKind.signed]]; omega
      have := R_auto (P := P) (n := n) (w := ‹World›) (ty := ty) h; rwa [e] at this) k hd
theorem aw6 {m : Int} (k : TO E n X s ops rest ((d, .int .u64 m) :: fr) A) (h : evOp E fr (.binOp op t x y t') = some (.int .u64 (IntKind.u64.wrap m)) := by rfl) (hb : 0 ≤ m ∧ m < 18446744073709551616 := by omega) (hd : Nat.blt d n.n = true := by rfl) :
    TO E n X s ops (⟨some d, .binOp op t x y t', ty, pos, after, none⟩ :: rest) fr A := TO.val (fun _ _ => by
      have e : IntKind.u64.wrap m = m := by rw [show IntKind.u64.wrap m = m % 18446744073709551616 by simp [IntKind.wrap, IntKind.bits, IntKind.signed]]; omega
      have := R_auto (P := P) (n := n) (w := ‹World›) (ty := ty) h; rwa [e] at this) k hd
theorem R_shr {k k' : IntKind} {m c : Int} {w : World} (hx : ev fr x = some (.int k m)) (hy : ev fr y = some (.int k' c)) (hc : 0 ≤ c ∧ c ≤ k.bits) (hm : 0 ≤ m) : OpV P n fr (.binOp .shr t x y t') ty w (.int k (m / 2 ^ c.toNat)) w := ⟨fun a ha _ _ _ _ => by
  have hg : (eqGuard .shr t x y (.int k m) (.int k' c)).run P w = .ok () w := rfl
  have h1 : ¬ c < 0 := by omega
  have h2 : min c.toNat k.bits = c.toNat := by omega
  have h3 : m.fdiv (2 ^ c.toNat) = m / 2 ^ c.toNat := Int.fdiv_eq_ediv_of_nonneg _ (Int.le_of_lt (Int.pow_pos (by decide)))
  simp only [execOp, ha.ev hx, ha.ev hy]
  simp only [hg, Sem.run_bind, Result.andThen_ok]
  show (Result.andThen ((binOp .shr t (.int k m) (.int k' c)).run P w) _) = _
  simp only [binOp, Op.shift, h1, if_false]
  show Result.ok (Next.value (.int k (m.fdiv (2 ^ (min c.toNat k.bits))))) w = _
  rw [h2, h3]⟩
theorem shr {k k' : IntKind} {m c : Int} (kk : TO E n X s ops rest ((d, .int k (m / 2 ^ c.toNat)) :: fr) A) (hx : ev fr x = some (.int k m) := by rfl) (hy : ev fr y = some (.int k' c) := by rfl) (hc : 0 ≤ c ∧ c ≤ k.bits := by first | omega | (simp only [IntKind.bits]; omega)) (hm : 0 ≤ m := by omega) (hd : Nat.blt d n.n = true := by rfl) :
    TO E n X s ops (⟨some d, .binOp .shr t x y t', ty, pos, after, none⟩ :: rest) fr A := TO.val (fun _ _ => R_shr hx hy hc hm) kk hd
theorem shr1 {k k' : IntKind} {m : Int} (kk : TO E n X s ops rest ((d, .int k (m / 2)) :: fr) A) (hx : ev fr x = some (.int k m) := by rfl) (hy : ev fr y = some (.int k' 1) := by rfl) (hc : (1 : Int) ≤ k.bits := by decide) (hm : 0 ≤ m := by omega) (hd : Nat.blt d n.n = true := by rfl) :
    TO E n X s ops (⟨some d, .binOp .shr t x y t', ty, pos, after, none⟩ :: rest) fr A := shr (c := 1) (by simpa using kk) hx hy ⟨by decide, hc⟩ hm hd
theorem umod {k : IntKind} {m q : Int} (kk : TO E n X s ops rest ((d, .int k (m % q)) :: fr) A) (hx : ev fr x = some (.int k m) := by rfl) (hy : ev fr y = some (.int k q) := by rfl) (hb : 0 ≤ m ∧ q ≠ 0 := by omega) (hd : Nat.blt d n.n = true := by rfl) :
    TO E n X s ops (⟨some d, .binOp .rem t x y t', ty, pos, after, none⟩ :: rest) fr A := TO.val (fun w _ => by
      have := R_rem (P := P) (n := n) (w := w) (t := t) (t' := t') (ty := ty) hx hy hb.2; rwa [IntWalk.rem_in _ _ hb.1] at this) kk hd
end
end Go.Art
set_option linter.unusedSimpArgs false
set_option linter.unusedVariables false
namespace Go.Art
open Go Go.RowKit

/-- A loop's record. -/
def lrc (l : Nat) (rec : Loop) (st : LoopState) (pend : Option Code) : Ch where
  wr := fun x => x = l
  rd := fun _ => False
  bd := fun _ => False
  P := fun w => RAt w l rec st pend
  loc := fun h hb => (hb l (.inl rfl)).trans h
  lt := fun h hb => by rcases hb with rfl | hb | hb; exact lt_of_heap h; exact hb.elim; exact hb.elim
/-- A list of deferred calls that is empty. -/
def dfr (D : Nat) : Ch where
  wr := fun x => x = D
  rd := fun _ => False
  bd := fun _ => False
  P := fun w => w.heap[D]? = some (.deferred (some []))
  loc := fun h hb => (hb D (.inl rfl)).trans h
  lt := fun h hb => by rcases hb with rfl | hb | hb; exact lt_of_heap h; exact hb.elim; exact hb.elim

instance (l : Nat) (rec : Loop) (st : LoopState) (pend : Option Code) : NoB (lrc l rec st pend) := ⟨fun _ h => h⟩
instance (D : Nat) : NoB (dfr D) := ⟨fun _ h => h⟩
def PRb (w0 : World) (A0 : List Ch) (R : Bool → List Ch → Prop) (b : Bool) (w' : World) : Prop := ∃ B, R b B ∧ Sat B w' ∧ Mv w0 A0 w' B ∧ ∀ c ∈ B, ∀ b, ¬ c.bd b
/-- The contract of a loop's yield. -/
structure Ty (P : Program) (l : Nat) (args : List Value) (pre A : List Ch) (R : Bool → List Ch → Prop) : Prop where
  run : ∀ w, Sat (pre ++ A) w → Yd P l args w (PRb w A R)
  lent : ∀ c ∈ pre, ∀ b, ¬ c.wr b ∧ ¬ c.rd b

theorem St.start {Q : Exit → Act → World → Prop} {pre A : List Ch} {w : World} (h : Sat (pre ++ A) w) (hp : ∀ c ∈ pre, ∀ b, ¬ c.wr b ∧ ¬ c.rd b) : St ⟨Q, w, A⟩ (pre ++ A) w := by
  refine ⟨h, rfl, rfl, rfl, Nat.le_refl _, fun _ _ _ => rfl, fun b hb => ?_, fun b hb => ?_⟩
  · rcases wrs_app.1 hb with ⟨c, hc, h1⟩ | h1
    · exact absurd h1 (hp c hc b).1
    · exact .inl h1
  · rcases rds_app.1 hb with ⟨c, hc, h1⟩ | h1
    · exact absurd h1 (hp c hc b).2
    · exact .inr (.inl h1)

section
variable {P : Program} {E : Env P} {n : Sh} {X : Cx} {s : List K} {fr : Fr} {A A' B F : List Ch} {ops : Array Oper} {rest : List Oper} {d : Nat} {ty : TypeId} {pos : String} {after : Array Edge}
  {l m : Nat} {rec : Loop} {body assign : Code} {pend : Option Code} {st : LoopState} {w0 : World} {A0 pre D G : List Ch} {R : Bool → List Ch → Prop} {RR : Bool → World → Prop} {id : Nat}

theorem Ty.at {vs : List Value} {w : World} (hf : Ty P l vs pre B R) (hs : Fit A B F) (hp : ∀ c ∈ pre, Has F c) (hw : St X A w) : Yd P l vs w fun b w' => ∃ D, R b D ∧ St X (D ++ F) w' := by
  have h1 := hw.im hs
  refine (hf.run w (lend h1.sat hp)).mono fun v w' ⟨D, hR, hS, hM, hB⟩ => ⟨D, hR, h1.step hM hS hB⟩
/-- A call of yield. -/
theorem cy {g : Operand} {args : List Operand} {ats : Array TypeId} {vs : List Value} (hy : Ty P l vs pre B R) (k : ∀ b D, R b D → TO E n X s ops rest ((d, .bool b) :: fr) (D ++ F)) (hg : ev fr g = some (yv l) := by rfl) (hv : evs fr args = some vs := by rfl)
    (hs : Fit A B F := by first | apply Fit.all | ((repeat (first | (apply Fit.nilN; (repeat (first | apply nrm_nil | apply nrm_cons)); try apply nrm_rfl) | (apply Fit.cons; focus ((repeat (first | apply Tk.here | apply Tk.there)); first | done | fail)))); first | done | fail)) (hp : ∀ c ∈ pre, Has F c := by (repeat (first | exact has0 | refine has1 (by first | (apply has_vw; (repeat (first | apply List.Mem.head | apply List.Mem.tail)); first | done | fail) | (apply has_own; (repeat (first | apply List.Mem.head | apply List.Mem.tail)); first | done | fail) | (apply has_ro; (repeat (first | apply List.Mem.head | apply List.Mem.tail)); first | done | fail) | apply has_nil | ((with_reducible apply has_el); (focus (first | (apply has_vels; (repeat (first | apply List.Mem.head | apply List.Mem.tail)); first | done | fail) | (apply has_rels; (repeat (first | apply List.Mem.head | apply List.Mem.tail)); first | done | fail))); omega) | (apply has_pt; (repeat (first | apply List.Mem.head | apply List.Mem.tail)); first | done | fail) | (apply has_lpt; (repeat (first | apply List.Mem.head | apply List.Mem.tail)); first | done | fail) | (apply has_vels; (repeat (first | apply List.Mem.head | apply List.Mem.tail)); first | done | fail) | (apply has_rels; (repeat (first | apply List.Mem.head | apply List.Mem.tail)); first | done | fail) | with_reducible assumption | ((with_reducible apply has_elg); (focus (first | (apply has_velg; (repeat (first | apply List.Mem.head | apply List.Mem.tail)); first | done | fail) | (apply has_relg; (repeat (first | apply List.Mem.head | apply List.Mem.tail)); first | done | fail))); omega) | (apply has_velg; (repeat (first | apply List.Mem.head | apply List.Mem.tail)); first | done | fail) | (apply has_relg; (repeat (first | apply List.Mem.head | apply List.Mem.tail)); first | done | fail) | (apply has_vwf; (repeat (first | apply List.Mem.head | apply List.Mem.tail)); first | done | fail)) ?_)); first | done | fail) (hd : Nat.blt d n.n = true := by rfl) : TO E n X s ops (⟨some d, .call ⟨.value g, args.toArray, ats⟩, ty, pos, after, none⟩ :: rest) fr A :=
  ⟨fun w hw => SO_yield hg hv hd (hy.at hs hp hw) fun b w' ⟨D, hR, hS⟩ => (k b D hR).run w' hS⟩
/-- The yield's contract, by its body. -/
theorem Ty.intro {ps : List Tmp} {vs : List Value} {Dm : Nat} (E : Env P) (hr : RecOk rec m fr ps assign body Dm) (hp : ∀ c ∈ pre, ∀ b, ¬ c.wr b ∧ ¬ c.rd b)
    (h : ∀ w0, TC E ⟨m, [], some l⟩ ⟨begQ P l body (RB (PRb w0 (lrc l rec .ready pend :: A) R)), w0, lrc l rec .ready pend :: A⟩ [] assign (parFr ps vs fr) (pre ++ lrc l rec .ready pend :: A)) (hlen : vs.length = ps.length := by rfl) (hps : ps.all (fun t => Nat.blt t m) = true := by rfl) :
    Ty P l vs pre (lrc l rec .ready pend :: A) R :=
  ⟨fun w hw => Yd.intro E hr (hw.h (lrc l rec .ready pend) (by simp)) hlen hps ((h w).run w (St.start hw hp)), hp⟩
theorem St.lrc {w w' : World} {st2 : LoopState} {pend2 : Option Code} (h : St X A w) (hm : Tk (lrc l rec st pend) A A') (hU : Upd w w' [l]) (hR : RAt w' l rec st2 pend2) : St X (lrc l rec st2 pend2 :: A') w' :=
  (h.im hm).set hU (fun b hb => .inl (by show b = l; simpa using hb)) hR (fun b hb => by rcases hb with h | h | h; exact .inl h; exact h.elim; exact h.elim) (fun _ h => h)
/-- The assignment is done. -/
theorem xbeg (k : TC E ⟨m, [], some l⟩ ⟨roundPost P l (RB RR), w0, A0⟩ [] body fr (lrc l rec .busy pend :: A')) (hm : Tk (lrc l rec .ready pend) A A' := by (repeat (first | apply Tk.here | apply Tk.there)); first | done | fail) : TX E ⟨m, [], some l⟩ ⟨begQ P l body (RB RR), w0, A0⟩ [] .normal fr A :=
  ⟨fun w hw => SX_beg ((hw.im hm).mem (List.Mem.head _)) fun w' hU hR => k.run w' ⟨(hw.lrc hm hU hR).sat, (hw.lrc hm hU hR).mv⟩⟩
theorem PRb.mk {Q : Exit → Act → World → Prop} {w : World} {b : Bool} (h : R b D) (hw : St ⟨Q, w0, A0⟩ A w) (hf : Fit A D G) (nb : ∀ c ∈ D, ∀ b, ¬ c.bd b) : PRb w0 A0 R b w := by
  have h1 := hw.im (Im.trans hf (Im.drop _ _))
  exact ⟨D, h, h1.sat, h1.mv, nb⟩
/-- The round's ends. -/
theorem yn (h : R true D) (hm : Tk (lrc l rec st pend) A A' := by (repeat (first | apply Tk.here | apply Tk.there)); first | done | fail) (hf : Fit (lrc l rec .ready none :: A') D G := by first | apply Fit.all | ((repeat (first | (apply Fit.nilN; (repeat (first | apply nrm_nil | apply nrm_cons)); try apply nrm_rfl) | (apply Fit.cons; focus ((repeat (first | apply Tk.here | apply Tk.there)); first | done | fail)))); first | done | fail)) (nb : ∀ c ∈ D, ∀ b, ¬ c.bd b := by (repeat (first | exact nb0 | refine nb1 ?_)); first | done | fail) :
    TX E ⟨m, [], some l⟩ ⟨roundPost P l (RB (PRb w0 A0 R)), w0, A0⟩ [] .normal fr A := ⟨fun w hw => SX_rend ((hw.im hm).mem (List.Mem.head _)) fun w' hU hR => PRb.mk h (hw.lrc hm hU hR) hf nb⟩
theorem ye (h : R false D) (hm : Tk (lrc l rec st pend) A A' := by (repeat (first | apply Tk.here | apply Tk.there)); first | done | fail) (hf : Fit (lrc l rec .done (some (.exit id)) :: A') D G := by first | apply Fit.all | ((repeat (first | (apply Fit.nilN; (repeat (first | apply nrm_nil | apply nrm_cons)); try apply nrm_rfl) | (apply Fit.cons; focus ((repeat (first | apply Tk.here | apply Tk.there)); first | done | fail)))); first | done | fail)) (nb : ∀ c ∈ D, ∀ b, ¬ c.bd b := by (repeat (first | exact nb0 | refine nb1 ?_)); first | done | fail) :
    TX E ⟨m, [], some l⟩ ⟨roundPost P l (RB (PRb w0 A0 R)), w0, A0⟩ [] (.exit id) fr A := ⟨fun w hw => SX_rexit ((hw.im hm).mem (List.Mem.head _)) fun w' hU hR => PRb.mk h (hw.lrc hm hU hR) hf nb⟩
theorem yr (h : R false D) (hm : Tk (lrc l rec st pend) A A' := by (repeat (first | apply Tk.here | apply Tk.there)); first | done | fail) (hf : Fit (lrc l rec .done (some .ret) :: A') D G := by first | apply Fit.all | ((repeat (first | (apply Fit.nilN; (repeat (first | apply nrm_nil | apply nrm_cons)); try apply nrm_rfl) | (apply Fit.cons; focus ((repeat (first | apply Tk.here | apply Tk.there)); first | done | fail)))); first | done | fail)) (nb : ∀ c ∈ D, ∀ b, ¬ c.bd b := by (repeat (first | exact nb0 | refine nb1 ?_)); first | done | fail) :
    TX E ⟨m, [], some l⟩ ⟨roundPost P l (RB (PRb w0 A0 R)), w0, A0⟩ [] .ret fr A := ⟨fun w hw => SX_rret ((hw.im hm).mem (List.Mem.head _)) fun w' hU hR => PRb.mk h (hw.lrc hm hU hR) hf nb⟩
/-- An exit that nothing here catches. -/
theorem xo (h : TX E n X [] (.exit id) fr A) (hp : popX id s = none := by rfl) : TC E n X s (.exit id) fr A := ⟨fun w hw => SC_eo hp (h.run w hw)⟩

/-! ### The statement -/
def afterT {P : Program} (E : Env P) (n : Sh) (X : Cx) (s : List K) (fr : Fr) (A : List Ch) : Option Code → Prop
  | none => TX E n X s .normal fr A
  | some c => TC E n X s c fr A
theorem TC.range {ds : List Deferred} {g : Operand} {f : FuncId} {cap : Array Value} {ps : List Tmp} (pre J : List Ch) (Aft : Nat → Loop → Nat → Option Code → List Ch → Prop)
    (hit : ∀ rec l Dm, RecOk rec m fr ps assign body Dm → Tr P f (yv l :: cap.toList) pre (lrc l rec .ready none :: dfr Dm :: J) fun _ B => ∃ st pend B', B = lrc l rec st pend :: B' ∧ st ≠ LoopState.busy ∧ Aft l rec Dm pend B')
    (aft : ∀ l rec Dm pend B', Aft l rec Dm pend B' → afterT E ⟨m, mark Dm :: ds, none⟩ X s fr (B' ++ F) pend) (hg : ev fr g = some (.func (.func f) #[] cap) := by rfl) (hs : Fit A J F := by first | apply Fit.all | ((repeat (first | (apply Fit.nilN; (repeat (first | apply nrm_nil | apply nrm_cons)); try apply nrm_rfl) | (apply Fit.cons; focus ((repeat (first | apply Tk.here | apply Tk.there)); first | done | fail)))); first | done | fail))
    (hp : ∀ c ∈ pre, Has F c := by (repeat (first | exact has0 | refine has1 (by first | (apply has_vw; (repeat (first | apply List.Mem.head | apply List.Mem.tail)); first | done | fail) | (apply has_own; (repeat (first | apply List.Mem.head | apply List.Mem.tail)); first | done | fail) | (apply has_ro; (repeat (first | apply List.Mem.head | apply List.Mem.tail)); first | done | fail) | apply has_nil | ((with_reducible apply has_el); (focus (first | (apply has_vels; (repeat (first | apply List.Mem.head | apply List.Mem.tail)); first | done | fail) | (apply has_rels; (repeat (first | apply List.Mem.head | apply List.Mem.tail)); first | done | fail))); omega) | (apply has_pt; (repeat (first | apply List.Mem.head | apply List.Mem.tail)); first | done | fail) | (apply has_lpt; (repeat (first | apply List.Mem.head | apply List.Mem.tail)); first | done | fail) | (apply has_vels; (repeat (first | apply List.Mem.head | apply List.Mem.tail)); first | done | fail) | (apply has_rels; (repeat (first | apply List.Mem.head | apply List.Mem.tail)); first | done | fail) | with_reducible assumption | ((with_reducible apply has_elg); (focus (first | (apply has_velg; (repeat (first | apply List.Mem.head | apply List.Mem.tail)); first | done | fail) | (apply has_relg; (repeat (first | apply List.Mem.head | apply List.Mem.tail)); first | done | fail))); omega) | (apply has_velg; (repeat (first | apply List.Mem.head | apply List.Mem.tail)); first | done | fail) | (apply has_relg; (repeat (first | apply List.Mem.head | apply List.Mem.tail)); first | done | fail) | (apply has_vwf; (repeat (first | apply List.Mem.head | apply List.Mem.tail)); first | done | fail)) ?_)); first | done | fail) : TC E ⟨m, ds, none⟩ X s (.rangeFunc g ps.toArray assign body) fr A := ⟨fun w hw => by
  refine SC_range hg fun rec w1 hr hE hz hD hl => ?_
  have h0 := hw.im hs
  have h1 := h0.ext (hE)
  have hzz : w.heap.size < w1.heap.size := by omega
  -- the two new blocks
  have h2 : St X (lrc (w.heap.size + 1) rec .ready none :: dfr w.heap.size :: (J ++ F)) w1 := by
    have hnew : ∀ b, fts [lrc (w.heap.size + 1) rec .ready none, dfr w.heap.size] b → w.heap.size ≤ b := by
      rintro b ⟨c, hc, hb⟩
      simp only [List.mem_cons, List.not_mem_nil, or_false] at hc
      rcases hc with rfl | rfl
      · rcases hb with hb | hb | hb
        · have : b = w.heap.size + 1 := hb; omega
        · exact hb.elim
        · exact hb.elim
      · rcases hb with hb | hb | hb
        · have : b = w.heap.size := hb; omega
        · exact hb.elim
        · exact hb.elim
    refine h0.step (A := []) (B := [lrc (w.heap.size + 1) rec .ready none, dfr w.heap.size]) (Mv.upd hE (by simp) (fun b hb => .inr (hnew b hb.ft)) (fun b hb => .inr (.inr (hnew b hb.ft)))) ?_ ?_
    · refine Sat.cons.2 ⟨hl, fun a ha => ?_, Sat.one hD⟩
      obtain rfl : a = dfr w.heap.size := by simpa using ha
      constructor
      · intro b hb hf
        have hb' : b = w.heap.size + 1 := hb
        rcases hf with hf | hf | hf
        · have : b = w.heap.size := hf; omega
        · exact hf.elim
        · exact hf.elim
      · intro b hb hf
        have hb' : b = w.heap.size := hb
        rcases hf with hf | hf | hf
        · have : b = w.heap.size + 1 := hf; omega
        · exact hf.elim
        · exact hf.elim
    · intro c hc b hb
      simp only [List.mem_cons, List.not_mem_nil, or_false] at hc
      rcases hc with rfl | rfl <;> exact hb
  refine ((hit rec (w.heap.size + 1) w.heap.size hr).at (F := F) (by exact Im.refl _) hp h2).mono fun v w3 ⟨D, ⟨st, pend, B', hB, hst, hA⟩, hS⟩ => ?_
  subst hB
  refine ⟨st, pend, hst, hS.mem (List.Mem.head _), fun w4 hU => ?_⟩
  have h4 : St X (B' ++ F) w4 := by
    have := hS.step (A := [lrc (w.heap.size + 1) rec st pend]) (B := []) (F := B' ++ F) (w' := w4) (Mv.upd hU (fun b hb => .inl (wrs_one.2 (List.mem_singleton.1 hb))) (fun b hb => absurd hb wrs_nil) (fun b hb => absurd hb rds_nil)) (Sat.nil _) (by simp)
    exact this
  have h5 := aft _ _ _ _ _ hA
  cases pend with
  | none => exact TX.run h5 w4 h4
  | some c => exact TC.run h5 w4 h4⟩

/-! ### Leaving with marks -/
variable {R' : Value → List Ch → Prop} {fn : Func} {t t2 : Nat} {v v1 v2 : Value} {Dm nn : Nat}
theorem PR.mkM {Q : Exit → Act → World → Prop} {w w' : World} (h : R' v D) (hw : St ⟨Q, w0, A0⟩ A w) (hm : Tk (dfr Dm) A A') (hf : Fit A' D G) (nb : ∀ c ∈ D, ∀ b, ¬ c.bd b) (hU : Upd w w' [Dm]) : PR w0 A0 R' v w' := by
  have h1 := hw.im hm
  have h2 : St ⟨Q, w0, A0⟩ A' w' := h1.step (A := [dfr Dm]) (B := []) (F := A') (Mv.upd hU (fun b hb => .inl (wrs_one.2 (List.mem_singleton.1 hb))) (fun b hb => absurd hb wrs_nil) (fun b hb => absurd hb rds_nil)) (Sat.nil _) (by simp)
  have h3 := h2.im (Im.trans hf (Im.drop _ _))
  exact ⟨D, h, h3.sat, h3.mv, nb⟩
theorem m1 (h : R' v D) (hr : fn.results = #[.tmp t] := by rfl) (hv : get fr t = some v := by rfl) (hm : Tk (dfr Dm) A A' := by (repeat (first | apply Tk.here | apply Tk.there)); first | done | fail) (hf : Fit A' D G := by first | apply Fit.all | ((repeat (first | (apply Fit.nilN; (repeat (first | apply nrm_nil | apply nrm_cons)); try apply nrm_rfl) | (apply Fit.cons; focus ((repeat (first | apply Tk.here | apply Tk.there)); first | done | fail)))); first | done | fail)) (nb : ∀ c ∈ D, ∀ b, ¬ c.bd b := by (repeat (first | exact nb0 | refine nb1 ?_)); first | done | fail) :
    TX E ⟨nn, [mark Dm], none⟩ ⟨bodyPostM (FF none) 0 P fn (RetP (PR w0 A0 R')), w0, A0⟩ [] .ret fr A := ⟨fun w hw =>
  SX_retM rfl ((hw.im hm).mem (List.Mem.head _)) fun a ha w' hU => ⟨v, res_t ha hr hv, PR.mkM h hw hm hf nb hU⟩⟩
theorem m2 (h : R' (.tuple #[v1, v2]) D) (hr : fn.results = #[.tmp t, .tmp t2] := by rfl) (hv : get fr t = some v1 := by rfl) (hv2 : get fr t2 = some v2 := by rfl) (hm : Tk (dfr Dm) A A' := by (repeat (first | apply Tk.here | apply Tk.there)); first | done | fail) (hf : Fit A' D G := by first | apply Fit.all | ((repeat (first | (apply Fit.nilN; (repeat (first | apply nrm_nil | apply nrm_cons)); try apply nrm_rfl) | (apply Fit.cons; focus ((repeat (first | apply Tk.here | apply Tk.there)); first | done | fail)))); first | done | fail)) (nb : ∀ c ∈ D, ∀ b, ¬ c.bd b := by (repeat (first | exact nb0 | refine nb1 ?_)); first | done | fail) :
    TX E ⟨nn, [mark Dm], none⟩ ⟨bodyPostM (FF none) 0 P fn (RetP (PR w0 A0 R')), w0, A0⟩ [] .ret fr A := ⟨fun w hw =>
  SX_retM rfl ((hw.im hm).mem (List.Mem.head _)) fun a ha w' hU => ⟨.tuple #[v1, v2], by rw [results_tmp2 hr a.tmps P w', ha.slot _ _ hv, ha.slot _ _ hv2], PR.mkM h hw hm hf nb hU⟩⟩
/-- .. without a mark. -/
theorem n1 (h : R' v D) (hr : fn.results = #[.tmp t] := by rfl) (hv : get fr t = some v := by rfl) (hf : Fit A D G := by first | apply Fit.all | ((repeat (first | (apply Fit.nilN; (repeat (first | apply nrm_nil | apply nrm_cons)); try apply nrm_rfl) | (apply Fit.cons; focus ((repeat (first | apply Tk.here | apply Tk.there)); first | done | fail)))); first | done | fail)) (nb : ∀ c ∈ D, ∀ b, ¬ c.bd b := by (repeat (first | exact nb0 | refine nb1 ?_)); first | done | fail) :
    TX E ⟨nn, [], none⟩ ⟨bodyPostM (FF none) 0 P fn (RetP (PR w0 A0 R')), w0, A0⟩ [] .ret fr A := ⟨fun w hw => SX_retM0 rfl fun a ha => ⟨v, res_t ha hr hv, by
  have h1 := hw.im (Im.trans hf (Im.drop _ _))
  exact ⟨D, h, h1.sat, h1.mv, nb⟩⟩⟩
theorem n2 (h : R' (.tuple #[v1, v2]) D) (hr : fn.results = #[.tmp t, .tmp t2] := by rfl) (hv : get fr t = some v1 := by rfl) (hv2 : get fr t2 = some v2 := by rfl) (hf : Fit A D G := by first | apply Fit.all | ((repeat (first | (apply Fit.nilN; (repeat (first | apply nrm_nil | apply nrm_cons)); try apply nrm_rfl) | (apply Fit.cons; focus ((repeat (first | apply Tk.here | apply Tk.there)); first | done | fail)))); first | done | fail)) (nb : ∀ c ∈ D, ∀ b, ¬ c.bd b := by (repeat (first | exact nb0 | refine nb1 ?_)); first | done | fail) :
    TX E ⟨nn, [], none⟩ ⟨bodyPostM (FF none) 0 P fn (RetP (PR w0 A0 R')), w0, A0⟩ [] .ret fr A := ⟨fun w hw => SX_retM0 rfl fun a ha => ⟨.tuple #[v1, v2], by rw [results_tmp2 hr a.tmps P w, ha.slot _ _ hv, ha.slot _ _ hv2], by
  have h1 := hw.im (Im.trans hf (Im.drop _ _))
  exact ⟨D, h, h1.sat, h1.mv, nb⟩⟩⟩
end
end Go.Art
set_option linter.unusedSimpArgs false
set_option linter.unusedVariables false
namespace Go.Art
open Go Go.RowKit

/-- A block that is lent. -/
def lpt (b : Nat) (cs : List Value) (T : TypeId) : Ch where
  wr := fun _ => False
  rd := fun _ => False
  bd := fun x => x = b
  P := fun w => w.heap[b]? = some (.cells cs.toArray T (0, 0))
  loc := fun h hb => (hb b (.inr (.inr rfl))).trans h
  lt := fun h hb => by rcases hb with hb | hb | rfl; exact hb.elim; exact hb.elim; exact lt_of_heap h
instance (b : Nat) (cs : List Value) (T : TypeId) : Lent (lpt b cs T) := ⟨fun _ => ⟨fun h => h, fun h => h⟩⟩
theorem has_pt {F : List Ch} {b : Nat} {cs : List Value} {T : TypeId} (h : pt b cs T ∈ F) : Has F (lpt b cs T) := ⟨fun _ hw => hw.h (pt b cs T) h, fun _ h => h, fun _ h => h, fun x hb => ⟨_, h, by rcases hb with hb | hb | hb; exact hb.elim; exact hb.elim; exact .inl hb⟩⟩
theorem has_lpt {F : List Ch} {b : Nat} {cs : List Value} {T : TypeId} (h : lpt b cs T ∈ F) : Has F (lpt b cs T) := ⟨fun _ hw => hw.h _ h, fun _ h => h, fun _ h => h, fun _ hb => ⟨_, h, hb⟩⟩

/-- No slice. -/
abbrev nS : Value := .slice none 0 0
/-- Slices, one by one: they read the lists ls; some block of theirs is x. -/
def elsP (hs : List Value) (ls : List (List Int)) (w : World) : Prop := hs.length = ls.length ∧ ∀ i, i < ls.length → Sl w (hs.getD i nS) (Is (ls.getD i []))
def elsF (hs : List Value) (ls : List (List Int)) (x : Nat) : Prop := ∃ i, i < ls.length ∧ Is (ls.getD i []) ≠ [] ∧ (hs.getD i nS).ownBlock = some x
theorem elsP.keep {w w' : World} {hs : List Value} {ls : List (List Int)} (h : elsP hs ls w) (hb : ∀ b, elsF hs ls b → w'.heap[b]? = w.heap[b]?) : elsP hs ls w' := ⟨h.1, fun i hi => (h.2 i hi).of_block fun b hx => hb b ⟨i, hi, hx⟩⟩
theorem elsP.lt {w : World} {hs : List Value} {ls : List (List Int)} (h : elsP hs ls w) {b : Nat} (hb : elsF hs ls b) : b < w.heap.size := by obtain ⟨i, hi, hx⟩ := hb; exact (h.2 i hi).blt hx
/-- .. lent; .. that stay as they are. -/
def vels (hs : List Value) (ls : List (List Int)) : Ch where
  wr := fun _ => False
  rd := fun _ => False
  bd := elsF hs ls
  P := elsP hs ls
  loc := fun h hb => h.keep fun b h => hb b (.inr (.inr h))
  lt := fun h hb => by rcases hb with hb | hb | hb; exact hb.elim; exact hb.elim; exact h.lt hb
def rels (hs : List Value) (ls : List (List Int)) : Ch where
  wr := fun _ => False
  rd := elsF hs ls
  bd := fun _ => False
  P := elsP hs ls
  loc := fun h hb => h.keep fun b h => hb b (.inr (.inl h))
  lt := fun h hb => by rcases hb with hb | hb | hb; exact hb.elim; exact h.lt hb; exact hb.elim
instance (hs : List Value) (ls : List (List Int)) : Lent (vels hs ls) := ⟨fun _ => ⟨fun h => h, fun h => h⟩⟩
instance (hs : List Value) (ls : List (List Int)) : NoB (rels hs ls) := ⟨fun _ h => h⟩
theorem has_vels {F : List Ch} {hs : List Value} {ls : List (List Int)} (h : vels hs ls ∈ F) : Has F (vels hs ls) := ⟨fun _ hw => hw.h _ h, fun _ h => h, fun _ h => h, fun _ hb => ⟨_, h, hb⟩⟩
theorem has_rels {F : List Ch} {hs : List Value} {ls : List (List Int)} (h : rels hs ls ∈ F) : Has F (vels hs ls) := ⟨fun _ hw => hw.h (rels hs ls) h, fun _ h => h, fun _ h => h, fun x hb => ⟨_, h, by rcases hb with hb | hb | hb; exact hb.elim; exact hb.elim; exact .inr (.inl hb)⟩⟩
theorem has_el {F : List Ch} {hs : List Value} {ls : List (List Int)} {i : Nat} (h : Has F (vels hs ls)) (hi : i < ls.length) : Has F (vw (hs.getD i nS) (Is (ls.getD i []))) :=
  ⟨fun w hw => (h.P w hw).2 i hi, fun _ h => h, fun _ h => h, fun b hb => h.ft b (by rcases hb with hb | hb | hb; exact hb.elim; exact hb.elim; exact .inr (.inr ⟨i, hi, hb⟩))⟩
theorem els_len {A : List Ch} {hs : List Value} {ls : List (List Int)} (h : Has A (vels hs ls)) (w : World) (hw : Sat A w) : hs.length = ls.length := (h.P w hw).1
theorem rels_nil (A : List Ch) : Im A (rels [] [] :: A) := by
  have h0 : ∀ b, ¬ (rels [] []).ft b := by rintro b (h | ⟨i, hi, _⟩ | h); exact h; simp at hi; exact h
  refine ⟨fun w hw => Sat.cons.2 ⟨⟨rfl, fun i hi => by simp at hi⟩, fun a _ => ⟨fun b hb => hb.elim, fun b _ hf => h0 b hf⟩, hw⟩, fun b hb => ?_, fun b hb => ?_, fun b hb => ?_⟩
  · obtain ⟨x, hx, hb⟩ := hb
    rcases List.mem_cons.1 hx with rfl | hx
    · exact hb.elim
    · exact ⟨x, hx, hb⟩
  · obtain ⟨x, hx, hb⟩ := hb
    rcases List.mem_cons.1 hx with rfl | hx
    · exact absurd (.inr (.inl hb)) (h0 b)
    · exact .inr ⟨x, hx, hb⟩
  · obtain ⟨x, hx, hb⟩ := hb
    rcases List.mem_cons.1 hx with rfl | hx
    · exact absurd hb (h0 b)
    · exact ⟨x, hx, hb⟩
theorem getD_snoc {α : Type} (l : List α) (x z : α) (i : Nat) : (l ++ [x]).getD i z = if i < l.length then l.getD i z else if i = l.length then x else z := by
  simp only [List.getD_eq_getElem?_getD, List.getElem?_append]
  split
  · rfl
  · rename_i h
    by_cases e : i = l.length
    · subst e; simp
    · rw [if_neg e]
      have : ¬ i - l.length = 0 := by omega
      cases hk : i - l.length with
      | zero => exact absurd hk this
      | succ n => simp
/-- One slice more. -/
theorem rels_snoc {hs : List Value} {ls : List (List Int)} (hl : hs.length = ls.length) (v : Value) (l : List Int) (A : List Ch) : Im (rels hs ls :: ro v (Is l) :: A) (rels (hs ++ [v]) (ls ++ [l]) :: A) := by
  have hF : ∀ b, elsF (hs ++ [v]) (ls ++ [l]) b → elsF hs ls b ∨ (Is l ≠ [] ∧ v.ownBlock = some b) := by
    rintro b ⟨i, hi, h1, h2⟩
    rw [getD_snoc] at h1 h2
    by_cases hlt : i < ls.length
    · rw [if_pos hlt] at h1; rw [if_pos (by omega)] at h2; exact .inl ⟨i, hlt, h1, h2⟩
    · have : i = ls.length := by simp at hi; omega
      rw [if_neg hlt, if_pos this] at h1; rw [if_neg (by omega), if_pos (by omega)] at h2; exact .inr ⟨h1, h2⟩
  have key : ∀ b, elsF (hs ++ [v]) (ls ++ [l]) b → rds [rels hs ls, ro v (Is l)] b := fun b hb => by
    rcases hF b hb with h | h
    · exact ⟨rels hs ls, by simp, h⟩
    · exact ⟨ro v (Is l), by simp, h⟩
  refine ⟨fun w hw => ?_, fun b hb => ?_, fun b hb => ?_, fun b hb => ?_⟩
  · obtain ⟨h1, h2, h3⟩ := Sat.cons.1 hw
    obtain ⟨h4, h5, h6⟩ := Sat.cons.1 h3
    refine Sat.cons.2 ⟨⟨by simp [hl], fun i hi => ?_⟩, fun a ha => ⟨fun b hb => hb.elim, fun b hb hf => ?_⟩, h6⟩
    · rw [getD_snoc, getD_snoc]
      by_cases hlt : i < ls.length
      · rw [if_pos (by omega), if_pos hlt]; exact h1.2 i hlt
      · have : i = ls.length := by simp at hi; omega
        rw [if_neg (by omega), if_pos (by omega), if_neg hlt, if_pos this]; exact h4
    · rcases hf with hf | hf | hf
      · exact hf
      · rcases hF b hf with h | h
        · exact (h2 a (by simp [ha])).2 b hb (.inr (.inl h))
        · exact (h5 a ha).2 b hb (.inr (.inl h))
      · exact hf
  · obtain ⟨x, hx, hb⟩ := hb
    rcases List.mem_cons.1 hx with rfl | hx
    · exact hb.elim
    · exact ⟨x, by simp [hx], hb⟩
  · obtain ⟨x, hx, hb⟩ := hb
    rcases List.mem_cons.1 hx with rfl | hx
    · obtain ⟨c, hc, h⟩ := key b hb
      simp only [List.mem_cons, List.not_mem_nil, or_false] at hc
      rcases hc with rfl | rfl
      · exact .inr ⟨rels hs ls, by simp, h⟩
      · exact .inr ⟨ro v (Is l), by simp, h⟩
    · exact .inr ⟨x, by simp [hx], hb⟩
  · obtain ⟨x, hx, hb⟩ := hb
    rcases List.mem_cons.1 hx with rfl | hx
    · rcases hb with hb | hb | hb
      · exact hb.elim
      · obtain ⟨c, hc, h⟩ := key b hb
        simp only [List.mem_cons, List.not_mem_nil, or_false] at hc
        rcases hc with rfl | rfl
        · exact ⟨rels hs ls, by simp, .inr (.inl h)⟩
        · exact ⟨ro v (Is l), by simp, .inr (.inl h)⟩
      · exact hb.elim
    · exact ⟨x, by simp [hx], hb⟩

section
variable {P : Program} {E : Env P} {n : Sh} {X : Cx} {s : List K} {fr : Fr} {A A' B F : List Ch} {ops : Array Oper} {rest : List Oper} {d : Nat} {ty : TypeId} {pos : String} {after : Array Edge} {v z : Value} {t : TypeId} {x y : Operand} {c0 : Code}
theorem ldl {b j : Nat} {cs : List Value} {T : TypeId} {dt : TypeDesc} (k : TO E n X s ops rest ((d, v) :: fr) A) (hx : ev fr x = some (.pointer (some ⟨b, j, none⟩)) := by rfl)
    (hm : lpt b cs T ∈ A := by (repeat (first | apply List.Mem.head | apply List.Mem.tail)); first | done | fail) (hj : cs[j]? = some v := by rfl) (ht : lk E.und t = some dt := by rfl) (hg : aggB dt = false := by rfl) (hd : Nat.blt d n.n = true := by rfl) :
    TO E n X s ops (⟨some d, .load t x, ty, pos, after, none⟩ :: rest) fr A := TO.val (fun _ h => R_load ht hg hx (blk_cell (h.h _ hm) (by simpa using hj))) k hd
theorem qldl {b j : Nat} {cs : List Value} {T : TypeId} {dt : TypeDesc} (k : TQ E n X s ops rest ((d, v) :: fr) A) (hx : ev fr x = some (.pointer (some ⟨b, j, none⟩)) := by rfl)
    (hm : lpt b cs T ∈ A := by (repeat (first | apply List.Mem.head | apply List.Mem.tail)); first | done | fail) (hj : cs[j]? = some v := by rfl) (ht : lk E.und t = some dt := by rfl) (hg : aggB dt = false := by rfl) (hd : Nat.blt d n.n = true := by rfl) :
    TQ E n X s ops (⟨some d, .load t x, ty, pos, after, none⟩ :: rest) fr A := TQ.val (fun _ h => R_load ht hg hx (blk_cell (h.h _ hm) (by simpa using hj))) k hd
theorem val_get {xs : List Value} {j : Nat} (h : j < xs.length) : xs[j]? = some (xs.getD j nS) := by simp [List.getD_eq_getElem?_getD, h]
/-- An element that is a value like any. -/
theorem lv {xs : List Value} {j : Nat} {dt : TypeDesc} (k : TO E n X s ops rest ((d, xs.getD j nS) :: fr) A) (hx : ev fr x = some (.pointer (some (addrAt v j))) := by rfl) (hh : Has A (vw v xs) := by first | (apply has_vw; (repeat (first | apply List.Mem.head | apply List.Mem.tail)); first | done | fail) | (apply has_own; (repeat (first | apply List.Mem.head | apply List.Mem.tail)); first | done | fail) | (apply has_ro; (repeat (first | apply List.Mem.head | apply List.Mem.tail)); first | done | fail) | apply has_nil | ((with_reducible apply has_el); (focus (first | (apply has_vels; (repeat (first | apply List.Mem.head | apply List.Mem.tail)); first | done | fail) | (apply has_rels; (repeat (first | apply List.Mem.head | apply List.Mem.tail)); first | done | fail))); omega) | (apply has_pt; (repeat (first | apply List.Mem.head | apply List.Mem.tail)); first | done | fail) | (apply has_lpt; (repeat (first | apply List.Mem.head | apply List.Mem.tail)); first | done | fail) | (apply has_vels; (repeat (first | apply List.Mem.head | apply List.Mem.tail)); first | done | fail) | (apply has_rels; (repeat (first | apply List.Mem.head | apply List.Mem.tail)); first | done | fail) | with_reducible assumption | ((with_reducible apply has_elg); (focus (first | (apply has_velg; (repeat (first | apply List.Mem.head | apply List.Mem.tail)); first | done | fail) | (apply has_relg; (repeat (first | apply List.Mem.head | apply List.Mem.tail)); first | done | fail))); omega) | (apply has_velg; (repeat (first | apply List.Mem.head | apply List.Mem.tail)); first | done | fail) | (apply has_relg; (repeat (first | apply List.Mem.head | apply List.Mem.tail)); first | done | fail) | (apply has_vwf; (repeat (first | apply List.Mem.head | apply List.Mem.tail)); first | done | fail)) (hj : j < xs.length := by omega)
    (ht : lk E.und t = some dt := by rfl) (hg : aggB dt = false := by rfl) (hd : Nat.blt d n.n = true := by rfl) : TO E n X s ops (⟨some d, .load t x, ty, pos, after, none⟩ :: rest) fr A := le k hx hh (val_get hj) ht hg hd
theorem qlv {xs : List Value} {j : Nat} {dt : TypeDesc} (k : TQ E n X s ops rest ((d, xs.getD j nS) :: fr) A) (hx : ev fr x = some (.pointer (some (addrAt v j))) := by rfl) (hh : Has A (vw v xs) := by first | (apply has_vw; (repeat (first | apply List.Mem.head | apply List.Mem.tail)); first | done | fail) | (apply has_own; (repeat (first | apply List.Mem.head | apply List.Mem.tail)); first | done | fail) | (apply has_ro; (repeat (first | apply List.Mem.head | apply List.Mem.tail)); first | done | fail) | apply has_nil | ((with_reducible apply has_el); (focus (first | (apply has_vels; (repeat (first | apply List.Mem.head | apply List.Mem.tail)); first | done | fail) | (apply has_rels; (repeat (first | apply List.Mem.head | apply List.Mem.tail)); first | done | fail))); omega) | (apply has_pt; (repeat (first | apply List.Mem.head | apply List.Mem.tail)); first | done | fail) | (apply has_lpt; (repeat (first | apply List.Mem.head | apply List.Mem.tail)); first | done | fail) | (apply has_vels; (repeat (first | apply List.Mem.head | apply List.Mem.tail)); first | done | fail) | (apply has_rels; (repeat (first | apply List.Mem.head | apply List.Mem.tail)); first | done | fail) | with_reducible assumption | ((with_reducible apply has_elg); (focus (first | (apply has_velg; (repeat (first | apply List.Mem.head | apply List.Mem.tail)); first | done | fail) | (apply has_relg; (repeat (first | apply List.Mem.head | apply List.Mem.tail)); first | done | fail))); omega) | (apply has_velg; (repeat (first | apply List.Mem.head | apply List.Mem.tail)); first | done | fail) | (apply has_relg; (repeat (first | apply List.Mem.head | apply List.Mem.tail)); first | done | fail) | (apply has_vwf; (repeat (first | apply List.Mem.head | apply List.Mem.tail)); first | done | fail)) (hj : j < xs.length := by omega)
    (ht : lk E.und t = some dt := by rfl) (hg : aggB dt = false := by rfl) (hd : Nat.blt d n.n = true := by rfl) : TQ E n X s ops (⟨some d, .load t x, ty, pos, after, none⟩ :: rest) fr A := qle k hx hh (val_get hj) ht hg hd
theorem TC.els {hs : List Value} {ls : List (List Int)} (k : hs.length = ls.length → TC E n X s c0 fr A) (hh : Has A (vels hs ls) := by first | exact has_vels (by (repeat (first | apply List.Mem.head | apply List.Mem.tail)); first | done | fail) | exact has_rels (by (repeat (first | apply List.Mem.head | apply List.Mem.tail)); first | done | fail)) : TC E n X s c0 fr A := TC.fact (fun w hw => els_len hh w hw) k

/-! ### Maps of integers -/
variable {b : Nat} {f : Int → Option Value} {k : Int} {kt et : TypeId} {sz by_ : Nat}
theorem mm (k : ∀ b, TO E n X s ops rest ((d, mp b) :: fr) (mpc b (fun _ => none) :: A)) (hd : Nat.blt d n.n = true := by rfl) : TO E n X s ops (⟨some d, .makeMap t none, ty, pos, after, none⟩ :: rest) fr A := ⟨fun w hw =>
  SO_makeMap hd fun w' hE hz hM => (k _).run w' (hw.new hE hM (by rintro y (rfl | h | h); exact Nat.le_refl _; exact h.elim; exact h.elim) (fun _ h => h))⟩
theorem mlS (kk : TO E n X s ops rest ((d, .tuple #[v, .bool true]) :: fr) A) (hf : f k = some v) (hx : ev fr x = some (mp b) := by rfl) (hy : ev fr y = some (I k) := by rfl) (hm : mpc b f ∈ A := by (repeat (first | apply List.Mem.head | apply List.Mem.tail)); first | done | fail)
    (ht : lk E.und t = some (.map kt et) := by rfl) (hk : lk E.und kt = some dI := by rfl) (hd : Nat.blt d n.n = true := by rfl) : TO E n X s ops (⟨some d, .lookup t x y true, ty, pos, after, none⟩ :: rest) fr A :=
  TO.val (fun _ h => R_lookS ht hk hx hy (h.h _ hm) hf) kk hd
theorem mlN (kk : TO E n X s ops rest ((d, .tuple #[z, .bool false]) :: fr) A) (hf : f k = none) (hx : ev fr x = some (mp b) := by rfl) (hy : ev fr y = some (I k) := by rfl) (hm : mpc b f ∈ A := by (repeat (first | apply List.Mem.head | apply List.Mem.tail)); first | done | fail)
    (ht : lk E.und t = some (.map kt et) := by rfl) (hk : lk E.und kt = some dI := by rfl) (he : lk E.inf et = some (z, sz, by_) := by rfl) (hd : Nat.blt d n.n = true := by rfl) : TO E n X s ops (⟨some d, .lookup t x y true, ty, pos, after, none⟩ :: rest) fr A :=
  TO.val (fun _ h => R_lookN ht hk he hx hy (h.h _ hm) hf) kk hd
theorem mu {u : Operand} (kk : TO E n X s ops rest fr (mpc b (updF f k v) :: A')) (hx : ev fr x = some (mp b) := by rfl) (hm : Tk (mpc b f) A A' := by (repeat (first | apply Tk.here | apply Tk.there)); first | done | fail) (hy : ev fr y = some (I k) := by rfl) (hu : ev fr u = some v := by rfl)
    (ht : lk E.und t = some (.map kt et) := by rfl) (hk : lk E.und kt = some dI := by rfl) : TO E n X s ops (⟨none, .mapUpdate t x y u, ty, pos, after, none⟩ :: rest) fr A := ⟨fun w hw => by
  have h1 := hw.im hm
  exact SO_mapUpdate ht hk hx hy hu (h1.mem (List.Mem.head _)) fun w' hU hM => kk.run w' (h1.set hU (fun x hb => .inl (List.mem_singleton.1 hb)) hM (by rintro x (rfl | h | h); exact .inl rfl; exact h.elim; exact h.elim) (fun _ h => h))⟩
end
end Go.Art
set_option linter.unusedSimpArgs false
set_option linter.unusedVariables false
namespace Go.Art
open Go Go.RowKit

section
variable {F : Fence} {m : Nat} {P : Program} {md : Region.Mode} {ops : Array Oper} {Q : Exit → Act → World → Prop} {S : World → Prop}
/-- Whatever order is drawn; S holds behind every operation. -/
def wpAnyS (F : Fence) (m : Nat) (P : Program) (md : Region.Mode) (ops : Array Oper) (Q : Exit → Act → World → Prop) (S : World → Prop) : Nat → Array Bool → Act → World → Prop
  | 0, listed, a, w => Region.ready md ops listed = [] ∧ Q .normal a w
  | fuel + 1, listed, a, w => (Region.ready md ops listed = [] → Q .normal a w) ∧ ∀ i ∈ Region.ready md ops listed, wpOpIn F m P ops Q i (fun a' w' => S w' ∧ wpAnyS F m P md ops Q S fuel (listed.setIfInBounds i true) a' w') a w
theorem wpAnyS_sound : ∀ {fuel : Nat} {listed : Array Bool} {a : Act} {w : World}, wpAnyS F m P md ops Q S fuel listed a w → wpAnyIn F m P md ops Q fuel listed a w
  | 0, _, _, _, h => h
  | _ + 1, _, _, _, h => ⟨h.1, fun i hi => wpOpIn_mono (fun _ _ h' => wpAnyS_sound h'.2) (h.2 i hi)⟩
/-- An operation changes its own slot alone. -/
theorem wpOpIn_own {j : Nat} {oj : Oper} {K : Act → World → Prop} {a : Act} {w : World} (hro : F.round = none) (hj : ops[j]? = some oj) (h : wpOpIn F m P ops Q j K a w) :
    wpOpIn F m P ops Q j (fun a' w' => (∃ u df, a' = ({ a with defers := df } : Act).put oj.dst u) ∧ K a' w') a w := by
  unfold wpOpIn at *
  simp only [hj] at *
  split
  · rename_i hw
    simp only [hw, if_true] at h
    refine ⟨h.1, ?_⟩
    have h := h.2
    generalize (oj.semAt F.round a.eval).run P w = r at *
    cases r with
    | ok x w' =>
      cases x <;> simp only [Oper.uponIn] at h ⊢
      case value u => exact ⟨⟨u, a.defers, rfl⟩, h⟩
      case skip => exact ⟨⟨undef, a.defers, rfl⟩, h⟩
      case defer d => exact ⟨⟨undef, _, rfl⟩, h⟩
      case enter f args => exact ⟨h.1, CallsIn.mono h.2 fun e w'' he => by cases e <;> first | exact ⟨⟨_, a.defers, rfl⟩, he⟩ | exact he⟩
      case row row args => exact ⟨h.1, RowsIn.mono h.2 fun u w'' he => ⟨⟨u, a.defers, rfl⟩, he⟩⟩
      case round l f tmps assign body => exact ⟨h.1, RoundIn.mono h.2 fun e w'' he => by cases e <;> first | exact ⟨⟨_, a.defers, rfl⟩, he⟩ | exact he⟩
    | halt x w' => cases x <;> simp only [Oper.uponIn] at h ⊢; exact h
  · rename_i hw
    simp only [hw] at h
    exact ⟨h.1, ⟨_, a.defers, rfl⟩, h.2⟩
/-- In every world of S the operation yields v and leaves the world. -/
def YS (P : Program) (S : World → Prop) (o : Oper) (v : Value) (a : Act) : Prop := ∀ w, S w → (execOp a.eval o).run P w = .ok (.value v) w ∧ o.about P w a.eval = none
theorem wpAnyS_take {i d : Nat} {o : Op} {ty : TypeId} {pos : String} {after : Array Edge} {v : Value} (hro : F.round = none) (hi : ops[i]? = some ⟨some d, o, ty, pos, after, none⟩) (hs : Region.noSelect ops = true) (hQ : ∀ c a w, ¬ Q (.panic c) a w) :
    ∀ (fuel : Nat) (listed : Array Bool) (a : Act) (w : World), Region.free md ops listed i = true → (Region.ready md ops listed).contains i = true → YS P S ⟨some d, o, ty, pos, after, none⟩ v a → S w →
      wpAnyS F m P md ops Q S fuel (listed.setIfInBounds i true) (a.put (some d) v) w → wpAnyS F m P md ops Q S (fuel + 1) listed a w := by
  have hsel := fun j oj cs b (h : ops[j]? = some oj) => Region.noSelect_spec hs j oj cs b h
  have now : ∀ (K : Act → World → Prop) (a : Act) (w : World), YS P S ⟨some d, o, ty, pos, after, none⟩ v a → S w → K (a.put (some d) v) w → wpOpIn F m P ops Q i K a w := fun K a w hy hS h => by
    unfold wpOpIn
    simp only [hi, Region.wanted, if_true, Oper.wpIn, hro, Oper.semAt_none, (hy w hS).1, Oper.uponIn]
    exact ⟨fun f hf => (by rw [(hy w hS).2] at hf; cases hf), h⟩
  have gen : ∀ (fuel : Nat) (listed : Array Bool) (a : Act) (w : World), (∀ j oj, ops[j]? = some oj → j ≠ i → listed.getD j true = false → (∀ e ∈ oj.after, Region.binds md e = true → e.on ≠ i) → Oper.apart ops ⟨some d, o, ty, pos, after, none⟩ oj = true) →
      i ∈ Region.ready md ops listed → YS P S ⟨some d, o, ty, pos, after, none⟩ v a → S w → wpAnyS F m P md ops Q S fuel (listed.setIfInBounds i true) (a.put (some d) v) w → wpAnyS F m P md ops Q S (fuel + 1) listed a w := by
    intro fuel
    induction fuel with
    | zero =>
      intro listed a w _ hr hy hS H
      refine ⟨fun h => (by rw [h] at hr; cases hr), fun j hj => ?_⟩
      by_cases hji : j = i
      · subst hji; exact now _ a w hy hS ⟨hS, H⟩
      · have := ready_mono hj hji
        rw [H.1] at this
        cases this
    | succ fuel ih =>
      intro listed a w hfree hr hy hS H
      refine ⟨fun h => (by rw [h] at hr; cases hr), fun j hj => ?_⟩
      by_cases hji : j = i
      · subst hji; exact now _ a w hy hS ⟨hS, H⟩
      · obtain ⟨hjun, oj, hoj, hall⟩ := mem_ready.1 hj
        have hnot : ∀ e ∈ oj.after, Region.binds md e = true → e.on ≠ i := fun e he hb heq => by
          have h1 := hall e he hb
          have h0 := (mem_ready.1 hr).1
          rw [heq] at h1
          rcases Nat.lt_or_ge i listed.size with h' | h'
          · simp [h'] at h0 h1; rw [h0] at h1; cases h1
          · simp [Array.getElem?_eq_none h'] at h1
        have hap := hfree j oj hoj hji hjun hnot
        obtain ⟨p1, p2, p3⟩ := Oper.apart_spec hap
        have hap2 : Oper.apart ops ⟨some d, .assign (.const v), ty, pos, after, none⟩ oj = true := by
          have q1 := p1 d rfl
          have q2 := p2 d rfl
          have q3 : Oper.looksAt ops ⟨some d, .assign (.const v), ty, pos, after, none⟩ = [] := rfl
          simp only [Oper.apart, q3]
          have r1 : (oj.looksAt ops).contains d = false := by simpa using q1
          have r2 : (oj.dst != some d) = true := by simpa using q2
          rw [r1, r2]
          cases oj.dst <;> rfl
        have hyf : YieldsFenced P ops ⟨some d, .assign (.const v), ty, pos, after, none⟩ v a := ⟨.inl ⟨rfl, fun w => rfl⟩, fun w => rfl⟩
        have h2 := wpOpIn_put hro hoj hap2 (fun cs b e => by cases e) (fun cs b => hsel j oj cs b hoj) (fun c a w h => absurd h (hQ c _ w)) hyf (H.2 j (ready_mono hj hji))
        have h3 := wpOpIn_own hro hoj h2
        refine wpOpIn_mono (fun a' w' h4 => ?_) h3
        obtain ⟨⟨u, df, rfl⟩, _, hS', h5⟩ := h4
        have hy' : YS P S ⟨some d, o, ty, pos, after, none⟩ v (({ a with defers := df } : Act).put oj.dst u) := fun w hw => by
          rw [execOp_put _ (fun cs b => hsel i _ cs b hi) ({ a with defers := df } : Act) oj.dst u p3, about_put _ w ({ a with defers := df } : Act) oj.dst u p3]
          exact hy w hw
        have hfree' : ∀ k ok, ops[k]? = some ok → k ≠ i → (listed.setIfInBounds j true).getD k true = false → (∀ e ∈ ok.after, Region.binds md e = true → e.on ≠ i) → Oper.apart ops ⟨some d, o, ty, pos, after, none⟩ ok = true := fun k ok hk hki hun hno => by
          refine hfree k ok hk hki ?_ hno
          by_cases hjk : j = k
          · subst hjk; exact hjun
          · rw [getD_set_ne true hjk] at hun; exact hun
        refine ⟨hS', ih (listed.setIfInBounds j true) _ w' hfree' (ready_mono hr (Ne.symm hji)) hy' hS' ?_⟩
        rw [Array.setIfInBounds_comm _ _ hji]
        exact h5
  intro fuel listed a w hf hr hy hS H
  exact gen fuel listed a w (Region.free_spec hi hf) (by simpa using hr) hy hS H
end

/-- Behind an operation: the rest, or the panic. -/
def RQ (P : Program) (ops : Array Oper) (r : Option Nat) (Q : Exit → Act → World → Prop) (S : World → Prop) (fuel : Nat) (listed : Array Bool) : Exit → Act → World → Prop := fun e a w =>
  match e with
  | .normal => S w ∧ wpAnyS (FF r) 0 P .any ops Q S fuel listed a w
  | e => Q e a w
structure TS {P : Program} (E : Env P) (n : Sh) (X : Cx) (s : List K) (S : World → Prop) (ops : Array Oper) (fuel : Nat) (listed : Array Bool) (fr : Fr) (A : List Ch) : Prop where
  run : ∀ w, St X A w → S w → ∀ a, Holds n a fr → wpAnyS (FF n.r) 0 P .any ops (NP P n.r X.Q s) S fuel listed a w

section
variable {P : Program} {E : Env P} {n : Sh} {X : Cx} {s : List K} {fr : Fr} {A A' B : List Ch} {ops : Array Oper} {d : Nat} {o : Op} {ty : TypeId} {pos : String} {after : Array Edge} {v : Value} {fuel : Nat} {listed : Array Bool} {S : World → Prop}
theorem rs {id : Nat} {l : List Oper} (S : World → Prop) (h : TS E n X s S l.toArray l.length (Array.replicate l.length false) fr A) (hS : ∀ w, Sat A w → S w) : TC E n X s (.region id l.toArray true) fr A :=
  ⟨fun w hw => ⟨fun a ha => Code.wpIn_mono (fun (e : Exit) (a : Act) (w : World) (h : NP P n.r X.Q s e a w) => h.2) (wpIn_region_any E.mixed (by
    have h1 := hw.ext (Upd.draw w)
    have := wpAnyS_sound (h.run _ h1 (hS _ h1.sat) a ha)
    simpa using this))⟩⟩
/-- One that reads, taken ahead. -/
theorem tk (i : Nat) (hv : ∀ w, S w → OpV P n fr o ty w v w) (k : TS E n X s S ops fuel (listed.setIfInBounds i true) ((d, v) :: fr) A) (hi : ops[i]? = some ⟨some d, o, ty, pos, after, none⟩ := by rfl) (hs : Region.noSelect ops = true := by kernel_rfl) (hf : Region.free .any ops listed i = true := by kernel_rfl)
    (hr : (Region.ready .any ops listed).contains i = true := by kernel_rfl) (hrd : n.r = none := by rfl) (hd : Nat.blt d n.n = true := by rfl) (hab : ∀ w ρ, (⟨some d, o, ty, pos, after, none⟩ : Oper).about P w ρ = none := by exact fun _ _ => rfl) : TS E n X s S ops (fuel + 1) listed fr A :=
  ⟨fun w hw hS a ha => wpAnyS_take (by simp [FF, hrd]) hi hs (fun c a w h => h.1 c rfl) fuel listed a w hf hr (fun w' hw' => ⟨(hv w' hw').run a ha _ _ _ _, hab _ _⟩) hS (k.run w hw hS _ (ha.put hd v))⟩
theorem tka (i : Nat) (k : TS E n X s S ops fuel (listed.setIfInBounds i true) ((d, v) :: fr) A) (hi : ops[i]? = some ⟨some d, o, ty, pos, after, none⟩ := by rfl) (hv : evOp E fr o = some v := by rfl) (hs : Region.noSelect ops = true := by kernel_rfl) (hf : Region.free .any ops listed i = true := by kernel_rfl)
    (hr : (Region.ready .any ops listed).contains i = true := by kernel_rfl) (hrd : n.r = none := by rfl) (hd : Nat.blt d n.n = true := by rfl) (hab : ∀ w ρ, (⟨some d, o, ty, pos, after, none⟩ : Oper).about P w ρ = none := by exact fun _ _ => rfl) : TS E n X s S ops (fuel + 1) listed fr A :=
  tk i (fun _ _ => R_auto hv) k hi hs hf hr hrd hd hab
theorem tkl (i : Nat) {t : TypeId} {x : Operand} {b j : Nat} {cs : List Value} {T : TypeId} {dt : TypeDesc} (hm : ∀ w, S w → w.heap[b]? = some (.cells cs.toArray T (0, 0))) (k : TS E n X s S ops fuel (listed.setIfInBounds i true) ((d, v) :: fr) A) (hi : ops[i]? = some ⟨some d, .load t x, ty, pos, after, none⟩ := by rfl) (hx : ev fr x = some (.pointer (some ⟨b, j, none⟩)) := by rfl)
    (hj : cs[j]? = some v := by rfl) (ht : lk E.und t = some dt := by rfl) (hg : aggB dt = false := by rfl) (hs : Region.noSelect ops = true := by kernel_rfl) (hf : Region.free .any ops listed i = true := by kernel_rfl)
    (hr : (Region.ready .any ops listed).contains i = true := by kernel_rfl) (hrd : n.r = none := by rfl) (hd : Nat.blt d n.n = true := by rfl) : TS E n X s S ops (fuel + 1) listed fr A :=
  tk i (fun w hw => R_load ht hg hx (blk_cell (hm w hw) (by simpa using hj))) k hi hs hf hr hrd hd
/-- Any of those that may come. -/
theorem tn (is : List Nat) (hr : Region.ready .any ops listed = is) (hne : is ≠ []) (k : ∀ i ∈ is, ∃ oi, ops[i]? = some oi ∧ TO E n ⟨RQ P ops n.r (NP P n.r X.Q s) S fuel (listed.setIfInBounds i true), X.w0, X.A0⟩ [] ops [oi] fr A) : TS E n X s S ops (fuel + 1) listed fr A := ⟨fun w hw hS a ha => by
  refine ⟨fun h => absurd (hr ▸ h) hne, fun i hi0 => ?_⟩
  rw [hr] at hi0
  obtain ⟨oi, hi, k⟩ := k i hi0
  have h := (k.run w ⟨hw.sat, hw.mv⟩).run a ha
  simp only [den] at h
  unfold wpOpIn
  simp only [hi]
  unfold wpListIn at h
  split
  · rename_i hwt
    simp only [hwt, if_true] at h
    unfold Oper.wpIn at *
    refine ⟨h.1, ?_⟩
    have h := h.2
    generalize (oi.semAt (FF n.r).round a.eval).run P w = r at *
    cases r with
    | ok x w' =>
      cases x <;> simp only [Oper.uponIn] at h ⊢
      case value u => exact h
      case skip => exact h
      case defer d => exact h
      case enter f args => exact ⟨h.1, CallsIn.mono h.2 fun e w'' he => by cases e <;> first | exact he | (exact absurd rfl (he.1 _)) | exact he⟩
      case row row args => exact ⟨h.1, RowsIn.mono h.2 fun u w'' he => he⟩
      case round l f tmps assign body => exact ⟨h.1, RoundIn.mono h.2 fun e w'' he => by cases e <;> first | exact he | (exact absurd rfl (he.1 _)) | exact he⟩
    | halt x w' => cases x <;> simp only [Oper.uponIn] at h ⊢; exact h
  · rename_i hwt
    simp only [hwt] at h
    exact h⟩
/-- The only one that may come; one of two. -/
theorem t1 (i : Nat) {oi : Oper} (k : TO E n ⟨RQ P ops n.r (NP P n.r X.Q s) S fuel (listed.setIfInBounds i true), X.w0, X.A0⟩ [] ops [oi] fr A) (hi : ops[i]? = some oi := by rfl) (hr : Region.ready .any ops listed = [i] := by kernel_rfl) : TS E n X s S ops (fuel + 1) listed fr A :=
  tn [i] hr (by simp) fun j hj => by obtain rfl : j = i := by simpa using hj
                                     exact ⟨oi, hi, k⟩
theorem t2 (i j : Nat) {oi oj : Oper} (k : TO E n ⟨RQ P ops n.r (NP P n.r X.Q s) S fuel (listed.setIfInBounds i true), X.w0, X.A0⟩ [] ops [oi] fr A) (k2 : TO E n ⟨RQ P ops n.r (NP P n.r X.Q s) S fuel (listed.setIfInBounds j true), X.w0, X.A0⟩ [] ops [oj] fr A) (hi : ops[i]? = some oi := by rfl) (hj : ops[j]? = some oj := by rfl)
    (hr : Region.ready .any ops listed = [i, j] := by kernel_rfl) : TS E n X s S ops (fuel + 1) listed fr A :=
  tn [i, j] hr (by simp) fun m hm => by
    simp only [List.mem_cons, List.not_mem_nil, or_false] at hm
    rcases hm with rfl | rfl
    · exact ⟨oi, hi, k⟩
    · exact ⟨oj, hj, k2⟩
theorem te (hS : ∀ w, Sat A w → S w) (k : TS E n X s S ops fuel listed fr A) : TX E n ⟨RQ P ops n.r (NP P n.r X.Q s) S fuel listed, X.w0, X.A0⟩ [] .normal fr A :=
  ⟨fun w hw => ⟨fun a ha => ⟨hS w hw.sat, k.run w ⟨hw.sat, hw.mv⟩ (hS w hw.sat) a ha⟩⟩⟩
/-- The end. -/
theorem t0 (k : TX E n X s .normal fr A) (hr : Region.ready .any ops listed = [] := by kernel_rfl) : TS E n X s S ops fuel listed fr A := ⟨fun w hw _ a ha => by
  have h := (k.run w hw).run a ha
  cases fuel with
  | zero => exact ⟨hr, fun c e => (by cases e), h⟩
  | succ fuel => exact ⟨fun _ => ⟨fun c e => (by cases e), h⟩, fun i hi => (by rw [hr] at hi; cases hi)⟩⟩
end
end Go.Art
set_option linter.unusedSimpArgs false
set_option linter.unusedVariables false
namespace Go.Art
open Go Go.RowKit

theorem erase_list (es : Array MapEntry) (j : Nat) : (es.eraseIdxIfInBounds j).toList = es.toList.eraseIdx j := by
  unfold Array.eraseIdxIfInBounds
  split
  · simp
  · rename_i h; rw [List.eraseIdx_of_length_le (by simpa using h)]
theorem Tells.erase {es : Array MapEntry} {clock : Nat} {f : Int → Option Value} (h : Tells es clock f) {j : Nat} {e : MapEntry} (he : es[j]? = some e) {k : Int} (hek : e.key = I k) : Tells (es.eraseIdxIfInBounds j) clock (delF f k) := by
  have hsub : ∀ x, x ∈ (es.eraseIdxIfInBounds j).toList ↔ ∃ i : Nat, i ≠ j ∧ es[i]? = some x := fun x => by
    rw [erase_list, List.mem_eraseIdx_iff_getElem?]; simp
  refine ⟨MapKept.stamped_erase h.st j, fun x hx => ?_, fun k' v => ?_⟩
  · obtain ⟨i, _, hi⟩ := (hsub x).1 hx; exact h.ks x (mem_get.2 ⟨i, hi⟩)
  · unfold delF
    by_cases hkk : k' = k
    · subst hkk
      rw [if_pos rfl]
      constructor
      · intro e; cases e
      · rintro ⟨x, hx, h1, _⟩
        obtain ⟨i, hij, hi⟩ := (hsub x).1 hx
        exact absurd (keys_inj h.st.2.2 hi he (by rw [h1, hek])) hij
    · rw [if_neg hkk, h.to]
      constructor
      · rintro ⟨x, hx, h1, h2⟩
        obtain ⟨i, hi⟩ := mem_get.1 hx
        refine ⟨x, (hsub x).2 ⟨i, fun e' => hkk ?_, hi⟩, h1, h2⟩
        subst e'; rw [he] at hi; cases hi; rw [h1] at hek; injection hek
      · rintro ⟨x, hx, h1, h2⟩
        obtain ⟨i, _, hi⟩ := (hsub x).1 hx
        exact ⟨x, mem_get.2 ⟨i, hi⟩, h1, h2⟩

section
variable {P : Program} {E : Env P} {n : Sh} {Q0 : Exit → Act → World → Prop} {s : List K} {fr : Fr} {w : World} {ops : Array Oper} {rest : List Oper} {d : Nat} {ty : TypeId} {pos : String} {after : Array Edge} {v z : Value} {x y : Operand} {t kt et : TypeId} {b sz by_ : Nat} {f : Int → Option Value} {k : Int}
theorem R_look (ht : lk E.und t = some (.map kt et)) (hk : lk E.und kt = some dI) (hx : ev fr x = some (mp b)) (hy : ev fr y = some (I k)) (hM : MapF w b f) (hf : f k = some v) : OpV P n fr (.lookup t x y false) ty w v w := ⟨fun a ha _ _ _ _ => by
  obtain ⟨es, c, hb, hT⟩ := hM.ex
  rcases hT.find k with ⟨_, h2, _⟩ | ⟨j, e, h1, h2, h3, h4⟩
  · rw [h2] at hf; cases hf
  · rw [h4] at hf; cases hf
    simp only [execOp, ha.ev hx, ha.ev hy]
    simp [Instr.lookup, run_underlying (P := P) (E.un ht), MapKept.run_getObj_map hb, MapKept.run_checkKey (E.un hk) (show MapKept.IsKey dI (I k) from rfl), MapKept.run_findKey (E.un hk) h1]⟩
theorem SO_delete {kt' : TypeId} (ht : lk E.und t = some (.map kt et)) (hk : lk E.und kt = some dI) (hx : ev fr x = some (mp b)) (hy : ev fr y = some (I k)) (hM : MapF w b f)
    (h : ∀ w', Upd w w' [b] → MapF w' b (delF f k) → SO E n Q0 s ops rest fr w') : SO E n Q0 s ops (⟨none, .call ⟨.builtin .delete, #[x, y], #[t, kt']⟩, ty, pos, after, none⟩ :: rest) fr w := by
  obtain ⟨es, c, hb, hT⟩ := hM.ex
  have hK : MapKept.IsKey dI (I k) := rfl
  rcases hT.find k with ⟨h1, h1', h2⟩ | ⟨j, e, h1, h2, h3, h4⟩
  · refine SO_n (v := .tuple #[]) (w' := setO w b (.map es c)) ⟨fun a ha _ _ _ _ => ?_⟩ (h _ (Upd.setO w b _) ⟨_, _, setO_same hb, ?_⟩)
    · simp only [execOp, resolve]
      simp [ha.ev hx, ha.ev hy, invoke, builtin, Builtin.delete_, run_underlying (P := P) (E.un ht), MapKept.run_getObj_map hb, MapKept.run_checkKey (E.un hk) hK, MapKept.run_findKey (E.un hk) h1, MapKept.run_setObj_map _ hb]
      rfl
    · have : delF f k = f := by funext k'; unfold delF; split; (rename_i e; rw [e, h1']); rfl
      rw [this]; exact hT
  · refine SO_n (v := .tuple #[]) (w' := setO w b (.map (es.eraseIdxIfInBounds j) c)) ⟨fun a ha _ _ _ _ => ?_⟩ (h _ (Upd.setO w b _) ⟨_, _, setO_same hb, hT.erase h2 h3⟩)
    simp only [execOp, resolve]
    simp [ha.ev hx, ha.ev hy, invoke, builtin, Builtin.delete_, run_underlying (P := P) (E.un ht), MapKept.run_getObj_map hb, MapKept.run_checkKey (E.un hk) hK, MapKept.run_findKey (E.un hk) h1, MapKept.run_setObj_map _ hb]
    rfl
end

def setK {α : Type} (G : Int → α) (k : Int) (x : α) : Int → α := fun k' => if k' = k then x else G k'
theorem setK_eq {α : Type} (G : Int → α) (k : Int) (x : α) : setK G k x k = x := if_pos rfl
theorem setK_ne {α : Type} (G : Int → α) {k k' : Int} (x : α) (h : k' ≠ k) : setK G k x k' = G k' := if_neg h
/-! ### Maps whose elements are structs of one own slice -/
def one (v : Value) : Value := .agg #[v]
def ones (G : Int → Option Value) : Int → Option Value := fun k => (G k).map one
/-- o: a key whose slice is not meant. -/
structure MowP (T : TypeId) (b : Nat) (G : Int → Option Value) (f : Int → List Int) (o : Option Int) (w : World) : Prop where
  mp : MapF w b (ones G)
  own : ∀ k v, some k ≠ o → G k = some v → OwnO w T v (Is (f k))
  off : ∀ k v, G k = some v → v.ownBlock ≠ some b
  apart : ∀ k v k' v' x, k ≠ k' → G k = some v → G k' = some v' → v.ownBlock = some x → v'.ownBlock ≠ some x
def mow (T : TypeId) (b : Nat) (G : Int → Option Value) (f : Int → List Int) (o : Option Int) : Ch where
  wr := fun x => x = b ∨ ∃ k v, some k ≠ o ∧ G k = some v ∧ v.ownBlock = some x
  rd := fun _ => False
  bd := fun _ => False
  P := MowP T b G f o
  loc := fun {w w'} h hb => by
    refine ⟨?_, fun k v h1 h2 => (h.own k v h1 h2).keep fun x hx => hb x (.inl (.inr ⟨k, v, h1, h2, hx⟩)), h.off, h.apart⟩
    obtain ⟨es, c, h1, h2⟩ := h.mp.ex
    exact ⟨es, c, (hb b (.inl (.inl rfl))).trans h1, h2⟩
  lt := fun h hb => by
    rcases hb with (rfl | ⟨k, v, h1, h2, h3⟩) | hb | hb
    · exact h.mp.lt
    · exact (h.own k v h1 h2).blt h3
    · exact hb.elim
    · exact hb.elim
instance (T : TypeId) (b : Nat) (G : Int → Option Value) (f : Int → List Int) (o : Option Int) : NoB (mow T b G f o) := ⟨fun _ h => h⟩
theorem mow_map {A : List Ch} {T : TypeId} {b : Nat} {G : Int → Option Value} {f : Int → List Int} {o : Option Int} (h : mow T b G f o ∈ A) (w : World) (hw : Sat A w) : MapF w b (ones G) := (hw.h _ h : MowP T b G f o w).mp
theorem OwnO.one {w : World} {e : TypeId} {v : Value} {xs : List Value} (h : OwnO w e v xs) : v.oneCell' = true := by
  rcases h with ⟨rfl, _⟩ | ⟨b, o, cap, cur, rfl, _⟩ <;> rfl
theorem mow_one {A : List Ch} {T : TypeId} {b : Nat} {G : Int → Option Value} {f : Int → List Int} {o : Option Int} (h : mow T b G f o ∈ A) (w : World) (hw : Sat A w) : ∀ k v, some k ≠ o → G k = some v → v.oneCell' = true := fun k v h1 h2 => ((hw.h _ h : MowP T b G f o w).own k v h1 h2).one
theorem mpc_map {A : List Ch} {b : Nat} {f : Int → Option Value} (h : mpc b f ∈ A) (w : World) (hw : Sat A w) : MapF w b f := hw.h (mpc b f) h
/-- One slice is taken out. -/
theorem mow_out (T : TypeId) (b : Nat) (G : Int → Option Value) (f : Int → List Int) {k : Int} {v : Value} (hv : G k = some v) (A : List Ch) : Im (mow T b G f none :: A) (own T v (Is (f k)) :: mow T b G f (some k) :: A) := by
  have hk : some k ≠ (none : Option Int) := nofun
  have hft : ∀ x, (mow T b G f (some k)).ft x → (mow T b G f none).wr x := by
    rintro x ((h | ⟨k', v', h1, h2, h3⟩) | h | h)
    · exact .inl h
    · exact .inr ⟨k', v', nofun, h2, h3⟩
    · exact h.elim
    · exact h.elim
  have hfo : ∀ x, (own T v (Is (f k))).ft x → (mow T b G f none).wr x := by
    rintro x (h | h | h)
    · exact .inr ⟨k, v, hk, hv, h⟩
    · exact h.elim
    · exact h.elim
  refine ⟨fun w hw => ?_, fun x hx => ?_, fun x hx => ?_, fun x hx => ?_⟩
  · obtain ⟨h1, h2, h3⟩ := Sat.cons.1 hw
    have h1' : MowP T b G f none w := h1
    have hAp : Ap (own T v (Is (f k))) (mow T b G f (some k)) := by
      refine ⟨fun x hx hf => ?_, fun x hx hf => ?_⟩
      · rcases hf with (rfl | ⟨k', v', e1, e2, e3⟩) | hf | hf
        · exact h1'.off k v hv hx
        · exact h1'.apart k v k' v' x (fun e => e1 (by rw [e])) hv e2 hx e3
        · exact hf
        · exact hf
      · rcases hf with hf | hf | hf
        · rcases hx with rfl | ⟨k', v', e1, e2, e3⟩
          · exact h1'.off k v hv hf
          · exact h1'.apart k v k' v' x (fun e => e1 (by rw [e])) hv e2 hf e3
        · exact hf
        · exact hf
    refine Sat.cons.2 ⟨h1'.own k v hk hv, fun a ha => ?_, Sat.cons.2 ⟨⟨h1'.mp, fun k' v' e1 e2 => h1'.own k' v' nofun e2, h1'.off, h1'.apart⟩, fun a ha => ?_, h3⟩⟩
    · rcases List.mem_cons.1 ha with rfl | ha
      · exact hAp
      · exact ⟨fun x hx => (h2 a ha).1 x (hfo x (.inl hx)), fun x hx hf => (h2 a ha).2 x hx (.inl (hfo x hf))⟩
    · exact ⟨fun x hx => (h2 a ha).1 x (hft x (.inl hx)), fun x hx hf => (h2 a ha).2 x hx (.inl (hft x hf))⟩
  · obtain ⟨c, hc, h⟩ := hx
    rcases List.mem_cons.1 hc with rfl | hc
    · exact ⟨_, List.mem_cons_self .., hfo x (.inl h)⟩
    · rcases List.mem_cons.1 hc with rfl | hc
      · exact ⟨_, List.mem_cons_self .., hft x (.inl h)⟩
      · exact ⟨c, List.mem_cons_of_mem _ hc, h⟩
  · obtain ⟨c, hc, h⟩ := hx
    rcases List.mem_cons.1 hc with rfl | hc
    · exact h.elim
    · rcases List.mem_cons.1 hc with rfl | hc
      · exact h.elim
      · exact .inr ⟨c, List.mem_cons_of_mem _ hc, h⟩
  · obtain ⟨c, hc, h⟩ := hx
    rcases List.mem_cons.1 hc with rfl | hc
    · exact ⟨_, List.mem_cons_self .., .inl (hfo x h)⟩
    · rcases List.mem_cons.1 hc with rfl | hc
      · exact ⟨_, List.mem_cons_self .., .inl (hft x h)⟩
      · exact ⟨c, List.mem_cons_of_mem _ hc, h⟩

section
variable {P : Program} {E : Env P} {n : Sh} {X : Cx} {s : List K} {fr : Fr} {A A' A2 B F : List Ch} {ops : Array Oper} {rest : List Oper} {d : Nat} {ty : TypeId} {pos : String} {after : Array Edge} {v z : Value} {t T : TypeId} {x y : Operand} {c0 : Code}
  {b : Nat} {f : Int → Option Value} {g : Int → List Int} {G : Int → Option Value} {k : Int} {kt et : TypeId} {sz by_ : Nat}
theorem moS (kk : TO E n X s ops rest ((d, .tuple #[v, .bool true]) :: fr) A) (hf : f k = some v) (hx : ev fr x = some (mp b) := by rfl) (hy : ev fr y = some (I k) := by rfl) (hm : ∀ w, Sat A w → MapF w b f := by first | exact mow_map (by (repeat (first | apply List.Mem.head | apply List.Mem.tail)); first | done | fail) | exact mpc_map (by (repeat (first | apply List.Mem.head | apply List.Mem.tail)); first | done | fail))
    (ht : lk E.und t = some (.map kt et) := by rfl) (hk : lk E.und kt = some dI := by rfl) (hd : Nat.blt d n.n = true := by rfl) : TO E n X s ops (⟨some d, .lookup t x y true, ty, pos, after, none⟩ :: rest) fr A :=
  TO.val (fun w h => R_lookS ht hk hx hy (hm w h) hf) kk hd
theorem moN (kk : TO E n X s ops rest ((d, .tuple #[z, .bool false]) :: fr) A) (hf : f k = none) (hx : ev fr x = some (mp b) := by rfl) (hy : ev fr y = some (I k) := by rfl) (hm : ∀ w, Sat A w → MapF w b f := by first | exact mow_map (by (repeat (first | apply List.Mem.head | apply List.Mem.tail)); first | done | fail) | exact mpc_map (by (repeat (first | apply List.Mem.head | apply List.Mem.tail)); first | done | fail))
    (ht : lk E.und t = some (.map kt et) := by rfl) (hk : lk E.und kt = some dI := by rfl) (he : lk E.inf et = some (z, sz, by_) := by rfl) (hd : Nat.blt d n.n = true := by rfl) : TO E n X s ops (⟨some d, .lookup t x y true, ty, pos, after, none⟩ :: rest) fr A :=
  TO.val (fun w h => R_lookN ht hk he hx hy (hm w h) hf) kk hd
theorem mo (kk : TO E n X s ops rest ((d, v) :: fr) A) (hf : f k = some v) (hx : ev fr x = some (mp b) := by rfl) (hy : ev fr y = some (I k) := by rfl) (hm : ∀ w, Sat A w → MapF w b f := by first | exact mow_map (by (repeat (first | apply List.Mem.head | apply List.Mem.tail)); first | done | fail) | exact mpc_map (by (repeat (first | apply List.Mem.head | apply List.Mem.tail)); first | done | fail))
    (ht : lk E.und t = some (.map kt et) := by rfl) (hk : lk E.und kt = some dI := by rfl) (hd : Nat.blt d n.n = true := by rfl) : TO E n X s ops (⟨some d, .lookup t x y false, ty, pos, after, none⟩ :: rest) fr A :=
  TO.val (fun w h => R_look ht hk hx hy (hm w h) hf) kk hd
/-- A new map. -/
theorem mmo (T : TypeId) (g : Int → List Int) {k1 : IntKind} {m : Int} (h : ∀ b, TO E n X s ops rest ((d, mp b) :: fr) (mow T b (fun _ => none) g none :: A)) (hx : ev fr x = some (.int k1 m) := by rfl) (ht : lk E.und t = some (.map kt et) := by rfl) (hd : Nat.blt d n.n = true := by rfl) :
    TO E n X s ops (⟨some d, .makeMap t (some x), ty, pos, after, none⟩ :: rest) fr A := ⟨fun w hw => by
  have hz : (w.alloc (.map #[] 0)).heap.size = w.heap.size + 1 := by simp
  refine SO_v hd (w' := w.alloc (.map #[] 0)) ⟨fun a ha _ _ _ _ => ?_⟩ ((h w.heap.size).run _ (hw.new (Upd.alloc w _) (c := mow T w.heap.size (fun _ => none) g none) ⟨⟨_, _, heap_alloc_new w _, Tells.nil⟩, fun k v _ e => (by cases e), fun k v e => (by cases e), fun k v k' v' x _ e => (by cases e)⟩ ?_ (fun _ h => h)))
  · simp only [execOp, ha.ev hx]
    simp [ha.ev hx, Instr.makeMap, newObj, Sem.run, run_underlying (P := P) (E.un ht), asInt, asIntOf]
  · rintro y ((rfl | ⟨_, _, _, e, _⟩) | h | h)
    · exact Nat.le_refl _
    · cases e
    · exact h.elim
    · exact h.elim⟩
/-- A key gets a slice that is owned besides: the key's hole is filled, or the key is new. -/
theorem mou {u : Operand} {o : Option Int} {l : List Int} (kk : TO E n X s ops rest fr (mow T b (setK G k (some v)) (setK g k l) none :: A2)) (ho : o = some k ∨ o = none ∧ G k = none) (hx : ev fr x = some (mp b) := by rfl)
    (hm : Tk (mow T b G g o) A A' := by (repeat (first | apply Tk.here | apply Tk.there)); first | done | fail) (hm2 : Tk (own T v (Is l)) A' A2 := by (repeat (first | apply Tk.here | apply Tk.there)); first | done | fail) (hy : ev fr y = some (I k) := by rfl) (hu : ev fr u = some (.agg #[v]) := by rfl)
    (ht : lk E.und t = some (.map kt et) := by rfl) (hk : lk E.und kt = some dI := by rfl) : TO E n X s ops (⟨none, .mapUpdate t x y u, ty, pos, after, none⟩ :: rest) fr A := ⟨fun w hw => by
  have h1 := (hw.im hm).im (Im.cons _ hm2)
  have h2 : MowP T b G g o w := h1.mem (List.Mem.head _)
  have h3 : OwnO w T v (Is l) := h1.mem (List.Mem.tail _ (List.Mem.head _))
  have hap := (Sat.cons.1 h1.sat).2.1 _ (List.Mem.head _)
  refine SO_mapUpdate ht hk hx hy hu h2.mp fun w' hU hM => kk.run w' ?_
  have hkey : ∀ k' v', k' ≠ k → G k' = some v' → some k' ≠ o := fun k' v' hne hv e => by
    rcases ho with rfl | ⟨rfl, _⟩
    · cases e; exact hne rfl
    · cases e
  have hvb : v.ownBlock ≠ some b := fun e => hap.1 b (.inl rfl) (.inl e)
  have hvk : ∀ k' v' x, k' ≠ k → G k' = some v' → v'.ownBlock = some x → v.ownBlock ≠ some x := fun k' v' x hne hv e1 e2 => hap.1 x (.inr ⟨k', v', hkey k' v' hne hv, hv, e1⟩) (.inl e2)
  refine h1.step (A := [mow T b G g o, own T v (Is l)]) (B := [_]) (F := A2) (Mv.upd hU (fun y hy => .inl ⟨mow T b G g o, by simp, .inl (List.mem_singleton.1 hy)⟩) ?_ (fun y hy => by have := rds_one.1 hy; exact this.elim)) (Sat.one ?_) (by simp [mow])
  · intro y hy
    rcases wrs_one.1 hy with e | ⟨k', v', _, e1, e2⟩
    · exact .inl ⟨mow T b G g o, by simp, .inl e⟩
    · by_cases hkk : k' = k
      · rw [hkk, setK_eq] at e1; cases e1; exact .inl ⟨own T v (Is l), by simp, e2⟩
      · rw [setK_ne _ _ hkk] at e1; exact .inl ⟨mow T b G g o, by simp, .inr ⟨k', v', hkey k' v' hkk e1, e1, e2⟩⟩
  · refine ⟨?_, fun k' v' _ e1 => ?_, fun k' v' e1 => ?_, fun k1 v1 k2 v2 y hne e1 e2 e3 e4 => ?_⟩
    · have e : ones (setK G k (some v)) = updF (ones G) k (.agg #[v]) := by
        funext k'; unfold ones updF; by_cases hkk : k' = k
        · rw [if_pos hkk, hkk, setK_eq]; rfl
        · rw [if_neg hkk, setK_ne _ _ hkk]
      rw [e]; exact hM
    · by_cases hkk : k' = k
      · rw [hkk, setK_eq] at e1 ⊢; cases e1; exact h3.keep fun y hy => hU.block y (h3.blt hy) (fun e => hvb (by rw [hy]; rw [List.mem_singleton.1 e]))
      · rw [setK_ne _ _ hkk] at e1 ⊢
        have h4 := h2.own k' v' (hkey k' v' hkk e1) e1
        exact h4.keep fun y hy => hU.block y (h4.blt hy) (fun e => h2.off k' v' e1 (by rw [hy]; rw [List.mem_singleton.1 e]))
    · by_cases hkk : k' = k
      · rw [hkk, setK_eq] at e1; cases e1; exact hvb
      · rw [setK_ne _ _ hkk] at e1; exact h2.off k' v' e1
    · by_cases hk1 : k1 = k
      · rw [hk1, setK_eq] at e1; cases e1
        rw [setK_ne _ _ (fun e => hne (by rw [hk1, e]))] at e2
        exact hvk k2 v2 y (fun e => hne (by rw [hk1, e])) e2 e4 e3
      · rw [setK_ne _ _ hk1] at e1
        by_cases hk2 : k2 = k
        · rw [hk2, setK_eq] at e2; cases e2; exact hvk k1 v1 y hk1 e1 e3 e4
        · rw [setK_ne _ _ hk2] at e2; exact h2.apart k1 v1 k2 v2 y hne e1 e2 e3 e4⟩
/-- A key is removed; its slice is owned besides. -/
theorem mod {kt' : TypeId} (kk : TO E n X s ops rest fr (mow T b (setK G k none) g none :: A')) (hx : ev fr x = some (mp b) := by rfl) (hy : ev fr y = some (I k) := by rfl) (hm : Tk (mow T b G g (some k)) A A' := by (repeat (first | apply Tk.here | apply Tk.there)); first | done | fail)
    (ht : lk E.und t = some (.map kt et) := by rfl) (hk : lk E.und kt = some dI := by rfl) : TO E n X s ops (⟨none, .call ⟨.builtin .delete, #[x, y], #[t, kt']⟩, ty, pos, after, none⟩ :: rest) fr A := ⟨fun w hw => by
  have h1 := hw.im hm
  have h2 : MowP T b G g (some k) w := h1.mem (List.Mem.head _)
  refine SO_delete ht hk hx hy h2.mp fun w' hU hM => kk.run w' (h1.set hU (fun y hy => .inl (.inl (List.mem_singleton.1 hy))) ?_ ?_ (fun _ h => h))
  · refine ⟨?_, fun k' v' _ e1 => ?_, fun k' v' e1 => ?_, fun k1 v1 k2 v2 y hne e1 e2 => ?_⟩
    · have e : ones (setK G k none) = delF (ones G) k := by
        funext k'; unfold ones delF; by_cases hkk : k' = k
        · rw [if_pos hkk, hkk, setK_eq]; rfl
        · rw [if_neg hkk, setK_ne _ _ hkk]
      rw [e]; exact hM
    · by_cases hkk : k' = k
      · rw [hkk, setK_eq] at e1; cases e1
      · rw [setK_ne _ _ hkk] at e1
        have h4 := h2.own k' v' (fun e => hkk (by cases e; rfl)) e1
        exact h4.keep fun y hy => hU.block y (h4.blt hy) (fun e => h2.off k' v' e1 (by rw [hy]; rw [List.mem_singleton.1 e]))
    · by_cases hkk : k' = k
      · rw [hkk, setK_eq] at e1; cases e1
      · rw [setK_ne _ _ hkk] at e1; exact h2.off k' v' e1
    · by_cases hk1 : k1 = k
      · rw [hk1, setK_eq] at e1; cases e1
      · rw [setK_ne _ _ hk1] at e1
        by_cases hk2 : k2 = k
        · rw [hk2, setK_eq] at e2; cases e2
        · rw [setK_ne _ _ hk2] at e2; exact h2.apart k1 v1 k2 v2 y hne e1 e2
  · rintro y ((e | ⟨k', v', _, e1, e2⟩) | h | h)
    · exact .inl (.inl e)
    · by_cases hkk : k' = k
      · rw [hkk, setK_eq] at e1; cases e1
      · rw [setK_ne _ _ hkk] at e1; exact .inl (.inr ⟨k', v', fun e => hkk (by cases e; rfl), e1, e2⟩)
    · exact h.elim
    · exact h.elim⟩
end
end Go.Art
