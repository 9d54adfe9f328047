/- The proof calculus of this claim: known slots of a frame, code with a stack of what follows, one rule an operation. Conditions: none. -/
import Derived.WalkKit
import Derived.Deep.Quiet
import Derived.OrdersIn
import Derived.RangeFuncRecord
set_option linter.unusedSimpArgs false
set_option linter.unusedVariables false
namespace Go.Art
open Go

/-- Known slots. -/
abbrev Fr := List (Nat × Value)

theorem nbeq_f {a b : Nat} (h : ¬ a = b) : Nat.beq a b = false := by
  cases hb : Nat.beq a b with
  | false => rfl
  | true => exact absurd (Nat.eq_of_beq_eq_true hb) h
theorem nbeq_ne {a b : Nat} (h : Nat.beq a b = false) : ¬ a = b := fun e => by subst e; rw [Nat.beq_refl] at h; cases h
theorem lt_nblt {a b : Nat} (h : a < b) : Nat.blt a b = true := Nat.ble_eq_true_of_le h
theorem nblt_lt {a b : Nat} (h : Nat.blt a b = true) : a < b := Nat.le_of_ble_eq_true h

def get : Fr → Nat → Option Value
  | [], _ => none
  | (t, v) :: r, s => bif Nat.beq t s then some v else get r s

/-- What a frame is: how many slots, the marks among its deferred calls, the loop over a function in whose round it runs. -/
structure Sh where
  n : Nat
  ds : List Deferred
  r : Option Nat
/-- Every function, at whatever depth. -/
def FF (r : Option Nat) : Fence := { fn := fun _ => True, depth := none, alive := false, round := r }

structure Holds (n : Sh) (a : Act) (fr : Fr) : Prop where
  size : a.tmps.size = n.n
  defers : a.defers = n.ds
  slot : ∀ t v, get fr t = some v → a.tmps.getD t undef = v

def ev (fr : Fr) : Operand → Option Value
  | .tmp t => get fr t
  | .const v => some v
  | .global g => some (.pointer (some ⟨g, 0, none⟩))
  | .func f => some (.func (.func f) #[] #[])

def evs (fr : Fr) : List Operand → Option (List Value)
  | [] => some []
  | x :: r => match ev fr x with
    | some v => match evs fr r with
      | some vs => some (v :: vs)
      | none => none
    | none => none

theorem Holds.ev {n : Sh} {a : Act} {fr : Fr} (h : Holds n a fr) {x : Operand} {v : Value} (e : ev fr x = some v) : a.eval x = v := by
  cases x with
  | tmp t => exact h.slot t v e
  | const u => simpa [Art.ev, Act.eval] using e
  | global g => simpa [Art.ev, Act.eval] using e
  | func f => simpa [Art.ev, Act.eval] using e

theorem Holds.evs {n : Sh} {a : Act} {fr : Fr} (h : Holds n a fr) : ∀ {xs : List Operand} {vs : List Value}, evs fr xs = some vs → xs.map a.eval = vs
  | [], vs, e => by simp [Art.evs] at e; simp [e]
  | x :: r, vs, e => by
    simp only [Art.evs] at e
    split at e
    · rename_i v hv
      split at e
      · rename_i us hus
        simp only [Option.some.injEq] at e
        subst e
        simp [h.ev hv, Holds.evs h hus]
      · cases e
    · cases e

theorem Holds.put {n : Sh} {a : Act} {fr : Fr} (h : Holds n a fr) {d : Nat} (hd : Nat.blt d n.n = true) (v : Value) : Holds n (a.put (some d) v) ((d, v) :: fr) := by
  have hd' : d < n.n := nblt_lt hd
  refine ⟨by simp [Act.put, h.size], by simp [Act.put, h.defers], fun t u hu => ?_⟩
  simp only [get] at hu
  by_cases hdt : d = t
  · subst hdt
    simp at hu
    subst hu
    have hs := h.size
    simp [Act.put, Array.getD_eq_getD_getElem?, Array.getElem?_setIfInBounds, hs, hd']
  · have : (Nat.beq d t) = false := nbeq_f hdt
    simp only [this, cond_false] at hu
    have := h.slot t u hu
    simpa [Act.put, Array.getD_eq_getD_getElem?, Array.getElem?_setIfInBounds, hdt] using this

/-- What is wanted is known: the first list's slots stand in the second. -/
def Sub (fr' fr : Fr) : Prop := ∀ t v, get fr' t = some v → get fr t = some v

theorem Sub.nil {fr : Fr} : Sub [] fr := fun _ _ h => by simp [get] at h
theorem Sub.cons {fr r : Fr} {t : Nat} {v v' : Value} (h : get fr t = some v') (e : v' = v) (hr : Sub r fr) : Sub ((t, v) :: r) fr := by
  intro s u hs
  simp only [get] at hs
  by_cases hts : t = s
  · subst hts; simp at hs; subst hs; rw [h, e]
  · have : (Nat.beq t s) = false := nbeq_f hts
    simp only [this, cond_false] at hs
    exact hr s u hs
theorem Holds.sub {n : Sh} {a : Act} {fr fr' : Fr} (h : Holds n a fr) (s : Sub fr' fr) : Holds n a fr' :=
  ⟨h.size, h.defers, fun t v e => h.slot t v (s t v e)⟩

/-- What follows. -/
inductive K where
  | code (y : Code)
  | block (id : Nat)
  | loop (L : Act → World → Prop)

def den (P : Program) (r : Option Nat) (Q0 : Exit → Act → World → Prop) : List K → Exit → Act → World → Prop
  | [] => Q0
  | .code y :: s => Exit.then (y.wpIn (FF r) 0 P (den P r Q0 s)) (den P r Q0 s)
  | .block id :: s => Exit.inBlock id (den P r Q0 s)
  | .loop L :: s => Exit.then L (den P r Q0 s)

/-- The tables that a walk looks into: types and their rows. -/
def lk {α : Type} : List (Nat × α) → Nat → Option α
  | [], _ => none
  | (t, v) :: r, s => bif Nat.beq t s then some v else lk r s

theorem lk_mem {α : Type} : ∀ {l : List (Nat × α)} {s : Nat} {x : α}, lk l s = some x → (s, x) ∈ l
  | [], _, _, h => by simp [lk] at h
  | (pt, pv) :: r, s, x, h => by
    simp only [lk] at h
    by_cases hp : pt = s
    · subst hp; simp at h; subst h; simp
    · have : (Nat.beq pt s) = false := nbeq_f hp
      simp only [this, cond_false] at h
      exact List.mem_cons_of_mem _ (lk_mem h)

structure Env (P : Program) where
  und : List (Nat × TypeDesc)
  und_ok : ∀ p ∈ und, P.underlying p.1 = some p.2
  inf : List (Nat × (Value × Nat × Nat))
  inf_ok : ∀ p ∈ inf, (P.info? p.1).map (fun i => (i.zero, i.size, i.bytes)) = some (some p.2.1, p.2.2.1, p.2.2.2)
  mixed : P.follows .mixedOrders = true

theorem Env.un {P : Program} (E : Env P) {t : Nat} {d : TypeDesc} (h : lk E.und t = some d) : P.underlying t = some d := E.und_ok _ (lk_mem h)
theorem Env.info {P : Program} (E : Env P) {t : Nat} {z : Value} {s b : Nat} (h : lk E.inf t = some (z, s, b)) : ∃ i, P.info? t = some i ∧ i.zero = some z ∧ i.size = s ∧ i.bytes = b :=
  info_parts (E.inf_ok _ (lk_mem h))

section
structure SC {P : Program} (_E : Env P) (n : Sh) (Q0 : Exit → Act → World → Prop) (s : List K) (c : Code) (fr : Fr) (w : World) : Prop where
  run : ∀ a, Holds n a fr → c.wpIn (FF n.r) 0 P (den P n.r Q0 s) a w
structure SX {P : Program} (_E : Env P) (n : Sh) (Q0 : Exit → Act → World → Prop) (s : List K) (e : Exit) (fr : Fr) (w : World) : Prop where
  run : ∀ a, Holds n a fr → den P n.r Q0 s e a w
structure SO {P : Program} (_E : Env P) (n : Sh) (Q0 : Exit → Act → World → Prop) (s : List K) (ops : Array Oper) (l : List Oper) (fr : Fr) (w : World) : Prop where
  run : ∀ a, Holds n a fr → wpListIn (FF n.r) 0 P ops (den P n.r Q0 s) l a w
structure SQ {P : Program} (_E : Env P) (n : Sh) (Q0 : Exit → Act → World → Prop) (s : List K) (C : World → Prop) (ops : Array Oper) (l : List Oper) (fr : Fr) : Prop where
  run : ∀ a, Holds n a fr → wpQuiet P ops C (fun a' => ∀ w', C w' → den P n.r Q0 s .normal a' w') l a
end

/-! ### Drawn regions that are quiet, in whatever frame -/
theorem callsFF {P : Program} {r : Option Nat} {k : Nat} {f : FuncId} {args : Array Value} {w : World} {R : Ending → World → Prop} (h : Calls P f args w R) : CallsIn (FF r) k P f args w R := (callsIn_wide (n := k)).2 h
theorem calls_of_FF {P : Program} {r : Option Nat} {k : Nat} {f : FuncId} {args : Array Value} {w : World} {R : Ending → World → Prop} (h : CallsIn (FF r) k P f args w R) : Calls P f args w R := (callsIn_wide (n := k)).1 h
theorem roomFF {r : Option Nat} {k : Nat} : (FF r).room k := fun d hd => by cases hd
section
variable {P : Program} {ops : Array Oper} {md : Region.Mode} {C : World → Prop} {r : Option Nat}
theorem semAt_run {o : Oper} {a : Act} {w w' : World} {x : Next} (h : (execOp a.eval o).run P w = .ok x w') (hx : ∀ d, x ≠ .defer d) : (o.semAt r a.eval).run P w = .ok x w' := by
  by_cases hd : ∃ c, o.op = .defer c
  · obtain ⟨c, hc⟩ := hd
    exfalso
    simp only [execOp, hc] at h
    simp only [Sem.run_bind] at h
    cases hr : (resolve a.eval c o.type).run P w with
    | ok d w1 => rw [hr] at h; simp only [Result.andThen_ok, Sem.run_pure, Result.ok.injEq] at h; exact hx d h.1.symm
    | halt e w1 => rw [hr] at h; simp at h
  · rw [Oper.semAt_eq r a.eval o (fun c hc => hd ⟨c, hc⟩)]; exact h
theorem wpIn_of_quiet {o : Oper} {a : Act} {K : Act → Prop} {K' : Act → World → Prop} {Q' : Exit → Act → World → Prop} {w : World} (hw : C w) (h : ∀ a w', C w' → K a → K' a w') (hh : o.quiet P a C K) : o.wpIn (FF r) 0 P a w K' Q' := by
  obtain ⟨v, h1, h2⟩ := hh
  have h3 := h1 w hw
  refine ⟨fun _ _ => trivial, ?_⟩
  unfold Oper.quietAt at h3
  cases hr : (execOp a.eval o).run P w with
  | ok x w' =>
    rw [hr] at h3
    have hx : ∀ d, x ≠ .defer d := fun d e => by subst e; exact h3
    rw [semAt_run hr hx]
    cases x <;> simp only [Oper.quietUpon] at h3 <;> simp only [Oper.uponIn]
    case value u =>
      obtain ⟨e1, e2⟩ := h3
      rw [e1, e2]
      exact h _ _ hw h2
    case skip =>
      obtain ⟨e1, e2⟩ := h3
      rw [e1, ← e2]
      exact h _ _ hw h2
    case enter f args =>
      obtain ⟨e1, hc⟩ := h3
      rw [e1]
      refine ⟨fun e => (by cases e), ?_⟩
      exact callsFF (hc.mono fun e w'' ⟨he, hw''⟩ => by subst he; exact h _ _ hw'' h2)
  | halt x w' => rw [hr] at h3; simp only [Oper.quietUpon] at h3
theorem wpOpIn_of_qOp {i : Nat} {a : Act} {K : Act → Prop} {K' : Act → World → Prop} {Q' : Exit → Act → World → Prop} {w : World} (hC : C w) (h : ∀ a w', C w' → K a → K' a w') (hh : qOp P ops C i K a) : wpOpIn (FF r) 0 P ops Q' i K' a w := by
  unfold qOp at hh
  unfold wpOpIn
  split
  · rename_i ho; simp only [ho] at hh; exact h _ _ hC hh
  · rename_i o ho
    simp only [ho] at hh
    split
    · rename_i hw; simp only [hw, if_true] at hh; exact wpIn_of_quiet hC h hh
    · rename_i hw; simp only [hw] at hh; exact ⟨fun _ _ => trivial, h _ _ hC hh⟩
theorem wpAnyIn_of_quiet {Q : Act → Prop} {Q' : Exit → Act → World → Prop} (hQ : ∀ a w, C w → Q a → Q' .normal a w) : ∀ (fuel : Nat) (listed : Array Bool) (a : Act) (w : World), C w →
    wpAnyQ P md ops C Q fuel listed a → wpAnyIn (FF r) 0 P md ops Q' fuel listed a w
  | 0, _, _, _, hw, h => ⟨h.1, hQ _ _ hw h.2⟩
  | fuel + 1, _, _, _, hw, h => ⟨fun h0 => hQ _ _ hw (h.1 h0), fun i hi => wpOpIn_of_qOp hw (fun a' w' hw' => wpAnyIn_of_quiet hQ fuel _ a' w' hw') (h.2 i hi)⟩
theorem wpIn_region_quietF {id : Nat} {Q : Exit → Act → World → Prop} {a : Act} {w : World} (hm : P.follows .mixedOrders = true) (hB : Region.lexB .any ops = true) (hC : C { w with drawn := w.drawn + 1 })
    (h : wpQuiet P ops C (fun a' => ∀ w', C w' → Q .normal a' w') ops.toList a) : (Code.region id ops true).wpIn (FF r) 0 P Q a w := by
  simp only [Region.lexB, Bool.and_eq_true] at hB
  refine wpIn_region_any hm (wpAnyIn_of_quiet (Q := fun a' => ∀ w', C w' → Q .normal a' w') (fun _ w' hw' h => h w' hw') _ _ _ _ hC ?_)
  have := wpAnyQ_lex (C := C) (md := .any) hB.1 ops.toList 0 (Array.replicate ops.size false) a (by simp) (by simpa using hB.2) h
  simpa using this
end

section
variable {P : Program} {E : Env P} {n : Sh} {Q0 : Exit → Act → World → Prop} {s : List K} {fr : Fr} {w : World}

theorem SC_seq {a b : Code} (h : SC E n Q0 (.code b :: s) a fr w) : SC E n Q0 s (.seq a b) fr w := ⟨fun x hx => wpIn_seq (h.run x hx)⟩
theorem SC_skip (h : SX E n Q0 s .normal fr w) : SC E n Q0 s .skip fr w := ⟨fun x hx => wpIn_skip (h.run x hx)⟩
theorem SC_ret (h : SX E n Q0 s .ret fr w) : SC E n Q0 s .ret fr w := ⟨fun x hx => wpIn_ret (h.run x hx)⟩
theorem SC_exit {id : Nat} (h : SX E n Q0 s (.exit id) fr w) : SC E n Q0 s (.exit id) fr w := ⟨fun x hx => wpIn_exit (h.run x hx)⟩
theorem SC_block {id : Nat} {c : Code} (h : SC E n Q0 (.block id :: s) c fr w) : SC E n Q0 s (.block id c) fr w := ⟨fun x hx => wpIn_block (h.run x hx)⟩
theorem SC_cond_t {c : Operand} {x y : Code} (hc : ev fr c = some (.bool true)) (h : SC E n Q0 s x fr w) : SC E n Q0 s (.cond c x y) fr w :=
⟨fun a ha => wpIn_cond_true (ha.ev hc) (h.run a ha)⟩
theorem SC_cond_f {c : Operand} {x y : Code} (hc : ev fr c = some (.bool false)) (h : SC E n Q0 s y fr w) : SC E n Q0 s (.cond c x y) fr w :=
⟨fun a ha => wpIn_cond_false (ha.ev hc) (h.run a ha)⟩
theorem SC_cond {c : Operand} {x y : Code} {t : Bool} (hc : ev fr c = some (.bool t)) (h1 : t = true → SC E n Q0 s x fr w) (h2 : t = false → SC E n Q0 s y fr w) :
    SC E n Q0 s (.cond c x y) fr w :=
⟨fun a ha => wpIn_cond_split (ha.ev hc) (fun h => (h1 h).run a ha) (fun h => (h2 h).run a ha)⟩
theorem SC_region {id : Nat} {l : List Oper} (h : SO E n Q0 s l.toArray l fr w) : SC E n Q0 s (.region id l.toArray false) fr w :=
⟨fun a ha => wpIn_region_lit (h.run a ha)⟩
theorem SC_regionQ {id : Nat} {l : List Oper} (C : World → Prop) (hB : Region.lexB .any l.toArray = true) (hC : C { w with drawn := w.drawn + 1 })
    (h : SQ E n Q0 s C l.toArray l fr) : SC E n Q0 s (.region id l.toArray true) fr w :=
⟨fun a ha => wpIn_region_quietF E.mixed hB hC (by simpa using h.run a ha)⟩
theorem SC_sub {c : Code} (fr' : Fr) (hs : Sub fr' fr) (h : SC E n Q0 s c fr' w) : SC E n Q0 s c fr w := ⟨fun a ha => h.run a (ha.sub hs)⟩
theorem SX_sub {e : Exit} (fr' : Fr) (hs : Sub fr' fr) (h : SX E n Q0 s e fr' w) : SX E n Q0 s e fr w := ⟨fun a ha => h.run a (ha.sub hs)⟩
theorem SO_sub {ops : Array Oper} {l : List Oper} (fr' : Fr) (hs : Sub fr' fr) (h : SO E n Q0 s ops l fr' w) : SO E n Q0 s ops l fr w := ⟨fun a ha => h.run a (ha.sub hs)⟩

theorem SX_code {y : Code} (h : SC E n Q0 s y fr w) : SX E n Q0 (.code y :: s) .normal fr w := ⟨fun a ha => h.run a ha⟩
theorem SX_code_exit {y : Code} {id : Nat} (h : SX E n Q0 s (.exit id) fr w) : SX E n Q0 (.code y :: s) (.exit id) fr w := ⟨fun a ha => h.run a ha⟩
theorem SX_code_ret {y : Code} (h : SX E n Q0 s .ret fr w) : SX E n Q0 (.code y :: s) .ret fr w := ⟨fun a ha => h.run a ha⟩
theorem SX_block {id : Nat} (h : SX E n Q0 s .normal fr w) : SX E n Q0 (.block id :: s) .normal fr w := ⟨fun a ha => h.run a ha⟩
theorem SX_block_hit {id : Nat} (h : SX E n Q0 s .normal fr w) : SX E n Q0 (.block id :: s) (.exit id) fr w := ⟨fun a ha => by
  simp only [den, Exit.inBlock, if_true]; exact h.run a ha⟩
theorem SX_block_miss {id id' : Nat} (hne : Nat.beq id' id = false) (h : SX E n Q0 s (.exit id') fr w) : SX E n Q0 (.block id :: s) (.exit id') fr w := ⟨fun a ha => by
  have : ¬ id' = id := nbeq_ne hne
  simp only [den, Exit.inBlock, this, if_false]; exact h.run a ha⟩
theorem SX_block_ret {id : Nat} (h : SX E n Q0 s .ret fr w) : SX E n Q0 (.block id :: s) .ret fr w := ⟨fun a ha => h.run a ha⟩
theorem SX_loop_exit {L : Act → World → Prop} {id : Nat} (h : SX E n Q0 s (.exit id) fr w) : SX E n Q0 (.loop L :: s) (.exit id) fr w := ⟨fun a ha => h.run a ha⟩
theorem SX_loop_ret {L : Act → World → Prop} (h : SX E n Q0 s .ret fr w) : SX E n Q0 (.loop L :: s) .ret fr w := ⟨fun a ha => h.run a ha⟩

/-- What a round must come to again: the loop's relation at a ghost of a lower measure. -/
def LoopK (n : Sh) {ι : Type} (inv : ι → Fr) (I : ι → World → Prop) (μ : ι → Nat) (i : ι) (a : Act) (w : World) : Prop :=
  ∃ i', I i' w ∧ Holds n a (inv i') ∧ μ i' < μ i

theorem SC_loop {c : Code} {ι : Type} (inv : ι → Fr) (I : ι → World → Prop) (μ : ι → Nat) (i0 : ι) (h0 : I i0 w) (hs : Sub (inv i0) fr)
    (round : ∀ i w, I i w → SC E n Q0 (.loop (LoopK n inv I μ i) :: s) c (inv i) w) : SC E n Q0 s (.loop c) fr w := by
  refine ⟨fun a ha b k cs hro hb hr => ?_⟩
  have key : ∀ m i a w, μ i = m → I i w → Holds n a (inv i) →
      ∃ e a' w', den P n.r Q0 s e a' w' ∧ ArrivesIn (Machine.fenced P (FF n.r)) P (lone (b.atR a (.code c :: .inLoop c :: k)) cs w) b k cs e a' w' := by
    intro m
    induction m using Nat.strongRecOn with
    | _ m ih =>
      intro i a w hm hI hh
      obtain ⟨e, a₁, w₁, hq, harr⟩ := (round i w hI).run a hh b (.inLoop c :: k) cs hro hb hr
      cases e with
      | normal =>
        obtain ⟨i', hI', hh', hlt⟩ := hq
        obtain ⟨e₂, a₂, w₂, hq₂, harr₂⟩ := ih (μ i') (hm ▸ hlt) i' a₁ w₁ rfl hI' hh'
        exact ⟨e₂, a₂, w₂, hq₂, .of_steps (StepsIn.trans harr (.one (fenced_calm hb hr rfl) stepR_inLoop)) harr₂⟩
      | exit id => exact ⟨_, a₁, w₁, hq, .pass (x := .inLoop c) rfl (fun _ _ => .inl (by simp)) harr⟩
      | goto l => exact ⟨_, a₁, w₁, hq, .pass (x := .inLoop c) rfl (fun _ _ => .inl (by simp)) harr⟩
      | ret => exact ⟨_, a₁, w₁, hq, .pass (x := .inLoop c) rfl (fun _ _ => .inl (by simp)) harr⟩
      | panic ch => exact ⟨_, a₁, w₁, hq, .pass (x := .inLoop c) rfl (fun _ _ => .inl (by simp)) harr⟩
      | outgrown => exact ⟨_, a₁, w₁, hq, .pass (x := .inLoop c) rfl (fun _ _ => .inl (by simp)) harr⟩
  obtain ⟨e, a', w', hq, harr⟩ := key _ i0 a w rfl h0 (ha.sub hs)
  exact ⟨e, a', w', hq, .of_steps (.one (fenced_calm hb hr rfl) stepR_loop) harr⟩

theorem SX_loop {ι : Type} {inv : ι → Fr} {I : ι → World → Prop} {μ : ι → Nat} {i : ι} (i' : ι) (h : I i' w) (hs : Sub (inv i') fr) (hlt : μ i' < μ i) :
    SX E n Q0 (.loop (LoopK n inv I μ i) :: s) .normal fr w := ⟨fun _ ha => ⟨i', h, ha.sub hs, hlt⟩⟩

/-! ### Operations -/
theorem SO_nil {ops : Array Oper} (h : SX E n Q0 s .normal fr w) : SO E n Q0 s ops [] fr w := ⟨fun a ha => h.run a ha⟩

/-- In the frames that hold 'fr', in the world w, the operation yields the value v and leaves w'. -/
structure OpV (P : Program) (n : Sh) (fr : Fr) (o : Op) (ty : TypeId) (w : World) (v : Value) (w' : World) : Prop where
  run : ∀ a, Holds n a fr → ∀ dst pos after g, (execOp a.eval ⟨dst, o, ty, pos, after, g⟩).run P w = .ok (.value v) w'
/-- .. yields nothing. -/
structure OpU (P : Program) (n : Sh) (fr : Fr) (o : Op) (ty : TypeId) (w : World) (w' : World) : Prop where
  run : ∀ a, Holds n a fr → ∀ dst pos after g, (execOp a.eval ⟨dst, o, ty, pos, after, g⟩).run P w = .ok .skip w'

variable {ops : Array Oper} {rest : List Oper} {d : Nat} {o : Op} {ty : TypeId} {pos : String} {after : Array Edge} {w' : World} {v : Value}

theorem SO_v (hd : Nat.blt d n.n = true) (hr : OpV P n fr o ty w v w') (h : SO E n Q0 s ops rest ((d, v) :: fr) w') :
    SO E n Q0 s ops (⟨some d, o, ty, pos, after, none⟩ :: rest) fr w := ⟨fun a ha =>
  wpListIn_plain rfl fun K hK => ⟨fun _ _ => trivial, by rw [semAt_run (hr.run a ha _ _ _ _) (fun _ e => by cases e)]; exact hK _ _ (h.run _ (ha.put hd v))⟩⟩
theorem SO_n (hr : OpV P n fr o ty w v w') (h : SO E n Q0 s ops rest fr w') :
    SO E n Q0 s ops (⟨none, o, ty, pos, after, none⟩ :: rest) fr w := ⟨fun a ha =>
  wpListIn_plain rfl fun K hK => ⟨fun _ _ => trivial, by rw [semAt_run (hr.run a ha _ _ _ _) (fun _ e => by cases e)]; exact hK _ _ (h.run _ ha)⟩⟩
theorem SO_u (hr : OpU P n fr o ty w w') (h : SO E n Q0 s ops rest fr w') :
    SO E n Q0 s ops (⟨none, o, ty, pos, after, none⟩ :: rest) fr w := ⟨fun a ha =>
  wpListIn_plain rfl fun K hK => ⟨fun _ _ => trivial, by rw [semAt_run (hr.run a ha _ _ _ _) (fun _ e => by cases e)]; exact hK _ _ (h.run _ ha)⟩⟩
theorem SO_ud (hd : Nat.blt d n.n = true) (hr : OpU P n fr o ty w w') (h : SO E n Q0 s ops rest ((d, undef) :: fr) w') :
    SO E n Q0 s ops (⟨some d, o, ty, pos, after, none⟩ :: rest) fr w := ⟨fun a ha =>
  wpListIn_plain rfl fun K hK => ⟨fun _ _ => trivial, by rw [semAt_run (hr.run a ha _ _ _ _) (fun _ e => by cases e)]; exact hK _ _ (h.run _ (ha.put hd undef))⟩⟩

theorem yielded_of {a : Act} (ha : Holds n a fr) {j dj : Nat} {b : Bool} (hd : (ops[j]?).bind (·.dst) = some dj) (hg : get fr dj = some (.bool b)) (hlt : Nat.blt dj n.n = true) :
    yielded ops a.tmps j = some b := by
  have hlt' : dj < n.n := nblt_lt hlt
  have h1 := ha.slot dj _ hg
  have hs := ha.size
  unfold yielded
  rw [hd]
  simp only [Option.bind_some]
  have : a.tmps[dj]? = some (.bool b) := by
    rw [Array.getD_eq_getD_getElem?] at h1
    have hb : a.tmps[dj]? = some a.tmps[dj] := Array.getElem?_eq_getElem (by omega)
    rw [hb] at h1 ⊢
    simpa using h1
  rw [this]

theorem yielded_u {a : Act} (ha : Holds n a fr) {j dj : Nat} (hd : (ops[j]?).bind (·.dst) = some dj) (hg : get fr dj = some undef) (hlt : Nat.blt dj n.n = true) :
    yielded ops a.tmps j = none := by
  have hlt' : dj < n.n := nblt_lt hlt
  have h1 := ha.slot dj _ hg
  have hs := ha.size
  unfold yielded
  rw [hd]
  simp only [Option.bind_some]
  have : a.tmps[dj]? = some undef := by
    rw [Array.getD_eq_getD_getElem?] at h1
    have hb : a.tmps[dj]? = some a.tmps[dj] := Array.getElem?_eq_getElem (by omega)
    rw [hb] at h1 ⊢
    simpa using h1
  rw [this]
  rfl
/-- A guarded operation whose guard was not run. -/
theorem SO_nu {dd j dj : Nat} {b' : Bool} (hd : (ops[j]?).bind (·.dst) = some dj) (hg : get fr dj = some undef) (hlt : Nat.blt dj n.n = true) (hdd : Nat.blt dd n.n = true)
    (h : SO E n Q0 s ops rest ((dd, undef) :: fr) w) : SO E n Q0 s ops (⟨some dd, o, ty, pos, after, some (j, b')⟩ :: rest) fr w := ⟨fun a ha => by
  have hy := yielded_u ha hd hg hlt
  simp only [wpListIn, Region.wanted, hy]
  have : ((none : Option Bool) == some b') = false := by cases b' <;> rfl
  simp only [this, Bool.false_eq_true, if_false]
  exact ⟨fun _ _ => trivial, h.run _ (ha.put hdd undef)⟩⟩
/-- A guarded operation whose guard says yes. -/
theorem SO_yes {dst : Option Nat} {j dj : Nat} {b : Bool} (hd : (ops[j]?).bind (·.dst) = some dj) (hg : get fr dj = some (.bool b)) (hlt : Nat.blt dj n.n = true)
    (h : SO E n Q0 s ops (⟨dst, o, ty, pos, after, none⟩ :: rest) fr w) : SO E n Q0 s ops (⟨dst, o, ty, pos, after, some (j, b)⟩ :: rest) fr w := ⟨fun a ha => by
  have hy := yielded_of ha hd hg hlt
  have := h.run a ha
  simp only [wpListIn, Region.wanted, if_true] at this
  simp only [wpListIn, Region.wanted, hy, beq_self_eq_true, if_true]
  exact this⟩
/-- A guarded operation whose guard says no. -/
theorem SO_no {dd j dj : Nat} {b b' : Bool} (hd : (ops[j]?).bind (·.dst) = some dj) (hg : get fr dj = some (.bool b)) (hlt : Nat.blt dj n.n = true) (hb : b = !b') (hdd : Nat.blt dd n.n = true)
    (h : SO E n Q0 s ops rest ((dd, undef) :: fr) w) : SO E n Q0 s ops (⟨some dd, o, ty, pos, after, some (j, b')⟩ :: rest) fr w := ⟨fun a ha => by
  have hy := yielded_of ha hd hg hlt
  subst hb
  simp only [wpListIn, Region.wanted, hy]
  have : (some (!b') == some b') = false := by cases b' <;> rfl
  simp only [this, Bool.false_eq_true, if_false]
  exact ⟨fun _ _ => trivial, h.run _ (ha.put hdd undef)⟩⟩
theorem SO_no_n {j dj : Nat} {b b' : Bool} (hd : (ops[j]?).bind (·.dst) = some dj) (hg : get fr dj = some (.bool b)) (hlt : Nat.blt dj n.n = true) (hb : b = !b')
    (h : SO E n Q0 s ops rest fr w) : SO E n Q0 s ops (⟨none, o, ty, pos, after, some (j, b')⟩ :: rest) fr w := ⟨fun a ha => by
  have hy := yielded_of ha hd hg hlt
  subst hb
  simp only [wpListIn, Region.wanted, hy]
  have : (some (!b') == some b') = false := by cases b' <;> rfl
  simp only [this, Bool.false_eq_true, if_false]
  exact ⟨fun _ _ => trivial, h.run _ ha⟩⟩
/-- A guard that is not decided: both ways. -/
theorem SO_split {l : List Oper} {t : Nat} {b : Bool} (hg : get fr t = some (.bool b))
    (h1 : b = true → SO E n Q0 s ops l ((t, .bool true) :: fr) w) (h2 : b = false → SO E n Q0 s ops l ((t, .bool false) :: fr) w) : SO E n Q0 s ops l fr w := ⟨fun a ha => by
  cases b with
  | true =>
    refine (h1 rfl).run a ⟨ha.size, ha.defers, fun u x hx => ?_⟩
    simp only [get] at hx
    by_cases htu : t = u
    · subst htu; simp at hx; subst hx; exact ha.slot _ _ hg
    · have : (Nat.beq t u) = false := nbeq_f htu
      simp only [this, cond_false] at hx
      exact ha.slot _ _ hx
  | false =>
    refine (h2 rfl).run a ⟨ha.size, ha.defers, fun u x hx => ?_⟩
    simp only [get] at hx
    by_cases htu : t = u
    · subst htu; simp at hx; subst hx; exact ha.slot _ _ hg
    · have : (Nat.beq t u) = false := nbeq_f htu
      simp only [this, cond_false] at hx
      exact ha.slot _ _ hx⟩

/-- A guarded operation whose guard is not decided: both ways. -/
theorem SO_gsplit {dst : Option Nat} {j dj : Nat} {b b' : Bool} (hd : (ops[j]?).bind (·.dst) = some dj) (hg : get fr dj = some (.bool b))
    (h1 : b = true → SO E n Q0 s ops (⟨dst, o, ty, pos, after, some (j, b')⟩ :: rest) ((dj, .bool true) :: fr) w)
    (h2 : b = false → SO E n Q0 s ops (⟨dst, o, ty, pos, after, some (j, b')⟩ :: rest) ((dj, .bool false) :: fr) w) : SO E n Q0 s ops (⟨dst, o, ty, pos, after, some (j, b')⟩ :: rest) fr w := SO_split hg h1 h2

/-! ### Quiet lists -/
variable {C : World → Prop}
theorem SQ_nil (h : ∀ w', C w' → SX E n Q0 s .normal fr w') : SQ E n Q0 s C ops [] fr := ⟨fun a ha => wpQuiet_nil fun w' hw' => (h w' hw').run a ha⟩
theorem SQ_v (hd : Nat.blt d n.n = true) (hr : ∀ w', C w' → OpV P n fr o ty w' v w') (h : SQ E n Q0 s C ops rest ((d, v) :: fr)) :
    SQ E n Q0 s C ops (⟨some d, o, ty, pos, after, none⟩ :: rest) fr := ⟨fun a ha => by
  refine wpQuiet_step fun K hK => ?_
  simp only [Region.wanted, if_true]
  exact ⟨v, fun w' hw' => by unfold Oper.quietAt; rw [(hr w' hw').run a ha]; exact ⟨rfl, rfl⟩, hK _ (h.run _ (ha.put hd v))⟩⟩
theorem SQ_yes {dst : Option Nat} {j dj : Nat} {b : Bool} (hd : (ops[j]?).bind (·.dst) = some dj) (hg : get fr dj = some (.bool b)) (hlt : Nat.blt dj n.n = true)
    (h : SQ E n Q0 s C ops (⟨dst, o, ty, pos, after, none⟩ :: rest) fr) : SQ E n Q0 s C ops (⟨dst, o, ty, pos, after, some (j, b)⟩ :: rest) fr := ⟨fun a ha => by
  have hy := yielded_of ha hd hg hlt
  have := h.run a ha
  simp only [wpQuiet, Region.wanted, if_true] at this
  simp only [wpQuiet, Region.wanted, hy, beq_self_eq_true, if_true]
  exact this⟩
theorem SQ_no {dd j dj : Nat} {b b' : Bool} (hd : (ops[j]?).bind (·.dst) = some dj) (hg : get fr dj = some (.bool b)) (hlt : Nat.blt dj n.n = true) (hb : b = !b') (hdd : Nat.blt dd n.n = true)
    (h : SQ E n Q0 s C ops rest ((dd, undef) :: fr)) : SQ E n Q0 s C ops (⟨some dd, o, ty, pos, after, some (j, b')⟩ :: rest) fr := ⟨fun a ha => by
  have hy := yielded_of ha hd hg hlt
  subst hb
  simp only [wpQuiet, Region.wanted, hy]
  have : (some (!b') == some b') = false := by cases b' <;> rfl
  simp only [this, Bool.false_eq_true, if_false]
  exact h.run _ (ha.put hdd undef)⟩
theorem SQ_nu {dd j dj : Nat} {b' : Bool} (hd : (ops[j]?).bind (·.dst) = some dj) (hg : get fr dj = some undef) (hlt : Nat.blt dj n.n = true) (hdd : Nat.blt dd n.n = true)
    (h : SQ E n Q0 s C ops rest ((dd, undef) :: fr)) : SQ E n Q0 s C ops (⟨some dd, o, ty, pos, after, some (j, b')⟩ :: rest) fr := ⟨fun a ha => by
  have hy := yielded_u ha hd hg hlt
  simp only [wpQuiet, Region.wanted, hy]
  have : ((none : Option Bool) == some b') = false := by cases b' <;> rfl
  simp only [this, Bool.false_eq_true, if_false]
  exact h.run _ (ha.put hdd undef)⟩
theorem SQ_split {l : List Oper} {t : Nat} {b : Bool} (hg : get fr t = some (.bool b))
    (h1 : b = true → SQ E n Q0 s C ops l ((t, .bool true) :: fr)) (h2 : b = false → SQ E n Q0 s C ops l ((t, .bool false) :: fr)) : SQ E n Q0 s C ops l fr := ⟨fun a ha => by
  cases b with
  | true =>
    refine (h1 rfl).run a ⟨ha.size, ha.defers, fun u x hx => ?_⟩
    simp only [get] at hx
    by_cases htu : t = u
    · subst htu; simp at hx; subst hx; exact ha.slot _ _ hg
    · have : (Nat.beq t u) = false := nbeq_f htu
      simp only [this, cond_false] at hx
      exact ha.slot _ _ hx
  | false =>
    refine (h2 rfl).run a ⟨ha.size, ha.defers, fun u x hx => ?_⟩
    simp only [get] at hx
    by_cases htu : t = u
    · subst htu; simp at hx; subst hx; exact ha.slot _ _ hg
    · have : (Nat.beq t u) = false := nbeq_f htu
      simp only [this, cond_false] at hx
      exact ha.slot _ _ hx⟩

theorem SQ_gsplit {dst : Option Nat} {j dj : Nat} {b b' : Bool} (hd : (ops[j]?).bind (·.dst) = some dj) (hg : get fr dj = some (.bool b))
    (h1 : b = true → SQ E n Q0 s C ops (⟨dst, o, ty, pos, after, some (j, b')⟩ :: rest) ((dj, .bool true) :: fr))
    (h2 : b = false → SQ E n Q0 s C ops (⟨dst, o, ty, pos, after, some (j, b')⟩ :: rest) ((dj, .bool false) :: fr)) : SQ E n Q0 s C ops (⟨dst, o, ty, pos, after, some (j, b')⟩ :: rest) fr := SQ_split hg h1 h2
theorem SC_cond_ht {c : Operand} {x y : Code} {b : Bool} (hc : ev fr c = some (.bool b)) (hb : b = true) (h : SC E n Q0 s x fr w) : SC E n Q0 s (.cond c x y) fr w := SC_cond_t (hb ▸ hc) h
theorem SC_cond_hf {c : Operand} {x y : Code} {b : Bool} (hc : ev fr c = some (.bool b)) (hb : b = false) (h : SC E n Q0 s y fr w) : SC E n Q0 s (.cond c x y) fr w := SC_cond_f (hb ▸ hc) h

/-! ### Which operation stands first -/
section guards
variable {dst : Option Nat} {g : Option (Nat × Bool)} {x y : Operand} {t t' : TypeId}
theorem GC {c0 : Code} (h : SC E n Q0 s c0 fr w) : SC E n Q0 s c0 fr w := h
theorem GC_cond {c : Operand} {a b : Code} (h : SC E n Q0 s (.cond c a b) fr w) : SC E n Q0 s (.cond c a b) fr w := h
theorem GX {e : Exit} (h : SX E n Q0 s e fr w) : SX E n Q0 s e fr w := h
theorem GO {l : List Oper} (h : SO E n Q0 s ops l fr w) : SO E n Q0 s ops l fr w := h
theorem GQ {l : List Oper} (h : SQ E n Q0 s C ops l fr) : SQ E n Q0 s C ops l fr := h
theorem GO_g {p : Nat × Bool} (h : SO E n Q0 s ops (⟨dst, o, ty, pos, after, some p⟩ :: rest) fr w) : SO E n Q0 s ops (⟨dst, o, ty, pos, after, some p⟩ :: rest) fr w := h
theorem GQ_g {p : Nat × Bool} (h : SQ E n Q0 s C ops (⟨dst, o, ty, pos, after, some p⟩ :: rest) fr) : SQ E n Q0 s C ops (⟨dst, o, ty, pos, after, some p⟩ :: rest) fr := h
theorem GO_b (b : BinOp) (h : SO E n Q0 s ops (⟨dst, .binOp b t x y t', ty, pos, after, g⟩ :: rest) fr w) : SO E n Q0 s ops (⟨dst, .binOp b t x y t', ty, pos, after, g⟩ :: rest) fr w := h
theorem GQ_b (b : BinOp) (h : SQ E n Q0 s C ops (⟨dst, .binOp b t x y t', ty, pos, after, g⟩ :: rest) fr) : SQ E n Q0 s C ops (⟨dst, .binOp b t x y t', ty, pos, after, g⟩ :: rest) fr := h
theorem GO_u (u : UnOp) (h : SO E n Q0 s ops (⟨dst, .unOp u t x, ty, pos, after, g⟩ :: rest) fr w) : SO E n Q0 s ops (⟨dst, .unOp u t x, ty, pos, after, g⟩ :: rest) fr w := h
theorem GQ_u (u : UnOp) (h : SQ E n Q0 s C ops (⟨dst, .unOp u t x, ty, pos, after, g⟩ :: rest) fr) : SQ E n Q0 s C ops (⟨dst, .unOp u t x, ty, pos, after, g⟩ :: rest) fr := h
theorem GO_pick {c : Operand} (h : SO E n Q0 s ops (⟨dst, .pick c x y, ty, pos, after, g⟩ :: rest) fr w) : SO E n Q0 s ops (⟨dst, .pick c x y, ty, pos, after, g⟩ :: rest) fr w := h
theorem GQ_pick {c : Operand} (h : SQ E n Q0 s C ops (⟨dst, .pick c x y, ty, pos, after, g⟩ :: rest) fr) : SQ E n Q0 s C ops (⟨dst, .pick c x y, ty, pos, after, g⟩ :: rest) fr := h
theorem GO_conv (h : SO E n Q0 s ops (⟨dst, .convert t t' x, ty, pos, after, g⟩ :: rest) fr w) : SO E n Q0 s ops (⟨dst, .convert t t' x, ty, pos, after, g⟩ :: rest) fr w := h
theorem GQ_conv (h : SQ E n Q0 s C ops (⟨dst, .convert t t' x, ty, pos, after, g⟩ :: rest) fr) : SQ E n Q0 s C ops (⟨dst, .convert t t' x, ty, pos, after, g⟩ :: rest) fr := h
end guards

/-! ### Calls of Go functions -/
def Callable (P : Program) (f : FuncId) : Prop := ∃ fn, P.funcs[f]? = some fn ∧ (fn.name == "runtime.NumGoroutine") = false ∧ fn.body.isNone = false

/-- The function, called with these values in this world, returns a value; what is said of it and of the world behind. -/
structure Fn (P : Program) (f : FuncId) (args : List Value) (w : World) (R : Value → World → Prop) : Prop where
  can : Callable P f
  calls : Calls P f args.toArray w fun e w' => ∃ v, e = .returned v ∧ R v w'

theorem Fn.mono {f : FuncId} {args : List Value} {R R' : Value → World → Prop} (h : Fn P f args w R) (hr : ∀ v w', R v w' → R' v w') : Fn P f args w R' :=
  ⟨h.can, h.calls.mono fun _ _ ⟨v, he, hv⟩ => ⟨v, he, hr _ _ hv⟩⟩

theorem run_callFunc_fn {f : FuncId} (hc : Callable P f) (args : Array Value) (w : World) : (callFunc f args).run P w = .ok (.enter f args) w := by
  obtain ⟨fn, h1, h2, h3⟩ := hc
  have h2' : ¬ fn.name = "runtime.NumGoroutine" := by simpa using h2
  have h3' : ¬ fn.body = none := fun e => by simp [e] at h3
  simp [callFunc, program, h1, h2', h3', Sem.run]

theorem run_call {f : FuncId} {a : Act} {xs : List Operand} {ats : Array TypeId} {vs : List Value} (hv : xs.map a.eval = vs) (hc : Callable P f) (dst : Option Nat) (g : Option (Nat × Bool)) :
    (execOp a.eval ⟨dst, .call ⟨.value (.func f), xs.toArray, ats⟩, ty, pos, after, g⟩).run P w = .ok (.enter f vs.toArray) w := by
  have h1 := run_callFunc_fn hc vs.toArray w
  have h2 : (Array.map a.eval xs.toArray) = vs.toArray := by simp [hv]
  have h3 : vs.toArray ++ #[] = vs.toArray := by simp
  simp only [execOp, resolve, h2]
  show (Sem.run P ((Deferred.ofValue (.func (.func f) #[] #[]) vs.toArray).bind fun d => invoke d.target d.args) w) = _
  simp only [Deferred.ofValue]
  simp [invoke, h1, Sem.bind, bind, pure]

def putFr (dst : Option Nat) (v : Value) (fr : Fr) : Fr := match dst with
  | some d => (d, v) :: fr
  | none => fr
/-- Whatever operation enters a function that has its contract. -/
theorem SO_enter {f : FuncId} {vs : List Value} {dst : Option Nat} {R : Value → World → Prop} (hrun : ∀ a, Holds n a fr → (execOp a.eval ⟨dst, o, ty, pos, after, none⟩).run P w = .ok (.enter f vs.toArray) w) (hf : Fn P f vs w R)
    (h : ∀ v w', R v w' → SO E n Q0 s ops rest (putFr dst v fr) w')
    (hd : ∀ d, dst = some d → Nat.blt d n.n = true) : SO E n Q0 s ops (⟨dst, o, ty, pos, after, none⟩ :: rest) fr w := ⟨fun a ha =>
  wpListIn_plain rfl fun K hK => ⟨fun _ _ => trivial, by
    rw [semAt_run (hrun a ha) (fun _ e => by cases e)]
    simp only [Oper.uponIn]
    refine ⟨fun e => (by cases e), callsFF (hf.calls.mono fun e w' ⟨v, he, hR⟩ => ?_)⟩
    subst he
    have hp : Holds n (a.put dst v) (putFr dst v fr) := by
      cases dst with
      | none => exact ha
      | some d => exact ha.put (hd d rfl) v
    exact hK _ _ ((h v w' hR).run _ hp)⟩⟩
/-- A call that hands back a value. -/
theorem SO_call {f : FuncId} {xs : List Operand} {ats : Array TypeId} {vs : List Value} {R : Value → World → Prop} (hv : evs fr xs = some vs) (hd : Nat.blt d n.n = true) (hf : Fn P f vs w R)
    (h : ∀ v w', R v w' → SO E n Q0 s ops rest ((d, v) :: fr) w') :
    SO E n Q0 s ops (⟨some d, .call ⟨.value (.func f), xs.toArray, ats⟩, ty, pos, after, none⟩ :: rest) fr w :=
  SO_enter (fun _ ha => run_call (ha.evs hv) hf.can _ _) hf h (fun _ e => by cases e; exact hd)
theorem SO_call_n {f : FuncId} {xs : List Operand} {ats : Array TypeId} {vs : List Value} {R : Value → World → Prop} (hv : evs fr xs = some vs) (hf : Fn P f vs w R)
    (h : ∀ v w', R v w' → SO E n Q0 s ops rest fr w') :
    SO E n Q0 s ops (⟨none, .call ⟨.value (.func f), xs.toArray, ats⟩, ty, pos, after, none⟩ :: rest) fr w :=
  SO_enter (fun _ ha => run_call (ha.evs hv) hf.can _ _) hf h (fun _ e => by cases e)
/-- A call of a function value: its own arguments, then what it has captured. -/
theorem run_callv {f : FuncId} {a : Act} {g : Operand} {cap : Array Value} {xs : List Operand} {ats : Array TypeId} {vs : List Value} (hg : a.eval g = .func (.func f) #[] cap) (hv : xs.map a.eval = vs) (hc : Callable P f) (dst : Option Nat) (gd : Option (Nat × Bool)) :
    (execOp a.eval ⟨dst, .call ⟨.value g, xs.toArray, ats⟩, ty, pos, after, gd⟩).run P w = .ok (.enter f (vs ++ cap.toList).toArray) w := by
  have h1 := run_callFunc_fn hc (vs ++ cap.toList).toArray w
  have h2 : (Array.map a.eval xs.toArray) = vs.toArray := by simp [hv]
  have h3 : vs.toArray ++ cap = (vs ++ cap.toList).toArray := by simp
  simp only [execOp, resolve, h2, hg]
  show (Sem.run P ((Deferred.ofValue (.func (.func f) #[] cap) vs.toArray).bind fun d => invoke d.target d.args) w) = _
  simp only [Deferred.ofValue]
  simp [invoke, h3, h1, Sem.bind, bind, pure]
theorem SO_callv {f : FuncId} {g : Operand} {cap : Array Value} {xs : List Operand} {ats : Array TypeId} {vs : List Value} {R : Value → World → Prop} (hg : ev fr g = some (.func (.func f) #[] cap)) (hv : evs fr xs = some vs) (hd : Nat.blt d n.n = true) (hf : Fn P f (vs ++ cap.toList) w R)
    (h : ∀ v w', R v w' → SO E n Q0 s ops rest ((d, v) :: fr) w') :
    SO E n Q0 s ops (⟨some d, .call ⟨.value g, xs.toArray, ats⟩, ty, pos, after, none⟩ :: rest) fr w :=
  SO_enter (fun _ ha => run_callv (ha.ev hg) (ha.evs hv) hf.can _ _) hf h (fun _ e => by cases e; exact hd)
theorem SO_callv_n {f : FuncId} {g : Operand} {cap : Array Value} {xs : List Operand} {ats : Array TypeId} {vs : List Value} {R : Value → World → Prop} (hg : ev fr g = some (.func (.func f) #[] cap)) (hv : evs fr xs = some vs) (hf : Fn P f (vs ++ cap.toList) w R)
    (h : ∀ v w', R v w' → SO E n Q0 s ops rest fr w') :
    SO E n Q0 s ops (⟨none, .call ⟨.value g, xs.toArray, ats⟩, ty, pos, after, none⟩ :: rest) fr w :=
  SO_enter (fun _ ha => run_callv (ha.ev hg) (ha.evs hv) hf.can _ _) hf h (fun _ e => by cases e)
theorem SQ_call {f : FuncId} {xs : List Operand} {ats : Array TypeId} {vs : List Value} {v : Value} (hv : evs fr xs = some vs) (hd : Nat.blt d n.n = true)
    (hf : ∀ w', C w' → Fn P f vs w' fun u w'' => u = v ∧ C w'') (h : SQ E n Q0 s C ops rest ((d, v) :: fr)) :
    SQ E n Q0 s C ops (⟨some d, .call ⟨.value (.func f), xs.toArray, ats⟩, ty, pos, after, none⟩ :: rest) fr := ⟨fun a ha => by
  refine wpQuiet_step fun K hK => ?_
  simp only [Region.wanted, if_true]
  refine ⟨v, fun w' hw' => ?_, hK _ (h.run _ (ha.put hd v))⟩
  unfold Oper.quietAt
  rw [run_call (ha.evs hv) (hf w' hw').can]
  exact ⟨rfl, (hf w' hw').calls.mono fun e w'' ⟨u, he, hu, hC⟩ => ⟨by rw [he, hu], hC⟩⟩⟩

/-! ### A function's own -/
def argFr : List Value → Nat → Fr
  | [], _ => []
  | v :: r, i => (i, v) :: argFr r (i + 1)

theorem get_argFr : ∀ (l : List Value) (i t : Nat) (v : Value), get (argFr l i) t = some v → i ≤ t ∧ l[t - i]? = some v
  | [], _, _, _, h => by simp [argFr, get] at h
  | u :: r, i, t, v, h => by
    simp only [argFr, get] at h
    by_cases hit : i = t
    · subst hit; simp at h; subst h; simp
    · have : (Nat.beq i t) = false := nbeq_f hit
      simp only [this, cond_false] at h
      obtain ⟨h1, h2⟩ := get_argFr r (i + 1) t v h
      refine ⟨by omega, ?_⟩
      have : t - i = (t - (i + 1)) + 1 := by omega
      rw [this, List.getElem?_cons_succ]; exact h2

theorem argFr_slot (args : List Value) (n : Nat) : ∀ t v, get (argFr args 0) t = some v → (args.toArray ++ Array.replicate (n - args.toArray.size) undef).getD t undef = v := by
  intro t v ht
  obtain ⟨_, h2⟩ := get_argFr args 0 t v ht
  simp only [Nat.sub_zero] at h2
  have hlt : t < args.length := by
    rcases Nat.lt_or_ge t args.length with h | h
    · exact h
    · rw [List.getElem?_eq_none h] at h2; cases h2
  simp only [Array.getD_eq_getD_getElem?]
  rw [Array.getElem?_append_left (by simpa using hlt)]
  simp [h2]

def RetP (R : Value → World → Prop) : Ending → World → Prop := fun e w' => ∃ v, e = .returned v ∧ R v w'

theorem Fn.enter {f : FuncId} {fn : Func} {c : Code} {args : List Value} {R : Value → World → Prop} (E : Env P) (n : Nat) (hf : P.funcs[f]? = some fn) (hnm : (fn.name == "runtime.NumGoroutine") = false) (hb : fn.body = some c)
    (hn : fn.ntmps = n) (hl : Nat.ble args.length n = true) (h : SC E ⟨n, [], none⟩ (bodyPost P fn (RetP R)) [] c (argFr args 0) w) : Fn P f args w R := by
  refine ⟨⟨fn, hf, hnm, by simp [hb]⟩, calls_of_FF (r := none) (k := 0) (callsIn_of_wp hf hb trivial ?_)⟩
  subst hn
  have hl' : args.length ≤ fn.ntmps := Nat.le_of_ble_eq_true hl
  exact h.run _ ⟨by simp; omega, rfl, argFr_slot args fn.ntmps⟩

variable {R : Value → World → Prop} {fn : Func}
theorem SX_ret1 {t : Nat} (hds : n.ds = []) (hr : fn.results = #[.tmp t]) (hv : get fr t = some v) (h : R v w) : SX E n (bodyPost P fn (RetP R)) [] .ret fr w := ⟨fun a ha =>
  bodyPost_ret (results_tmp hr a.tmps P w) (ha.defers.trans hds) ⟨v, by rw [ha.slot t v hv], h⟩⟩
theorem SX_ret0 (hds : n.ds = []) (hr : fn.results = #[]) (h : R (.tuple #[]) w) : SX E n (bodyPost P fn (RetP R)) [] .ret fr w := ⟨fun a ha =>
  bodyPost_ret (results_none hr a.tmps P w) (ha.defers.trans hds) ⟨_, rfl, h⟩⟩
theorem SX_end0 (hds : n.ds = []) (hr : fn.results = #[]) (h : R (.tuple #[]) w) : SX E n (bodyPost P fn (RetP R)) [] .normal fr w := ⟨fun a ha =>
  bodyPost_end (results_none hr a.tmps P w) (ha.defers.trans hds) ⟨_, rfl, h⟩⟩
theorem SX_ret2 {t u : Nat} {v1 v2 : Value} (hds : n.ds = []) (hr : fn.results = #[.tmp t, .tmp u]) (h1 : get fr t = some v1) (h2 : get fr u = some v2) (h : R (.tuple #[v1, v2]) w) :
    SX E n (bodyPost P fn (RetP R)) [] .ret fr w := ⟨fun a ha =>
  bodyPost_ret (results_tmp2 hr a.tmps P w) (ha.defers.trans hds) ⟨_, by rw [ha.slot t v1 h1, ha.slot u v2 h2], h⟩⟩
theorem SX_ret3 {t u x : Nat} {v1 v2 v3 : Value} (hds : n.ds = []) (hr : fn.results = #[.tmp t, .tmp u, .tmp x]) (h1 : get fr t = some v1) (h2 : get fr u = some v2) (h3 : get fr x = some v3) (h : R (.tuple #[v1, v2, v3]) w) :
    SX E n (bodyPost P fn (RetP R)) [] .ret fr w := ⟨fun a ha =>
  bodyPost_ret (results_tmp3 hr a.tmps P w) (ha.defers.trans hds) ⟨_, by rw [ha.slot t v1 h1, ha.slot u v2 h2, ha.slot x v3 h3], h⟩⟩
end
end Go.Art
