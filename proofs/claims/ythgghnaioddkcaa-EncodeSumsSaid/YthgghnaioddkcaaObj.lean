/- Structs by fields, methods behind an interface, type assertions, slices of slices. Conditions: none. -/
import Derived.Test.YthgghnaioddkcaaMem
set_option linter.unusedSimpArgs false
set_option linter.unusedVariables false
namespace Go.Art
open Go Go.RowKit

section
variable {P : Program} {E : Env P} {n : Sh} {Q0 : Exit → Act → World → Prop} {s : List K} {fr : Fr} {w : World} {ops : Array Oper} {rest : List Oper} {d : Nat} {ty t e : TypeId} {pos : String} {after : Array Edge} {v u z : Value}
  {x y : Operand} {by_ : Nat}

/-- Where the fields of a struct stand: offset and cells. -/
def places (inf : List (Nat × (Value × Nat × Nat))) : List Field → Option (List (Nat × Nat))
  | [] => some []
  | f :: r => match lk inf f.type with
    | some q => match places inf r with
      | some l => some ((f.offset, q.2.1) :: l)
      | none => none
    | none => none
theorem places_run {fs : List Field} {pl : List (Nat × Nat)} (h : places E.inf fs = some pl) : (fs.mapM (m := Sem) fun f => do pure (f.offset, ← sizeOf f.type)).run P w = .ok pl w := by
  induction fs generalizing pl with
  | nil => simp [places] at h; subst h; rfl
  | cons f r ih =>
    simp only [places] at h
    split at h
    · rename_i q hq
      split at h
      · rename_i l hl
        cases h
        obtain ⟨inf, hi, _, hs, _⟩ := E.info (z := q.1) (s := q.2.1) (b := q.2.2) hq
        have := ih hl
        simp [List.mapM_cons, sizeOf, typeInfo, hi, hs] at this ⊢
        simp [this]
      · cases h
    · cases h
def setParts (pl : List (Nat × Nat)) : List Value → List (Nat × Value) → Option (List Value)
  | cs, [] => some cs
  | cs, (i, v) :: r => match pl[i]? with
    | some (off, sz) => bif Nat.beq v.cells.size sz && Nat.ble (off + sz) cs.length then setParts pl (cs.take off ++ v.cells.toList ++ cs.drop (off + sz)) r else none
    | none => none
theorem foldl_set (vs : List Value) : ∀ (off j : Nat) (cs : Array Value), off + j + vs.length ≤ cs.size →
    ((vs.zipIdx j).foldl (fun cs (x : Value × Nat) => cs.setIfInBounds (off + x.2) x.1) cs) = (cs.toList.take (off + j) ++ vs ++ cs.toList.drop (off + j + vs.length)).toArray := by
  induction vs with
  | nil => intro off j cs _; simp
  | cons c r ih =>
    intro off j cs h
    simp only [List.length_cons] at h
    simp only [List.zipIdx_cons, List.foldl_cons, List.length_cons]
    rw [ih off (j + 1) _ (by simp; omega)]
    congr 1
    simp only [Array.toList_setIfInBounds]
    have e1 : off + (j + 1) = (off + j) + 1 := by omega
    rw [e1, List.take_succ_eq_append_getElem (by simp; omega)]
    have e2 : off + j + 1 + r.length = off + j + (r.length + 1) := by omega
    rw [e2, List.take_set_of_le (Nat.le_refl _), List.drop_set_of_lt (by omega)]
    simp
theorem fill_parts {pl : List (Nat × Nat)} : ∀ {vs : List (Nat × Value)} {cs cs' : List Value}, setParts pl cs vs = some cs' → Instr.fill (pl[·]?) cs.toArray vs = some cs'.toArray
  | [], cs, cs', h => by simp [setParts] at h; simp [Instr.fill, h]
  | (i, v) :: r, cs, cs', h => by
    simp only [setParts] at h
    cases hp : pl[i]? with
    | none => rw [hp] at h; cases h
    | some q =>
      obtain ⟨off, sz⟩ := q
      rw [hp] at h
      simp only at h
      by_cases hc : (Nat.beq v.cells.size sz && Nat.ble (off + sz) cs.length) = true
      · rw [hc, cond_true] at h
        simp only [Bool.and_eq_true] at hc
        have h1 := Nat.eq_of_beq_eq_true hc.1
        have h2 := Nat.le_of_ble_eq_true hc.2
        simp only [Instr.fill, hp]
        have hx : ¬ (off + v.cells.size > cs.toArray.size) := by simp; omega
        have hx1 : ¬ ((decide (v.cells.size ≠ sz) || decide (off + v.cells.size > cs.toArray.size)) = true) := by simp [h1]; omega
        rw [if_neg hx1]
        have hf : (v.cells.zipIdx.foldl (fun cs (x : Value × Nat) => cs.setIfInBounds (off + x.2) x.1) cs.toArray) = (cs.take off ++ v.cells.toList ++ cs.drop (off + sz)).toArray := by
          have := foldl_set v.cells.toList off 0 cs.toArray (by simp; omega)
          simp only [Nat.add_zero] at this
          rw [← Array.foldl_toList, Array.toList_zipIdx, this]
          simp [h1]
        show Instr.fill _ (v.cells.zipIdx.foldl (fun cs (x : Value × Nat) => cs.setIfInBounds (off + x.2) x.1) cs.toArray) r = _
        rw [hf]
        exact fill_parts h
      · have : (Nat.beq v.cells.size sz && Nat.ble (off + sz) cs.length) = false := by simpa only [Bool.not_eq_true] using hc
        rw [this, cond_false] at h; cases h
def evps (fr : Fr) : List (Nat × Operand) → Option (List (Nat × Value))
  | [] => some []
  | (i, x) :: r => match ev fr x with
    | some v => match evps fr r with
      | some vs => some ((i, v) :: vs)
      | none => none
    | none => none
theorem Holds.evps {a : Act} (h : Holds n a fr) : ∀ {xs : List (Nat × Operand)} {vs : List (Nat × Value)}, evps fr xs = some vs → xs.map (fun (p : Nat × Operand) => (p.1, a.eval p.2)) = vs
  | [], vs, e => by simp [Art.evps] at e; simp [e]
  | (i, x) :: r, vs, e => by
    simp only [Art.evps] at e
    split at e
    · rename_i v hv
      split at e
      · rename_i us hus
        simp only [Option.some.injEq] at e
        subst e
        simp [h.ev hv, Holds.evps h hus]
      · cases e
    · cases e
/-- A struct literal; the values' numbers of cells must be seen. -/
theorem R_build {fs : List Field} {zs cs : List Value} {pl : List (Nat × Nat)} {sz : Nat} {parts : List (Nat × Operand)} {vs : List (Nat × Value)} (ht : lk E.und t = some (.struct fs.toArray)) (he : lk E.inf t = some (.agg zs.toArray, sz, by_))
    (hpl : places E.inf fs = some pl) (hv : evps fr parts = some vs) (hs : setParts pl zs vs = some cs) : OpV P n fr (.build t parts.toArray) ty w (.agg cs.toArray) w := ⟨fun a ha _ _ _ _ => by
  obtain ⟨inf, hi, hz, _, _⟩ := E.info he
  have h1 := ha.evps hv
  have h2 := fill_parts hs
  have h3 := places_run (w := w) hpl
  have hb : (Instr.build t (vs.toArray)).run P w = .ok (.agg cs.toArray) w := by
    have hmm : (fs.mapM (m := Sem) fun f => Prod.mk f.offset <$> sizeOf f.type).run P w = .ok pl w := by
      have e : (fun f : Field => Prod.mk f.offset <$> sizeOf f.type) = (fun f : Field => (do pure (f.offset, ← sizeOf f.type) : Sem (Nat × Nat))) := by funext f; simp
      rw [e]; exact h3
    unfold Instr.build
    simp [zeroValue, typeInfo, run_underlying (P := P) (E.un ht), hi, hz, Value.cells, hmm, h2]
  simp only [execOp]
  show Sem.run P (do let v ← Instr.build t ((parts.toArray.map fun (p : Nat × Operand) => (p.1, a.eval p.2))); pure (Next.value v)) w = _
  rw [List.map_toArray, h1]
  simp [hb]⟩

/-- A method called through an interface whose dynamic type is known. -/
theorem SO_invoke {f : FuncId} {r : Operand} {nm : String} {xs : List Operand} {ats : Array TypeId} {vs : List Value} {R : Value → World → Prop} {tt : TypeId} {x0 rv : Value} (hr : ev fr r = some (.iface tt x0)) (hv : evs fr xs = some vs)
    (hm : (method (P.types.size + Made.depth) tt x0 nm).run P w = .ok (f, rv) w) (hd : Nat.blt d n.n = true) (hf : Fn P f (rv :: vs) w R)
    (h : ∀ v w', R v w' → SO E n Q0 s ops rest ((d, v) :: fr) w') :
    SO E n Q0 s ops (⟨some d, .call ⟨.invoke r nm, xs.toArray, ats⟩, ty, pos, after, none⟩ :: rest) fr w := by
  refine SO_enter (fun a ha => ?_) hf h (fun _ e => by cases e; exact hd)
  have h2 : (Array.map a.eval xs.toArray) = vs.toArray := by simp [ha.evs hv]
  have h1 := run_callFunc_fn hf.can (rv :: vs).toArray w
  simp only [execOp, resolve, h2, ha.ev hr]
  have h3 : (callMethod (.iface tt x0) nm vs.toArray).run P w = .ok (.enter f (rv :: vs).toArray) w := by
    unfold callMethod
    simp only [program]
    show Sem.run P ((method (P.types.size + Made.depth) tt x0 nm).bind fun q => callFunc q.1 (#[q.2] ++ vs.toArray)) w = _
    rw [Sem.run_bind', hm]
    simp only [Result.andThen]
    have : #[rv] ++ vs.toArray = (rv :: vs).toArray := by simp
    rw [this, h1]
  show Sem.run P (invoke (.fn (.method nm) #[]) (#[.iface tt x0] ++ vs.toArray)) w = _
  simp only [invoke]
  have e1 : (#[Value.iface tt x0] ++ vs.toArray)[0]? = some (.iface tt x0) := by simp
  have e2 : (#[Value.iface tt x0] ++ vs.toArray).extract 1 (#[Value.iface tt x0] ++ vs.toArray).size = vs.toArray := by simp
  rw [e1]
  simp only [e2, h3]

theorem R_assertYes {tx asr : TypeId} {dd : TypeDesc} (ht : lk E.und asr = some dd) (hd : (match dd with | .interface _ => false | _ => true) = true) (hx : ev fr x = some (.iface asr v)) :
    OpV P n fr (.typeAssert x tx asr true) ty w (.tuple #[v, .bool true]) w := ⟨fun a ha _ _ _ _ => by
  have h1 := run_underlying (P := P) (E.un ht) w
  simp only [execOp, ha.ev hx]
  cases dd <;> first | (cases hd; done) | simp [Instr.typeAssert, h1]⟩
theorem R_assertNo {tx asr tt : TypeId} {dd : TypeDesc} {sz : Nat} (ht : lk E.und asr = some dd) (hd : (match dd with | .interface _ => false | _ => true) = true) (he : lk E.inf asr = some (z, sz, by_)) (hx : ev fr x = some (.iface tt v)) (hne : Nat.beq tt asr = false) :
    OpV P n fr (.typeAssert x tx asr true) ty w (.tuple #[z, .bool false]) w := ⟨fun a ha _ _ _ _ => by
  have h1 := run_underlying (P := P) (E.un ht) w
  obtain ⟨inf, hi, hz, _, _⟩ := E.info he
  have hne' := nbeq_ne hne
  simp only [execOp, ha.ev hx]
  cases dd <;> first | (cases hd; done) | simp [Instr.typeAssert, h1, hne', zeroValue, typeInfo, hi, hz]⟩

/-! ### Slices of slices -/
def slSub : Value → Nat → Nat → Value
  | .slice a _ cap, lo, hi => .slice (if cap = lo then a else a.map (·.add lo)) (hi - lo) (cap - lo)
  | v, _, _ => v
theorem slSub_block (v : Value) (lo hi : Nat) : (slSub v lo hi).ownBlock = v.ownBlock := by
  cases v <;> try rfl
  rename_i a l c
  cases a with
  | none => simp [slSub, Value.ownBlock]
  | some a =>
    simp only [slSub]
    split
    · rfl
    · simp only [Option.map_some, Value.ownBlock]; unfold Addr.add; split <;> rfl
theorem Addr_add_add (a : Addr) (i j : Nat) (h : a.spot = none ∨ True) : (a.add i).add j = a.add (i + j) := by
  unfold Addr.add
  by_cases h1 : i = 0
  · subst h1; simp
  · by_cases h2 : j = 0
    · subst h2; simp
    · have : ¬ (i + j = 0) := by omega
      simp [h1, h2, this, Nat.add_assoc]
theorem Sl.sub {xs : List Value} (h : Sl w v xs) {lo hi : Nat} (h1 : lo ≤ hi) (h2 : hi ≤ xs.length) : Sl w (slSub v lo hi) ((xs.take hi).drop lo) := by
  obtain ⟨a, cap, rfl, hc1, hc2, hcell⟩ := h
  have hl : ((xs.take hi).drop lo).length = hi - lo := by simp; omega
  refine ⟨if cap = lo then a else a.map (·.add lo), cap - lo, by rw [hl]; rfl, by rw [hl]; omega, by unfold maxLen at *; omega, fun i c hi' => ?_⟩
  rw [List.getElem?_drop, List.getElem?_take] at hi'
  split at hi'
  · obtain ⟨ad, rfl, hx⟩ := hcell _ _ hi'
    have hne : ¬ cap = lo := by
      have := (List.getElem?_eq_some_iff.1 hi').1; omega
    exact ⟨ad.add lo, by simp [hne], by rw [Addr_add_add _ _ _ (.inr trivial)]; exact hx⟩
  · cases hi'
theorem run_slice_sub {xs : List Value} {lo hi : Nat} {k1 k2 : IntKind} {l : Option Value} {hh : Option Value} (ht : lk E.und t = some (.slice e)) (he : lk E.inf e = some (z, 1, by_)) (hS : Sl w v xs)
    (hl : l = none ∧ lo = 0 ∨ l = some (.int k1 lo)) (hhi : hh = none ∧ hi = xs.length ∨ hh = some (.int k2 hi)) (h1 : lo ≤ hi) (h2 : hi ≤ xs.length) : (Instr.sliceAt t v l hh none).run P w = .ok (slSub v lo hi) w := by
  obtain ⟨a, cap, rfl, hc1, hc2, hcell⟩ := hS
  obtain ⟨inf, hi', _, hs, _⟩ := E.info he
  have hu := run_underlying (P := P) (E.un ht) w
  have hcap : hi ≤ cap := by omega
  rcases hl with ⟨rfl, rfl⟩ | rfl <;> rcases hhi with ⟨rfl, rfl⟩ | rfl <;>
    simp [Instr.sliceAt, Instr.slice, hu, Instr.sliceBounds, Instr.sliceBound, asIntOf, sizeOf, typeInfo, hi', hs, slSub, h1, h2, hcap, hc1]
theorem R_slice {xs : List Value} {lo hi : Int} {k1 k2 : IntKind} (ht : lk E.und t = some (.slice e)) (he : lk E.inf e = some (z, 1, by_)) (hx : ev fr x = some v) {l h : Operand} (hl : ev fr l = some (.int k1 lo)) (hh : ev fr h = some (.int k2 hi))
    (hS : Sl w v xs) (hb : 0 ≤ lo ∧ lo ≤ hi ∧ hi ≤ xs.length) : OpV P n fr (.slice t x (some l) (some h) none) ty w (slSub v lo.toNat hi.toNat) w := ⟨fun a ha _ _ _ _ => by
  have := run_slice_sub (P := P) (E := E) (lo := lo.toNat) (hi := hi.toNat) (l := some (.int k1 lo)) (hh := some (.int k2 hi)) ht he hS (.inr (by rw [Int.toNat_of_nonneg hb.1])) (.inr (by rw [Int.toNat_of_nonneg (by omega)])) (by omega) (by omega)
  simp only [execOp, ha.ev hx]
  simp [ha.ev hl, ha.ev hh, this]⟩
theorem R_sliceLo {xs : List Value} {lo : Int} {k1 : IntKind} (ht : lk E.und t = some (.slice e)) (he : lk E.inf e = some (z, 1, by_)) (hx : ev fr x = some v) {l : Operand} (hl : ev fr l = some (.int k1 lo))
    (hS : Sl w v xs) (hb : 0 ≤ lo ∧ lo ≤ xs.length) : OpV P n fr (.slice t x (some l) none none) ty w (slSub v lo.toNat xs.length) w := ⟨fun a ha _ _ _ _ => by
  have := run_slice_sub (P := P) (E := E) (lo := lo.toNat) (hi := xs.length) (l := some (.int k1 lo)) (hh := none) (k2 := k1) ht he hS (.inr (by rw [Int.toNat_of_nonneg hb.1])) (.inl ⟨rfl, rfl⟩) (by omega) (by omega)
  simp only [execOp, ha.ev hx]
  simp [ha.ev hl, this]⟩
theorem R_sliceHi {xs : List Value} {hi : Int} {k2 : IntKind} (ht : lk E.und t = some (.slice e)) (he : lk E.inf e = some (z, 1, by_)) (hx : ev fr x = some v) {h : Operand} (hh : ev fr h = some (.int k2 hi))
    (hS : Sl w v xs) (hb : 0 ≤ hi ∧ hi ≤ xs.length) : OpV P n fr (.slice t x none (some h) none) ty w (slSub v 0 hi.toNat) w := ⟨fun a ha _ _ _ _ => by
  have := run_slice_sub (P := P) (E := E) (lo := 0) (hi := hi.toNat) (l := none) (hh := some (.int k2 hi)) (k1 := k2) ht he hS (.inl ⟨rfl, rfl⟩) (.inr (by rw [Int.toNat_of_nonneg hb.1])) (by omega) (by omega)
  simp only [execOp, ha.ev hx]
  simp [ha.ev hh, this]⟩
end
end Go.Art
