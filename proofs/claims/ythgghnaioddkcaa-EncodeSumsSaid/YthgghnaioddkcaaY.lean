/- Structs as values: a field of one, loads and stores of whole ones. Conditions: none. -/
import Derived.Test.YthgghnaioddkcaaM
import Derived.Laws.Cells
set_option linter.unusedSimpArgs false
set_option linter.unusedVariables false
namespace Go.Art
open Go Go.RowKit

section
variable {P : Program} {E : Env P} {n : Sh} {Q0 : Exit → Act → World → Prop} {s : List K} {fr : Fr} {w : World} {ops : Array Oper} {rest : List Oper} {d : Nat} {ty : TypeId} {pos : String} {after : Array Edge} {v z : Value} {x y : Operand} {t : TypeId} {b j sz by_ : Nat}
theorem aggB_t {dt : TypeDesc} (ht : lk E.und t = some dt) (hd : aggB dt = true) : (isAgg t).run P w = .ok true w := by
  simp only [isAgg, Sem.run_bind, run_underlying (P := P) (E.un ht) w, Result.andThen_ok]
  cases dt <;> first | rfl | (simp [aggB] at hd)
theorem R_field {fs : Array Field} {i : Nat} {f : Field} {cs : List Value} {dt : TypeDesc} (ht : lk E.und t = some (.struct fs)) (hf : fs[i]? = some f) (hdt : lk E.und f.type = some dt) (hg : aggB dt = false) (hx : ev fr x = some (.agg cs.toArray)) (hv : cs[f.offset]? = some v) :
    OpV P n fr (.field t x i) ty w v w := ⟨fun a ha _ _ _ _ => by
  simp only [execOp, ha.ev hx]
  simp [Instr.field, run_underlying (P := P) (E.un ht), hf, part, aggB_run (w := w) hdt hg, asAgg, hv]⟩
theorem R_fieldA {fs : Array Field} {i : Nat} {f : Field} {cs vs : List Value} {dt : TypeDesc} (ht : lk E.und t = some (.struct fs)) (hf : fs[i]? = some f) (hdt : lk E.und f.type = some dt) (hg : aggB dt = true) (hi : lk E.inf f.type = some (z, sz, by_)) (hx : ev fr x = some (.agg cs.toArray)) (hv : (cs.drop f.offset).take sz = vs) :
    OpV P n fr (.field t x i) ty w (.agg vs.toArray) w := ⟨fun a ha _ _ _ _ => by
  obtain ⟨inf, h1, _, h2, _⟩ := E.info hi
  subst hv
  simp only [execOp, ha.ev hx]
  simp [Instr.field, run_underlying (P := P) (E.un ht), hf, part, aggB_t (w := w) hdt hg, asAgg, sizeOf, typeInfo, h1, h2, List.drop_take, Nat.add_sub_cancel_left]⟩
theorem R_loadA {cs vs : List Value} {T : TypeId} {dt : TypeDesc} (ht : lk E.und t = some dt) (hg : aggB dt = true) (hi : lk E.inf t = some (z, sz, by_)) (hx : ev fr x = some (.pointer (some ⟨b, j, none⟩))) (hb : w.heap[b]? = some (.cells cs.toArray T (0, 0))) (hv : (cs.drop j).take sz = vs) (hl : vs.length = sz) :
    OpV P n fr (.load t x) ty w (.agg vs.toArray) w := ⟨fun a ha _ _ _ _ => by
  obtain ⟨inf, h1, _, h2, _⟩ := E.info hi
  have h3 := run_loadCells_list (P := P) w ⟨b, j, none⟩ vs (fun m u hm => by
    rw [Addr.add_lit]
    refine blk_cell hb ?_
    rw [← hv, List.getElem?_take] at hm
    split at hm
    · rw [List.getElem?_drop] at hm; simpa using hm
    · cases hm)
  rw [hl] at h3
  simp only [execOp, ha.ev hx]
  simp [Instr.loadAt, Instr.sureAddr, loadVar, aggB_t (w := w) ht hg, sizeOf, typeInfo, h1, h2, h3]⟩
theorem SO_storeA {cs vs : List Value} {T : TypeId} (hi : lk E.inf t = some (z, sz, by_)) (ha : ev fr x = some (.pointer (some ⟨b, j, none⟩))) (hx : ev fr y = some (.agg vs.toArray)) (hl : vs.length = sz) (h1 : ∀ v ∈ vs, v.oneCell' = true)
    (hb : w.heap[b]? = some (.cells cs.toArray T (0, 0))) (hj : j + sz ≤ cs.length) (h : ∀ w', Upd w w' [b] → w'.heap[b]? = some (.cells (cs.take j ++ vs ++ cs.drop (j + sz)).toArray T (0, 0)) → SO E n Q0 s ops rest fr w') :
    SO E n Q0 s ops (⟨none, .store t x y, ty, pos, after, none⟩ :: rest) fr w := by
  obtain ⟨inf, h2, _, h3, _⟩ := E.info hi
  have hst := run_storeCells_at P b j T vs 0 cs.toArray w hb (by simpa [hl] using hj) h1
  simp only [Nat.add_zero] at hst
  refine SO_u (w' := w.setRow b (cs.take j ++ vs ++ cs.drop (j + sz)).toArray) ⟨fun a ha' _ _ _ _ => ?_⟩ (h _ (Upd.setRow w b _) (setRow_heap w b cs.toArray _ T _ hb))
  simp only [execOp, ha'.ev ha, ha'.ev hx]
  simp [Instr.storeAt, Instr.sureAddr, storeVar, sizeOf, typeInfo, h2, h3, Value.cells, hl, hst, Addr.add]
/-- A struct literal of values of one cell each. -/
def setParts1 (pl : List (Nat × Nat)) : List Value → List (Nat × Value) → Option (List Value)
  | cs, [] => some cs
  | cs, (i, v) :: r => match pl[i]? with
    | some (off, sz) => bif Nat.beq sz 1 && Nat.ble (off + 1) cs.length then setParts1 pl (cs.set off v) r else none
    | none => none
theorem setParts_one {pl : List (Nat × Nat)} : ∀ {vs : List (Nat × Value)} {cs cs' : List Value}, (∀ p ∈ vs, p.2.oneCell' = true) → setParts1 pl cs vs = some cs' → setParts pl cs vs = some cs'
  | [], _, _, _, h => h
  | (i, v) :: r, cs, cs', h1, h => by
    simp only [setParts1] at h
    simp only [setParts]
    split at h
    · rename_i off sz hp
      by_cases hc : (Nat.beq sz 1 && Nat.ble (off + 1) cs.length) = true
      · rw [hc, cond_true] at h
        simp only [Bool.and_eq_true] at hc
        obtain rfl := Nat.eq_of_beq_eq_true hc.1
        have h2 := Nat.le_of_ble_eq_true hc.2
        have hv : v.cells = #[v] := oneCell_cells (h1 (i, v) (by simp))
        rw [hp]
        simp only [hv]
        have e : (Nat.beq (#[v] : Array Value).size 1 && Nat.ble (off + 1) cs.length) = true := by simp [hc.2]
        rw [e, cond_true]
        have e2 : cs.take off ++ (#[v] : Array Value).toList ++ cs.drop (off + 1) = cs.set off v := by
          rw [List.set_eq_take_append_cons_drop, if_pos (by omega)]; simp
        rw [e2]
        exact setParts_one (fun p hp => h1 p (by simp [hp])) h
      · have : (Nat.beq sz 1 && Nat.ble (off + 1) cs.length) = false := by simpa only [Bool.not_eq_true] using hc
        rw [this, cond_false] at h; cases h
    · cases h
theorem R_buildC {fs : List Field} {zs cs : List Value} {pl : List (Nat × Nat)} {parts : List (Nat × Operand)} {vs : List (Nat × Value)} (h1 : ∀ p ∈ vs, p.2.oneCell' = true) (ht : lk E.und t = some (.struct fs.toArray)) (he : lk E.inf t = some (.agg zs.toArray, sz, by_))
    (hpl : places E.inf fs = some pl) (hv : evps fr parts = some vs) (hs : setParts1 pl zs vs = some cs) : OpV P n fr (.build t parts.toArray) ty w (.agg cs.toArray) w := R_build ht he hpl hv (setParts_one h1 hs)
end

section
variable {P : Program} {E : Env P} {n : Sh} {X : Cx} {s : List K} {fr : Fr} {A A' B F : List Ch} {ops : Array Oper} {rest : List Oper} {d : Nat} {ty : TypeId} {pos : String} {after : Array Edge} {v z : Value} {t T : TypeId} {x y : Operand} {b j sz by_ : Nat} {cs vs cs' : List Value} {dt : TypeDesc} {fs : Array Field} {i : Nat} {f : Field}
theorem fd (k : TO E n X s ops rest ((d, v) :: fr) A) (hx : ev fr x = some (.agg cs.toArray) := by rfl) (ht : lk E.und t = some (.struct fs) := by rfl) (hf : fs[i]? = some f := by rfl) (hdt : lk E.und f.type = some dt := by rfl) (hg : aggB dt = false := by rfl) (hv : cs[f.offset]? = some v := by rfl)
    (hd : Nat.blt d n.n = true := by rfl) : TO E n X s ops (⟨some d, .field t x i, ty, pos, after, none⟩ :: rest) fr A := TO.val (fun _ _ => R_field ht hf hdt hg hx hv) k hd
theorem bdc {fl : List Field} {zs : List Value} {pl : List (Nat × Nat)} {parts : List (Nat × Operand)} {ps : List (Nat × Value)} (h1 : ∀ p ∈ ps, p.2.oneCell' = true) (k : TO E n X s ops rest ((d, .agg cs.toArray) :: fr) A) (hv : evps fr parts = some ps := by rfl) (ht : lk E.und t = some (.struct fl.toArray) := by rfl) (he : lk E.inf t = some (.agg zs.toArray, sz, by_) := by rfl)
    (hpl : places E.inf fl = some pl := by rfl) (hs : setParts1 pl zs ps = some cs := by rfl) (hd : Nat.blt d n.n = true := by rfl) : TO E n X s ops (⟨some d, .build t parts.toArray, ty, pos, after, none⟩ :: rest) fr A := TO.val (fun _ _ => R_buildC h1 ht he hpl hv hs) k hd
theorem fda (k : TO E n X s ops rest ((d, .agg vs.toArray) :: fr) A) (hx : ev fr x = some (.agg cs.toArray) := by rfl) (ht : lk E.und t = some (.struct fs) := by rfl) (hf : fs[i]? = some f := by rfl) (hdt : lk E.und f.type = some dt := by rfl) (hg : aggB dt = true := by rfl) (hi : lk E.inf f.type = some (z, sz, by_) := by rfl)
    (hv : (cs.drop f.offset).take sz = vs := by rfl) (hd : Nat.blt d n.n = true := by rfl) : TO E n X s ops (⟨some d, .field t x i, ty, pos, after, none⟩ :: rest) fr A := TO.val (fun _ _ => R_fieldA ht hf hdt hg hi hx hv) k hd
theorem lda (k : TO E n X s ops rest ((d, .agg vs.toArray) :: fr) A) (hx : ev fr x = some (.pointer (some ⟨b, j, none⟩)) := by rfl) (hm : pt b cs T ∈ A := by (repeat (first | apply List.Mem.head | apply List.Mem.tail)); first | done | fail) (ht : lk E.und t = some dt := by rfl) (hg : aggB dt = true := by rfl) (hi : lk E.inf t = some (z, sz, by_) := by rfl)
    (hv : (cs.drop j).take sz = vs := by rfl) (hl : vs.length = sz := by rfl) (hd : Nat.blt d n.n = true := by rfl) : TO E n X s ops (⟨some d, .load t x, ty, pos, after, none⟩ :: rest) fr A := TO.val (fun _ h => R_loadA ht hg hi hx (h.h (pt b cs T) hm) hv hl) k hd
theorem sra (k : TO E n X s ops rest fr (pt b cs' T :: A')) (ha : ev fr x = some (.pointer (some ⟨b, j, none⟩)) := by rfl) (hm : Tk (pt b cs T) A A' := by (repeat (first | apply Tk.here | apply Tk.there)); first | done | fail) (hx : ev fr y = some (.agg vs.toArray) := by rfl) (hi : lk E.inf t = some (z, sz, by_) := by rfl) (hl : vs.length = sz := by rfl)
    (h1 : ∀ v ∈ vs, v.oneCell' = true := by simp; first | done | rfl | assumption) (hj : j + sz ≤ cs.length := by decide) (hs : cs.take j ++ vs ++ cs.drop (j + sz) = cs' := by rfl) : TO E n X s ops (⟨none, .store t x y, ty, pos, after, none⟩ :: rest) fr A := ⟨fun w hw => by
  subst hs
  have h2 := hw.im hm
  refine SO_storeA hi ha hx hl h1 (h2.mem (List.Mem.head _)) hj fun w' hU hb => k.run w' (h2.set hU (by simp [pt]) hb ?_ (by simp [pt]))
  rintro x (rfl | h | h); exact .inl rfl; exact h.elim; exact h.elim⟩
end
end Go.Art
