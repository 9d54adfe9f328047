/- Memory: what changes and what stays; slices that the call owns; the rules that make, write and append. Conditions: none. -/
import Derived.Test.YthgghnaioddkcaaOps
import Derived.Laws.OwnMore
import Derived.Laws.Pointers
import Derived.WalkSpells
import Derived.LaidEql
import Derived.WideLaws
set_option linter.unusedSimpArgs false
set_option linter.unusedVariables false
namespace Go.Art
open Go Go.RowKit

/-- From w to w' the heap has grown, and of what was there only the blocks of S may have changed. -/
structure Upd (w w' : World) (S : List Nat) : Prop where
  os : w'.os = w.os
  tape : w'.tape = w.tape
  output : w'.output = w.output
  size : w.heap.size ≤ w'.heap.size
  block : ∀ k, k < w.heap.size → k ∉ S → w'.heap[k]? = w.heap[k]?
abbrev Ext (w w' : World) : Prop := Upd w w' []

theorem Upd.refl (w : World) (S : List Nat) : Upd w w S := ⟨rfl, rfl, rfl, Nat.le_refl _, fun _ _ _ => rfl⟩
theorem Upd.trans {a b c : World} {S T : List Nat} (h : Upd a b S) (k : Upd b c T) : Upd a c (S ++ T) :=
  ⟨k.os.trans h.os, k.tape.trans h.tape, k.output.trans h.output, Nat.le_trans h.size k.size, fun i hi hn =>
    (k.block i (Nat.lt_of_lt_of_le hi h.size) (fun hm => hn (List.mem_append_right _ hm))).trans (h.block i hi (fun hm => hn (List.mem_append_left _ hm)))⟩
/-- Blocks that are new to a need not be named. -/
theorem Upd.weak {a b : World} {S T : List Nat} (h : Upd a b S) (hST : ∀ k ∈ S, k ∈ T ∨ a.heap.size ≤ k) : Upd a b T :=
  ⟨h.os, h.tape, h.output, h.size, fun i hi hn => h.block i hi (fun hm => by rcases hST i hm with h1 | h1; exact hn h1; omega)⟩
theorem Upd.then {a b c : World} {S T U : List Nat} (h : Upd a b S) (k : Upd b c T) (hS : ∀ i ∈ S, i ∈ U ∨ a.heap.size ≤ i) (hT : ∀ i ∈ T, i ∈ U ∨ a.heap.size ≤ i) : Upd a c U :=
  (h.trans k).weak fun i hi => by rcases List.mem_append.1 hi with h1 | h1; exact hS i h1; exact hT i h1
theorem Ext.trans {a b c : World} (h : Ext a b) (k : Ext b c) : Ext a c := (Upd.trans h k)
theorem Upd.drew (w : World) : Ext w w.drew := ⟨rfl, rfl, rfl, Nat.le_refl _, fun _ _ _ => rfl⟩
theorem Upd.draw (w : World) : Ext w { w with drawn := w.drawn + 1 } := ⟨rfl, rfl, rfl, Nat.le_refl _, fun _ _ _ => rfl⟩
theorem Upd.alloc (w : World) (o : Obj) : Ext w (w.alloc o) := ⟨rfl, rfl, rfl, by simp, fun k hk _ => Below.heap_alloc w o k hk⟩
theorem Upd.setCell (w : World) (a : Addr) (v : Value) : Upd w (w.setCell a v) [a.block] :=
  ⟨rfl, rfl, rfl, by simp, fun k _ hn => heap_setCell_other w a k v (fun e => hn (by simp [e]))⟩
theorem Upd.setRow (w : World) (g : Nat) (cs : Array Value) : Upd w (w.setRow g cs) [g] :=
  ⟨rfl, rfl, rfl, by simp, fun k _ hn => setRow_other w g k cs (fun e => hn (by simp [e]))⟩
theorem Upd.heap {w w' : World} {S : List Nat} (h : Upd w w' S) {k : Nat} {o : Obj} (ho : w.heap[k]? = some o) (hn : k ∉ S) : w'.heap[k]? = some o :=
  (h.block k (Array.getElem?_eq_some_iff.1 ho).1 hn).trans ho
theorem Upd.cell {w w' : World} {S : List Nat} (h : Upd w w' S) {a : Addr} {v : Value} (hc : w.cell? a = some v) (hn : a.block ∉ S) : w'.cell? a = some v :=
  (World.cell?_of_block (h.block a.block (World.block_lt_of_cell? w a hc) hn)).trans hc
theorem lt_of_heap {w : World} {k : Nat} {o : Obj} (h : w.heap[k]? = some o) : k < w.heap.size := (Array.getElem?_eq_some_iff.1 h).1
theorem Below.upd {B : Nat} {a w w' : World} {S : List Nat} (h : Below B a w) (u : Upd w w' S) (hB : B ≤ w.heap.size) (hS : ∀ k ∈ S, B ≤ k) : Below B a w' :=
  h.trans ⟨u.os, u.tape, u.output, u.size, fun k hk => u.block k (Nat.lt_of_lt_of_le hk hB) (fun hm => by have := hS k hm; omega)⟩
theorem Upd.below {w w' : World} (h : Ext w w') : Below w.heap.size w w' := ⟨h.os, h.tape, h.output, h.size, fun k hk => h.block k hk (by simp)⟩
theorem Upd.of_below {w w' : World} (h : Below w.heap.size w w') : Ext w w' := ⟨h.os, h.tape, h.output, h.size, fun k hk _ => h.block k hk⟩

/-- The slice does not lie in block b. -/
def Off (v : Value) (b : Nat) : Prop := v.ownBlock ≠ some b
theorem Sl.upd {w w' : World} {S : List Nat} {v : Value} {xs : List Value} (h : Sl w v xs) (u : Upd w w' S) (hS : ∀ b ∈ S, Off v b) : Sl w' v xs := by
  obtain ⟨a, cap, rfl, h1, h2, h3⟩ := h
  refine ⟨a, cap, rfl, h1, h2, fun i c hi => ?_⟩
  obtain ⟨x, rfl, hx⟩ := h3 i c hi
  refine ⟨x, rfl, u.cell hx fun hm => ?_⟩
  have e : (x.add i).block = x.block := by unfold Addr.add; split <;> rfl
  rw [e] at hm
  exact hS _ hm rfl
theorem Sl.ext {w w' : World} {v : Value} {xs : List Value} (h : Sl w v xs) (u : Ext w w') : Sl w' v xs := h.upd u (by simp)
theorem Sl.nil (w : World) : Sl w (.slice none 0 0) [] := ⟨none, 0, rfl, Nat.le_refl _, by simp [maxLen], fun i u h => by simp at h⟩

/-- The slice value v (g: its block, if it has one) owns the cells xs, each element one cell of type e. -/
def Own (w : World) (e : TypeId) (g : Option Nat) (v : Value) (xs : List Value) : Prop :=
  (g = none ∧ v = .slice none 0 0 ∧ xs = []) ∨
  ∃ b cap cur, g = some b ∧ v = .slice (some ⟨b, 0, none⟩) xs.length cap ∧ w.heap[b]? = some (.cells cur e (0, 0)) ∧ xs.length ≤ cap ∧ cap ≤ maxLen ∧ cur.size = cap ∧ cur.toList.take xs.length = xs

theorem Own.nil (w : World) (e : TypeId) : Own w e none (.slice none 0 0) [] := .inl ⟨rfl, rfl, rfl⟩
theorem Own.sl {w : World} {e : TypeId} {g : Option Nat} {v : Value} {xs : List Value} (h : Own w e g v xs) : Sl w v xs := by
  rcases h with ⟨rfl, rfl, rfl⟩ | ⟨b, cap, cur, rfl, rfl, hb, h1, h2, h3, h4⟩
  · exact Sl.nil w
  · refine ⟨_, cap, rfl, h1, h2, fun i u hi => ⟨_, rfl, ?_⟩⟩
    rw [Addr.add_lit, Nat.zero_add, cell_of_row w b i cur e (0, 0) hb]
    rw [← h4, List.getElem?_take] at hi
    split at hi
    · simpa using hi
    · cases hi
theorem Own.upd {w w' : World} {S : List Nat} {e : TypeId} {g : Option Nat} {v : Value} {xs : List Value} (h : Own w e g v xs) (u : Upd w w' S) (hS : ∀ b, g = some b → b ∉ S) : Own w' e g v xs := by
  rcases h with h | ⟨b, cap, cur, rfl, rfl, hb, h1, h2, h3, h4⟩
  · exact .inl h
  · exact .inr ⟨b, cap, cur, rfl, rfl, u.heap hb (hS b rfl), h1, h2, h3, h4⟩
theorem Own.ext {w w' : World} {e : TypeId} {g : Option Nat} {v : Value} {xs : List Value} (h : Own w e g v xs) (u : Ext w w') : Own w' e g v xs := h.upd u (by simp)
theorem Own.lt {w : World} {e : TypeId} {g : Option Nat} {v : Value} {xs : List Value} (h : Own w e g v xs) {b : Nat} (hg : g = some b) : b < w.heap.size := by
  rcases h with ⟨rfl, _⟩ | ⟨b', cap, cur, rfl, rfl, hb, _⟩
  · cases hg
  · cases hg; exact lt_of_heap hb
theorem Own.block {w : World} {e : TypeId} {g : Option Nat} {v : Value} {xs : List Value} (h : Own w e g v xs) : v.ownBlock = g := by
  rcases h with ⟨rfl, rfl, _⟩ | ⟨b', cap, cur, rfl, rfl, _⟩ <;> rfl
theorem Own.off {w : World} {e : TypeId} {g : Option Nat} {v : Value} {xs : List Value} (h : Own w e g v xs) {b : Nat} (hb : g ≠ some b) : Off v b := by unfold Off; rw [h.block]; exact hb

/-- A block that the slice's may be now: as it was, or new. -/
def Was (w : World) (g g' : Option Nat) : Prop := g' = g ∨ ∃ b, g' = some b ∧ w.heap.size ≤ b

section
variable {P : Program} {E : Env P} {n : Sh} {Q0 : Exit → Act → World → Prop} {s : List K} {fr : Fr} {w : World} {ops : Array Oper} {rest : List Oper} {d : Nat} {ty t e : TypeId} {pos : String} {after : Array Edge} {v u z : Value}
  {x y : Operand} {by_ : Nat}

theorem blk_cell {b j : Nat} {cs : Array Value} {T : TypeId} {f : Nat × Nat} (h : w.heap[b]? = some (.cells cs T f)) (hj : cs[j]? = some v) : w.cell? ⟨b, j, none⟩ = some v :=
  (cell_of_row w b j cs T f h).trans hj

/-- A store of one cell into a block that is known. -/
theorem SO_store {b j : Nat} {cs : Array Value} {T : TypeId} (ht : lk E.inf t = some (z, 1, by_)) (ha : ev fr x = some (.pointer (some ⟨b, j, none⟩))) (hx : ev fr y = some v) (hv : v.oneCell' = true)
    (hb : w.heap[b]? = some (.cells cs T (0, 0))) (hj' : Nat.blt j cs.size = true)
    (h : ∀ w', Upd w w' [b] → w'.heap[b]? = some (.cells (cs.setIfInBounds j v) T (0, 0)) → SO E n Q0 s ops rest fr w') :
    SO E n Q0 s ops (⟨none, .store t x y, ty, pos, after, none⟩ :: rest) fr w := by
  refine SO_u (w' := w.setCell ⟨b, j, none⟩ v) ⟨fun a ha' _ _ _ _ => ?_⟩ (h _ (Upd.setCell w _ v) (heap_setCell_same w b j cs T v hb))
  obtain ⟨inf, hi, _, hs, _⟩ := E.info ht
  have hj := nblt_lt hj'
  have hc : w.cell? ⟨b, j, none⟩ = some cs[j] := blk_cell hb (Array.getElem?_eq_getElem hj)
  have hf : w.frozen? ⟨b, j, none⟩ = false := frozen_of_row w b j cs T hb
  have hcs : v.cells = #[v] := by cases v <;> first | rfl | (simp [Value.oneCell'] at hv)
  simp only [execOp, ha'.ev ha, ha'.ev hx]
  simp only [Instr.storeAt, Instr.sureAddr, storeVar, sizeOf, typeInfo, hi, hs, hcs]
  have hst : (store (⟨b, j, none⟩ : Addr) v).run P w = .ok () (w.setCell ⟨b, j, none⟩ v) := by
    unfold store
    cases v <;> first | (simp [Value.oneCell'] at hv; done) | simp [Sem.run, hc, hf]
  simp [storeCells, Addr.add, hi, hs, hst]

/-- A new variable (one whose address is taken; &T{..}). -/
theorem SO_box {d : Nat} (hd : Nat.blt d n.n = true) (hx : ev fr x = some v)
    (h : ∀ w', Ext w w' → w'.heap.size = w.heap.size + 1 → w'.heap[w.heap.size]? = some (.cells v.cells t (0, 0)) → SO E n Q0 s ops rest ((d, .pointer (some ⟨w.heap.size, 0, none⟩)) :: fr) w') :
    SO E n Q0 s ops (⟨some d, .box t x, ty, pos, after, none⟩ :: rest) fr w := by
  refine SO_v hd (w' := w.alloc (.cells v.cells t)) ⟨fun a ha' _ _ _ _ => ?_⟩ (h _ (Upd.alloc w _) (by simp) (heap_alloc_new w _))
  simp only [execOp, ha'.ev hx]
  simp [Instr.box, newVar, newRow, newObj, Sem.run]
theorem SO_alloc {d sz : Nat} (hd : Nat.blt d n.n = true) (ht : lk E.inf t = some (z, sz, by_))
    (h : ∀ w', Ext w w' → w'.heap.size = w.heap.size + 1 → w'.heap[w.heap.size]? = some (.cells z.cells t (0, 0)) → SO E n Q0 s ops rest ((d, .pointer (some ⟨w.heap.size, 0, none⟩)) :: fr) w') :
    SO E n Q0 s ops (⟨some d, .alloc t, ty, pos, after, none⟩ :: rest) fr w := by
  refine SO_v hd (w' := w.alloc (.cells z.cells t)) ⟨fun a ha' _ _ _ _ => ?_⟩ (h _ (Upd.alloc w _) (by simp) (heap_alloc_new w _))
  obtain ⟨inf, hi, hz, _, _⟩ := E.info ht
  simp only [execOp]
  simp [Instr.alloc, zeroValue, typeInfo, hi, hz, newVar, newRow, newObj, Sem.run]

theorem R_iface {d : TypeDesc} (ht : lk E.und t = some d) (hd : (match d with | .interface _ => false | _ => true) = true) (hx : ev fr x = some v) : OpV P n fr (.makeInterface t x) ty w (.iface t v) w := ⟨fun a ha _ _ _ _ => by
  simp only [execOp, ha.ev hx]
  have h1 := run_underlying (P := P) (E.un ht) w
  cases d <;> first | (cases hd; done) | simp [Instr.makeInterface, h1]⟩
theorem R_ptrEqNil {p : Option Addr} {el : TypeId} (ht : lk E.und t = some (.pointer el)) (hx : ev fr x = some (.pointer p)) {t' : TypeId} : OpV P n fr (.binOp .eql t x (.const (.pointer none)) t') ty w (.bool p.isNone) w := ⟨fun a ha _ _ _ _ => by
  have hp : P.underlying t = some (.pointer (P.pointee t)) := by have := E.un ht; rw [this]; simp [Program.pointee, this]
  have hg : (eqGuard .eql t x (.const (.pointer none)) (.pointer p) (.pointer none)).run P w = .ok () w := rfl
  simp only [execOp, ha.ev hx]
  simp [Act.eval, hg, run_eql_pointer_nil w t p hp]⟩
theorem R_ptrNeNil {p : Option Addr} {el : TypeId} (ht : lk E.und t = some (.pointer el)) (hx : ev fr x = some (.pointer p)) {t' : TypeId} : OpV P n fr (.binOp .neq t x (.const (.pointer none)) t') ty w (.bool (!p.isNone)) w := ⟨fun a ha _ _ _ _ => by
  have hp : P.underlying t = some (.pointer (P.pointee t)) := by have := E.un ht; rw [this]; simp [Program.pointee, this]
  have hg : (eqGuard .neq t x (.const (.pointer none)) (.pointer p) (.pointer none)).run P w = .ok () w := rfl
  simp only [execOp, ha.ev hx]
  simp [Act.eval, hg, run_neq_pointer_nil w t p hp]⟩
theorem R_slEqNil {o : Option Addr} {l c : Nat} {el : TypeId} (ht : lk E.und t = some (.slice el)) (hx : ev fr x = some (.slice o l c)) {t' : TypeId} : OpV P n fr (.binOp .eql t x (.const (.slice none 0 0)) t') ty w (.bool o.isNone) w := ⟨fun a ha _ _ _ _ => by
  have hg : (eqGuard .eql t x (.const (.slice none 0 0)) (.slice o l c) (.slice none 0 0)).run P w = .ok () w := rfl
  simp only [execOp, ha.ev hx]
  simp [Act.eval, hg, Lib.run_eql_slice_nil w t el o l c 0 0 (E.un ht)]⟩
theorem R_ifEqNil {ms : Array (String × TypeId)} {tt : TypeId} (ht : lk E.und t = some (.interface ms)) (hx : ev fr x = some (.iface tt v)) {t' : TypeId} : OpV P n fr (.binOp .eql t x (.const .nilIface) t') ty w (.bool false) w := ⟨fun a ha _ _ _ _ => by
  have hg : (eqGuard .eql t x (.const .nilIface) (.iface tt v) .nilIface).run P w = .ok () w := rfl
  have hm : P.underlying t = some (.interface (P.methodsAt t)) := by have := E.un ht; rw [this]; simp [Program.methodsAt, this]
  simp only [execOp, ha.ev hx]
  simp [Act.eval, hg, run_eql_held_nil (P := P) w t tt v hm]⟩
theorem R_ifNilEqNil {ms : Array (String × TypeId)} (ht : lk E.und t = some (.interface ms)) (hx : ev fr x = some .nilIface) {t' : TypeId} : OpV P n fr (.binOp .eql t x (.const .nilIface) t') ty w (.bool true) w := ⟨fun a ha _ _ _ _ => by
  have hg : (eqGuard .eql t x (.const .nilIface) .nilIface .nilIface).run P w = .ok () w := by cases x <;> rfl
  have hm : P.underlying t = some (.interface (P.methodsAt t)) := by have := E.un ht; rw [this]; simp [Program.methodsAt, this]
  simp only [execOp, ha.ev hx]
  simp [Act.eval, hg, run_eql_nil_nil (P := P) w t hm]⟩
theorem R_boolEq {b1 b2 : Bool} (hx : ev fr x = some (.bool b1)) (hy : ev fr y = some (.bool b2)) (ht : lk E.und t = some .bool) {t' : TypeId} : OpV P n fr (.binOp .eql t x y t') ty w (.bool (b1 == b2)) w := ⟨fun a ha _ _ _ _ => by
  have hg : (eqGuard .eql t x y (.bool b1) (.bool b2)).run P w = .ok () w := rfl
  simp only [execOp, ha.ev hx, ha.ev hy]
  simp [hg, run_eql_bool (P := P) w t b1 b2 (E.un ht)]⟩

/-! ### append -/
theorem run_append_zero (t' : TypeId) {o : Option Addr} {l c : Nat} {o' : Option Addr} {c' : Nat} (w : World) (ht : P.underlying t = some (.slice e)) {i : TypeInfo} (hi : P.info? e = some i) (hlc : l ≤ c) :
    (Builtin.append_ #[t, t] t' #[.slice o l c, .slice o' 0 c']).run P w = .ok (.slice o l c) w := by
  cases o <;> cases o' <;> simp [Builtin.append_, run_underlying ht, sizeOf, typeInfo, hi, Builtin.lenOf, Builtin.firstCells, loadCells, loadCellsFrom, storeCells, hlc]

theorem run_append (t' : TypeId) (w : World) (ht : lk E.und t = some (.slice e)) (he : lk E.inf e = some (z, 1, by_)) (hz : z.cells.size = 1) {g : Option Nat} {xs news : List Value} (hown : Own w e g v xs) (hu : Sl w u news)
    (h1 : ∀ c ∈ news, c.oneCell' = true) (hby : (xs.length + news.length) * by_ ≤ 140737488355328) (h63 : xs.length + news.length ≤ 9223372036854775807) :
    ∃ v' w' g', (Builtin.append_ #[t, t] t' #[v, u]).run P w = .ok v' w' ∧ Own w' e g' v' (xs ++ news) ∧ Upd w w' g.toList ∧ Was w g g' ∧ (xs ++ news ≠ [] → g' ≠ none) ∧ (g ≠ none → g' ≠ none) := by
  obtain ⟨inf, hi, hiz, his, hib⟩ := E.info he
  have ht' := E.un ht
  obtain ⟨a, cu, rfl, hn1, hn2, hcell⟩ := hu
  by_cases h0 : news = []
  · subst h0
    refine ⟨v, w, g, ?_, by simpa using hown, Upd.refl _ _, .inl rfl, ?_, fun h => h⟩
    · rcases hown with ⟨rfl, rfl, rfl⟩ | ⟨b, cap, cur, rfl, rfl, hb, h2, h3, h4, h5⟩
      · exact run_append_zero t' w ht' hi (Nat.le_refl _)
      · exact run_append_zero t' w ht' hi h2
    · rcases hown with ⟨rfl, rfl, rfl⟩ | ⟨b, cap, cur, rfl, rfl, hb, h2, h3, h4, h5⟩
      · simp
      · intro _ h; cases h
  · have hpos : 0 < news.length := by cases news with | nil => exact absurd rfl h0 | cons => simp
    obtain ⟨ad, rfl, _⟩ := hcell 0 news[0] (List.getElem?_eq_getElem hpos)
    have hnews : ∀ j c, news[j]? = some c → w.cell? (ad.add j) = some c := fun j c hj => by
      obtain ⟨y, hy, hc⟩ := hcell j c hj
      cases hy; exact hc
    have hl : news.length = news.length * inf.size := by rw [his, Nat.mul_one]
    subst hib
    have hml : ∀ need old, need ≤ 9223372036854775807 → grownCap w need old e ≤ maxLen := fun need old h => grownCap_le_maxLen w need old e (by unfold maxLen; omega)
    have grow : ∀ (old : Nat), Own (w.drew.alloc (.cells (xs.toArray ++ news.toArray ++ Builtin.zeroCells z.cells (grownCap w (xs.length + news.length) old e - (xs.length + news.length))) e)) e (some w.heap.size)
        (.slice (some ⟨w.heap.size, 0, none⟩) (xs.length + news.length) (grownCap w (xs.length + news.length) old e)) (xs ++ news) := by
      intro old
      have hge := grownCap_ge w (xs.length + news.length) old e
      refine .inr ⟨w.heap.size, grownCap w (xs.length + news.length) old e, _, rfl, by simp, heap_alloc_new w.drew _, by simpa using hge, hml _ _ h63, ?_, ?_⟩
      · simp only [Array.size_append, List.size_toArray, size_zeroCells, hz, Nat.mul_one]; omega
      · simp only [Array.toList_append, List.append_assoc]
        rw [← List.append_assoc]
        exact List.take_left
    have hupd : ∀ (o : Obj) (S : List Nat), Upd w (w.drew.alloc o) S := fun o S => ((Upd.drew w).trans (Upd.alloc w.drew o)).weak (by simp)
    rcases hown with ⟨rfl, rfl, rfl⟩ | ⟨b, cap, cur, rfl, rfl, hb, h2, h3, h4, h5⟩
    · have hr := run_append_nil (P := P) w t t' e inf z ht' hi hiz ad news.length cu news hl hnews hpos (by simp at h63; omega) (by simp at hby; omega)
      have hg := grow 0
      simp only [List.length_nil, Nat.zero_add, List.nil_append, Array.empty_append] at hg ⊢
      exact ⟨_, _, _, hr, hg, hupd _ _, .inr ⟨_, rfl, Nat.le_refl _⟩, fun _ h => (by cases h), fun _ h => (by cases h)⟩
    · by_cases hroom : xs.length + news.length ≤ cap
      · have hr := run_append_room (P := P) w t t' e inf ht' hi b xs.length cap cur hb ad news.length cu news hl hnews h1 hroom (by rw [his, h4]; omega)
        refine ⟨_, _, some b, hr, .inr ⟨b, cap, _, rfl, by simp, setRow_heap w b cur _ e _ hb, by simpa using hroom, h3, ?_, ?_⟩, Upd.setRow w b _, .inl rfl, fun _ h => (by cases h), fun _ h => (by cases h)⟩
        · simp only [List.size_toArray, List.length_append, List.length_take, List.length_drop, Array.length_toList, his]; omega
        · rw [his, Nat.mul_one, h5]
          exact List.take_left
      · have hc : ∀ j c, xs[j]? = some c → w.cell? ((⟨b, 0, none⟩ : Addr).add j) = some c := fun j c hj =>
          (Own.sl (.inr ⟨b, cap, cur, rfl, rfl, hb, h2, h3, h4, h5⟩) : Sl w (.slice (some ⟨b, 0, none⟩) xs.length cap) xs).cell hj
        have hr := run_append_grow (P := P) w t t' e inf z ht' hi hiz ⟨b, 0, none⟩ xs.length cap xs (by rw [his, Nat.mul_one]) hc ad news.length cu news hl hnews (by omega) (by omega) (growslice_fits (by omega) hby)
        exact ⟨_, _, _, hr, grow cap, hupd _ _, .inr ⟨_, rfl, Nat.le_refl _⟩, fun _ h => (by cases h), fun _ h => (by cases h)⟩

theorem SO_append (hd : Nat.blt d n.n = true) (ht : lk E.und t = some (.slice e)) (he : lk E.inf e = some (z, 1, by_)) (hz : z.cells.size = 1) {g : Option Nat} {xs news : List Value} (hx : ev fr x = some v) (hy : ev fr y = some u)
    (hown : Own w e g v xs) (hu : Sl w u news) (h1 : ∀ c ∈ news, c.oneCell' = true) (hby : (xs.length + news.length) * by_ ≤ 140737488355328) (h63 : xs.length + news.length ≤ 9223372036854775807)
    (h : ∀ v' w' g', Own w' e g' v' (xs ++ news) → Upd w w' g.toList → Was w g g' → (xs ++ news ≠ [] → g' ≠ none) → (g ≠ none → g' ≠ none) → SO E n Q0 s ops rest ((d, v') :: fr) w') :
    SO E n Q0 s ops (⟨some d, .call ⟨.builtin .append, #[x, y], #[t, t]⟩, ty, pos, after, none⟩ :: rest) fr w := by
  obtain ⟨v', w', g', hr, h2, h3, h4, h5, h6⟩ := run_append (P := P) ty w ht he hz hown hu h1 hby h63
  refine SO_v hd (w' := w') (v := v') ⟨fun a ha' _ _ _ _ => ?_⟩ (h v' w' g' h2 h3 h4 h5 h6)
  simp only [execOp, resolve]
  simp [ha'.ev hx, ha'.ev hy, invoke, builtin, hr]

/-- A slice literal of one-cell elements. -/
def idxP {α : Type} : Nat → List α → List (Nat × α)
  | _, [] => []
  | i, x :: r => (i, x) :: idxP (i + 1) r
theorem oneCell_cells {v : Value} (h : v.oneCell' = true) : v.cells = #[v] := by cases v <;> first | rfl | (simp [Value.oneCell'] at h)
theorem fill_idx : ∀ (vs : List Value) (j : Nat) (cells : Array Value), (∀ v ∈ vs, v.oneCell' = true) → j + vs.length ≤ cells.size →
    Instr.fill (fun i => some (i * 1, 1)) cells (idxP j vs) = some (cells.toList.take j ++ vs ++ cells.toList.drop (j + vs.length)).toArray
  | [], j, cells, _, _ => by simp [idxP, Instr.fill]
  | v :: r, j, cells, h1, hl => by
    have hv := oneCell_cells (h1 v (by simp))
    simp only [List.length_cons] at hl
    have hb : ¬ (j * 1 + 1 > cells.size) := by omega
    simp only [idxP, Instr.fill, hv]
    simp only [List.size_toArray, List.length_cons, List.length_nil, Nat.zero_add, ne_eq, not_true_eq_false, decide_false, Bool.false_or, decide_eq_true_eq, hb, if_false]
    have e : (#[v].zipIdx.foldl (fun cs (x : Value × Nat) => cs.setIfInBounds (j * 1 + x.2) x.1) cells) = cells.setIfInBounds j v := by simp
    have hrec := fill_idx r (j + 1) (cells.setIfInBounds j v) (fun u hu => h1 u (by simp [hu])) (by simp; omega)
    show Instr.fill _ (#[v].zipIdx.foldl (fun cs (x : Value × Nat) => cs.setIfInBounds (j * 1 + x.2) x.1) cells) _ = _
    rw [e, hrec]
    congr 2
    simp only [Array.toList_setIfInBounds, List.length_cons]
    rw [List.take_succ_eq_append_getElem (by simp; omega)]
    have e2 : j + 1 + r.length = j + (r.length + 1) := by omega
    rw [e2, List.take_set_of_le (Nat.le_refl _), List.drop_set_of_lt (by omega)]
    simp
theorem SO_slit {k : Nat} {parts : List (Nat × Operand)} {vs : List Value} (hd : Nat.blt d n.n = true) (ht : lk E.und t = some (.slice e)) (he : lk E.inf e = some (z, 1, by_))
    (hp : parts = idxP 0 (parts.map (·.2))) (hv : evs fr (parts.map (·.2)) = some vs) (h1 : ∀ v ∈ vs, v.oneCell' = true) (hk : vs.length = k) (hk0 : Nat.blt 0 k = true) (hkm : Nat.ble k 16777216 = true)
    (h : ∀ w', Ext w w' → Own w' e (some w.heap.size) (.slice (some ⟨w.heap.size, 0, none⟩) k k) vs → SO E n Q0 s ops rest ((d, .slice (some ⟨w.heap.size, 0, none⟩) k k) :: fr) w') :
    SO E n Q0 s ops (⟨some d, .buildSlice t k parts.toArray, ty, pos, after, none⟩ :: rest) fr w := by
  subst hk
  obtain ⟨inf, hi, hiz, his, _⟩ := E.info he
  have hkm' := Nat.le_of_ble_eq_true hkm
  have hk0' := nblt_lt hk0
  refine SO_v hd (w' := w.alloc (.cells vs.toArray e)) ⟨fun a ha' _ _ _ _ => ?_⟩ (h _ (Upd.alloc w _) (.inr ⟨w.heap.size, vs.length, vs.toArray, rfl, rfl, heap_alloc_new w _, Nat.le_refl _, by unfold maxLen; omega, by simp, by simp⟩))
  have hmap : (parts.map fun (x : Nat × Operand) => (x.1, a.eval x.2)) = idxP 0 vs := by
    have hev := ha'.evs hv
    have gen : ∀ (l : List Operand) (i : Nat), (idxP i l).map (fun (x : Nat × Operand) => (x.1, a.eval x.2)) = idxP i (l.map a.eval) := by
      intro l
      induction l with
      | nil => intro i; rfl
      | cons o r ih => intro i; simp [idxP, ih]
    rw [hp, gen, hev]
  have hfill := fill_idx vs 0 ((Array.range (vs.length * 1)).map (z.cells[· % z.cells.size]!)) h1 (by simp)
  have hres : ((List.take 0 ((Array.range (vs.length * 1)).map (z.cells[· % z.cells.size]!)).toList ++ vs ++ List.drop (0 + vs.length) ((Array.range (vs.length * 1)).map (z.cells[· % z.cells.size]!)).toList).toArray) = vs.toArray := by
    simp
  rw [hres] at hfill
  have hn0 : ¬ vs.length = 0 := by omega
  have hn1 : ¬ 2 ^ 24 < vs.length := by omega
  have hgo : (Instr.buildSlice t vs.length ((parts.toArray.map fun (x : Nat × Operand) => (x.1, a.eval x.2)))).run P w = .ok (.slice (some ⟨w.heap.size, 0, none⟩) vs.length vs.length) (w.alloc (.cells vs.toArray e)) := by
    have hl : ((parts.toArray.map fun (x : Nat × Operand) => (x.1, a.eval x.2))).toList = idxP 0 vs := by simp [hmap]
    simp only [Instr.buildSlice, hl]
    simp only [Nat.mul_one] at hfill
    simp [run_underlying (P := P) (E.un ht) w, sizeOf, typeInfo, hi, his, zeroValue, hiz, hn0, hn1, hfill, newRow, newObj, Sem.run]
  simp only [execOp]
  show Sem.run P (do let v ← Instr.buildSlice t vs.length ((parts.toArray.map fun (x : Nat × Operand) => (x.1, a.eval x.2))); pure (Next.value v)) w = _
  rw [List.map_toArray] at hgo
  simp [hgo]
theorem SO_slit0 (hd : Nat.blt d n.n = true) (ht : lk E.und t = some (.slice e)) (he : lk E.inf e = some (z, 1, by_))
    (h : ∀ w', Ext w w' → Own w' e (some w.heap.size) (.slice (some ⟨w.heap.size, 0, none⟩) 0 0) [] → SO E n Q0 s ops rest ((d, .slice (some ⟨w.heap.size, 0, none⟩) 0 0) :: fr) w') :
    SO E n Q0 s ops (⟨some d, .buildSlice t 0 #[], ty, pos, after, none⟩ :: rest) fr w := by
  obtain ⟨inf, hi, _, his, _⟩ := E.info he
  refine SO_v hd (w' := w.alloc (.cells #[] e)) ⟨fun a ha' _ _ _ _ => ?_⟩ (h _ (Upd.alloc w _) (.inr ⟨w.heap.size, 0, #[], rfl, rfl, heap_alloc_new w _, Nat.le_refl _, by simp [maxLen], rfl, by simp⟩))
  simp only [execOp]
  simp [Instr.buildSlice, run_underlying (P := P) (E.un ht) w, sizeOf, typeInfo, hi, Instr.fill, newRow, newObj, Sem.run]
  congr 2
  exact Array.eq_empty_of_size_eq_zero (by simp)

/-- make([]T, n). -/
theorem SO_make {k : IntKind} {m : Int} (hd : Nat.blt d n.n = true) (ht : lk E.und t = some (.slice e)) (he : lk E.inf e = some (z, 1, by_)) (hz : z.cells = #[z]) (hx : ev fr x = some (.int k m)) (hy : ev fr y = some (.int k m))
    (h0 : 0 ≤ m) (hby : by_ * m.toNat ≤ 281474976710656) (h63 : m ≤ 9223372036854775807)
    (h : ∀ w' v, Ext w w' → Own w' e (some w.heap.size) v (List.replicate m.toNat z) → SO E n Q0 s ops rest ((d, v) :: fr) w') :
    SO E n Q0 s ops (⟨some d, .makeSlice t x y, ty, pos, after, none⟩ :: rest) fr w := by
  obtain ⟨inf, hi, hiz, his, hib⟩ := E.info he
  have hm : m = ((m.toNat : Nat) : Int) := by omega
  obtain ⟨w', hr, hown, hg⟩ := run_make_full (P := P) w 0 t e inf z 1 (E.un ht) hi hiz his k k m.toNat (by rw [hib]; exact hby) (by unfold maxLen; omega) (Nat.zero_le _)
  have hU : Ext w w' := ⟨hg.os, hg.tape, hg.output, hg.size, fun k hk _ => hg.block k hk (by simp)⟩
  have hO : Own w' e (some w.heap.size) (.slice (some ⟨w.heap.size, 0, none⟩) m.toNat m.toNat) (List.replicate m.toNat z) := by
    have hl : (madeCells z.cells (m.toNat * 1)).toList = List.replicate m.toNat z := by rw [Nat.mul_one, hz, toList_madeCells_one]
    rw [hl] at hown
    rcases hown.2 with ⟨h1, _⟩ | ⟨g, cap, cur, h1, _, h2, h3, h4, h5, h6⟩
    · cases h1
    · simp only [Value.slice.injEq, Option.some.injEq, Addr.mk.injEq, true_and, and_true] at h1
      obtain ⟨rfl, rfl⟩ := h1
      refine .inr ⟨_, m.toNat, cur, rfl, by simp, h2, by simp, h4, by omega, ?_⟩
      simpa using h6
  refine SO_v hd (w' := w') ⟨fun a ha' _ _ _ _ => ?_⟩ (h w' _ hU hO)
  rw [← hm] at hr
  simp only [execOp, ha'.ev hx, ha'.ev hy]
  simp [hr]

/-- A store into an own slice's element. -/
theorem Own.addr {w : World} {g : Option Nat} {xs : List Value} (h : Own w e g v xs) {i : Nat} (hi : i < xs.length) : ∃ b, g = some b ∧ addrAt v i = ⟨b, i, none⟩ := by
  rcases h with ⟨_, _, rfl⟩ | ⟨b, cap, cur, rfl, rfl, hb, h2, h3, h4, h5⟩
  · simp at hi
  · exact ⟨b, rfl, by simp [addrAt, Addr.add_lit]⟩
theorem SO_storeAt {i : Nat} {g : Option Nat} {xs : List Value} {c : Value} (ht : lk E.inf t = some (z, 1, by_)) (hown : Own w e g v xs) (ha : ev fr x = some (.pointer (some (addrAt v i)))) (hx : ev fr y = some c) (hc : c.oneCell' = true)
    (hi : i < xs.length) (h : ∀ w', Upd w w' g.toList → Own w' e g v (xs.set i c) → SO E n Q0 s ops rest fr w') :
    SO E n Q0 s ops (⟨none, .store t x y, ty, pos, after, none⟩ :: rest) fr w := by
  obtain ⟨b, hg, hA⟩ := hown.addr hi
  subst hg
  rw [hA] at ha
  rcases hown with ⟨h0, _⟩ | ⟨b', cap, cur, hb', rfl, hb, h2, h3, h4, h5⟩
  · cases h0
  · cases hb'
    refine SO_store ht ha hx hc hb (lt_nblt (by omega)) fun w' hU hH => h w' (by simpa using hU) (.inr ⟨b, cap, _, rfl, by simp, hH, by simpa using h2, h3, by simpa using h4, ?_⟩)
    rw [List.length_set, Array.toList_setIfInBounds, List.take_set, h5]
end
end Go.Art
