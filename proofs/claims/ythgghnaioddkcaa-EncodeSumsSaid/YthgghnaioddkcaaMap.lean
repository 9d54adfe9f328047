/- Maps of integers: their contents, and the operations on them. Conditions: none. -/
import Derived.Test.YthgghnaioddkcaaAuto
import Derived.MapKept
set_option linter.unusedSimpArgs false
set_option linter.unusedVariables false
namespace Go.Art
open Go Go.RowKit

abbrev dI : TypeDesc := .int .i64
def updF (f : Int → Option Value) (k : Int) (v : Value) : Int → Option Value := fun k' => if k' = k then some v else f k'
def delF (f : Int → Option Value) (k : Int) : Int → Option Value := fun k' => if k' = k then none else f k'
theorem updF_same (f : Int → Option Value) (k : Int) (v : Value) : updF f k v k = some v := if_pos rfl
theorem updF_other (f : Int → Option Value) {k k' : Int} (v : Value) (h : k' ≠ k) : updF f k v k' = f k' := if_neg h

/-- The entries es are just what f says. -/
structure Tells (es : Array MapEntry) (clock : Nat) (f : Int → Option Value) : Prop where
  st : MapKept.Stamped es clock
  ks : ∀ x ∈ es.toList, MapKept.IsKey dI x.key
  to : ∀ k v, f k = some v ↔ ∃ x ∈ es.toList, x.key = I k ∧ x.val = v

theorem Tells.nil : Tells #[] 0 (fun _ => none) := ⟨MapKept.stamped_empty 0, by simp, by simp⟩

theorem Tells.push {es : Array MapEntry} {clock : Nat} {f : Int → Option Value} (h : Tells es clock f) {k : Int} (hk : ∀ x ∈ es.toList, x.key ≠ I k) (v : Value) :
    Tells (es.push { key := I k, val := v, born := clock }) (clock + 1) (updF f k v) := by
  refine ⟨MapKept.stamped_push h.st hk, ?_, ?_⟩
  · intro x hx
    simp only [Array.toList_push, List.mem_append, List.mem_singleton] at hx
    rcases hx with hx | rfl
    · exact h.ks x hx
    · rfl
  · intro k' v'
    simp only [Array.toList_push, List.mem_append, List.mem_singleton]
    by_cases hkk : k' = k
    · subst hkk
      rw [updF_same]
      constructor
      · intro e; cases e; exact ⟨_, .inr rfl, rfl, rfl⟩
      · rintro ⟨x, hx | rfl, h1, h2⟩
        · exact absurd h1 (hk x hx)
        · exact congrArg some h2
    · rw [updF_other f v hkk, h.to]
      constructor
      · rintro ⟨x, hx, h1, h2⟩; exact ⟨x, .inl hx, h1, h2⟩
      · rintro ⟨x, hx | rfl, h1, h2⟩
        · exact ⟨x, hx, h1, h2⟩
        · exfalso; injection h1 with _ h1; exact hkk h1.symm

theorem mem_get {es : Array MapEntry} {x : MapEntry} : x ∈ es.toList ↔ ∃ j : Nat, es[j]? = some x := by
  rw [Array.mem_toList_iff, Array.mem_iff_getElem?]

theorem keys_inj {es : Array MapEntry} (h : (es.toList.map MapEntry.key).Nodup) {i j : Nat} {x y : MapEntry} (hi : es[i]? = some x) (hj : es[j]? = some y) (e : x.key = y.key) : i = j := by
  obtain ⟨hil, rfl⟩ := Array.getElem?_eq_some_iff.1 hi
  obtain ⟨hjl, rfl⟩ := Array.getElem?_eq_some_iff.1 hj
  have := (List.getElem_inj (i := i) (j := j) (xs := es.toList.map MapEntry.key) (h₀ := by simpa using hil) (h₁ := by simpa using hjl) h).1 (by simpa using e)
  exact this
theorem borns_inj {es : Array MapEntry} (h : (es.toList.map MapEntry.born).Nodup) {i j : Nat} {x y : MapEntry} (hi : es[i]? = some x) (hj : es[j]? = some y) (e : x.born = y.born) : i = j := by
  obtain ⟨hil, rfl⟩ := Array.getElem?_eq_some_iff.1 hi
  obtain ⟨hjl, rfl⟩ := Array.getElem?_eq_some_iff.1 hj
  have := (List.getElem_inj (i := i) (j := j) (xs := es.toList.map MapEntry.born) (h₀ := by simpa using hil) (h₁ := by simpa using hjl) h).1 (by simpa using e)
  exact this

/-- One entry's value is set. -/
theorem Tells.set {es : Array MapEntry} {clock : Nat} {f : Int → Option Value} (h : Tells es clock f) {j : Nat} {e : MapEntry} (he : es[j]? = some e) {k : Int} (hek : e.key = I k) (g : MapEntry → MapEntry) (v : Value)
    (hb : ∀ x ∈ es.toList, (g x).born = x.born) (hg : g e = { e with val := v }) : Tells (es.modify j g) clock (updF f k v) := by
  have hkey : ∀ x ∈ es.toList, es[j]? = some x → (g x).key = x.key := fun x _ hx => by rw [he] at hx; cases hx; rw [hg]
  have hkey' : ∀ x, es[j]? = some x → (g x).key = x.key := fun x hx => by rw [he] at hx; cases hx; rw [hg]
  refine ⟨MapKept.stamped_modify h.st j g hb hkey, MapKept.isKey_modify h.ks j g hkey', ?_⟩
  intro k' v'
  have hm : ∀ x, x ∈ (es.modify j g).toList ↔ (∃ i : Nat, i ≠ j ∧ es[i]? = some x) ∨ x = { e with val := v } := fun x => by
    rw [mem_get]
    constructor
    · rintro ⟨i, hi⟩
      rw [Array.getElem?_modify] at hi
      by_cases hij : j = i
      · subst hij
        rw [if_pos rfl, he] at hi
        simp only [Option.map_some, Option.some.injEq] at hi
        exact .inr (by rw [← hi, hg])
      · rw [if_neg hij] at hi
        exact .inl ⟨i, fun q => hij q.symm, hi⟩
    · rintro (⟨i, hij, hi⟩ | rfl)
      · exact ⟨i, by rw [Array.getElem?_modify, if_neg (fun q => hij q.symm)]; exact hi⟩
      · exact ⟨j, by rw [Array.getElem?_modify, if_pos rfl, he, Option.map_some, hg]⟩
  by_cases hkk : k' = k
  · subst hkk
    rw [updF_same]
    constructor
    · intro q; cases q; exact ⟨_, (hm _).2 (.inr rfl), hek, rfl⟩
    · rintro ⟨x, hx, h1, h2⟩
      rcases (hm x).1 hx with ⟨i, hij, hi⟩ | rfl
      · exact absurd (keys_inj h.st.2.2 hi he (by rw [h1, hek])) hij
      · exact congrArg some h2
  · rw [updF_other f v hkk, h.to]
    constructor
    · rintro ⟨x, hx, h1, h2⟩
      obtain ⟨i, hi⟩ := mem_get.1 hx
      refine ⟨x, (hm x).2 (.inl ⟨i, fun q => ?_, hi⟩), h1, h2⟩
      subst q
      rw [he] at hi
      cases hi
      rw [hek] at h1
      injection h1 with _ h1
      exact hkk h1.symm
    · rintro ⟨x, hx, h1, h2⟩
      rcases (hm x).1 hx with ⟨i, hij, hi⟩ | rfl
      · exact ⟨x, mem_get.2 ⟨i, hi⟩, h1, h2⟩
      · exfalso
        have h1' : e.key = I k' := h1
        rw [hek] at h1'
        injection h1' with _ h1'
        exact hkk h1'.symm

/-- What is found. -/
theorem Tells.find {es : Array MapEntry} {clock : Nat} {f : Int → Option Value} (h : Tells es clock f) (k : Int) :
    (Instr.findNow dI (I k) es.toList 0 = some none ∧ f k = none ∧ ∀ x ∈ es.toList, x.key ≠ I k) ∨
    ∃ j e, Instr.findNow dI (I k) es.toList 0 = some (some (j, e.val)) ∧ es[j]? = some e ∧ e.key = I k ∧ f k = some e.val := by
  rcases MapKept.findNow_spec (d := dI) (k := I k) rfl es.toList 0 h.ks with ⟨h1, h2⟩ | ⟨j, e, h1, h2, h3⟩
  · refine .inl ⟨h1, ?_, h2⟩
    cases hf : f k with
    | none => rfl
    | some v =>
      obtain ⟨x, hx, hxk, _⟩ := (h.to k v).1 hf
      exact absurd hxk (h2 x hx)
  · have h2' : es[j]? = some e := by rw [← Array.getElem?_toList]; exact h2
    exact .inr ⟨j, e, by rw [h1, Nat.zero_add], h2', h3, (h.to k e.val).2 ⟨e, mem_get.2 ⟨j, h2'⟩, h3, rfl⟩⟩

structure MapF (w : World) (b : Nat) (f : Int → Option Value) : Prop where
  ex : ∃ es clock, w.heap[b]? = some (.map es clock) ∧ Tells es clock f
/-- .. and s is k's stamp in it. -/
structure MapS (w : World) (b : Nat) (f : Int → Option Value) (k : Int) (s : Nat) : Prop where
  ex : ∃ es clock, w.heap[b]? = some (.map es clock) ∧ Tells es clock f ∧ ∃ x ∈ es.toList, x.key = I k ∧ x.born = s
theorem MapF.upd {w w' : World} {b : Nat} {f : Int → Option Value} {S : List Nat} (h : MapF w b f) (u : Upd w w' S) (hb : b ∉ S) : MapF w' b f := by
  obtain ⟨es, c, h1, h2⟩ := h.ex
  exact ⟨es, c, u.heap h1 hb, h2⟩
theorem MapF.lt {w : World} {b : Nat} {f : Int → Option Value} (h : MapF w b f) : b < w.heap.size := by
  obtain ⟨es, c, h1, h2⟩ := h.ex
  exact lt_of_heap h1
abbrev mp (b : Nat) : Value := .map (some b)

def setO (w : World) (b : Nat) (o : Obj) : World := { w with heap := w.heap.setIfInBounds b o }
theorem Upd.setO (w : World) (b : Nat) (o : Obj) : Upd w (setO w b o) [b] :=
  ⟨rfl, rfl, rfl, by simp [Art.setO], fun k _ hn => by
    have : k ≠ b := fun e => hn (by simp [e])
    simp [Art.setO, Ne.symm this]⟩
theorem setO_same {w : World} {b : Nat} {o o' : Obj} (h : w.heap[b]? = some o) : (setO w b o').heap[b]? = some o' := (MapKept.heap_set h).1

section
variable {P : Program} {E : Env P} {n : Sh} {Q0 : Exit → Act → World → Prop} {s : List K} {fr : Fr} {w : World} {ops : Array Oper} {rest : List Oper} {d : Nat} {ty : TypeId} {pos : String} {after : Array Edge} {v z : Value} {x y : Operand} {t kt et : TypeId} {b by_ sz : Nat} {f : Int → Option Value} {k : Int}

theorem SO_makeMap (hd : Nat.blt d n.n = true) (h : ∀ w', Ext w w' → w'.heap.size = w.heap.size + 1 → MapF w' w.heap.size (fun _ => none) → SO E n Q0 s ops rest ((d, mp w.heap.size) :: fr) w') :
    SO E n Q0 s ops (⟨some d, .makeMap t none, ty, pos, after, none⟩ :: rest) fr w := by
  refine SO_v hd (w' := w.alloc (.map #[] 0)) ⟨fun a _ _ _ _ _ => ?_⟩ (h _ (Upd.alloc w _) (by simp) ⟨_, _, heap_alloc_new w _, Tells.nil⟩)
  simp [execOp, Instr.makeMap, newObj, Sem.run]

theorem R_lookS (ht : lk E.und t = some (.map kt et)) (hk : lk E.und kt = some dI) (hx : ev fr x = some (mp b)) (hy : ev fr y = some (I k)) (hM : MapF w b f) (hf : f k = some v) :
    OpV P n fr (.lookup t x y true) ty w (.tuple #[v, .bool true]) w := ⟨fun a ha _ _ _ _ => by
  obtain ⟨es, c, hb, hT⟩ := hM.ex
  rcases hT.find k with ⟨_, h2, _⟩ | ⟨j, e, h1, h2, h3, h4⟩
  · rw [h2] at hf; cases hf
  · rw [h4] at hf; cases hf
    simp only [execOp, ha.ev hx, ha.ev hy]
    simp [Instr.lookup, run_underlying (P := P) (E.un ht), MapKept.run_getObj_map hb, MapKept.run_checkKey (E.un hk) (show MapKept.IsKey dI (I k) from rfl), MapKept.run_findKey (E.un hk) h1]⟩
theorem R_lookN (ht : lk E.und t = some (.map kt et)) (hk : lk E.und kt = some dI) (he : lk E.inf et = some (z, sz, by_)) (hx : ev fr x = some (mp b)) (hy : ev fr y = some (I k)) (hM : MapF w b f) (hf : f k = none) :
    OpV P n fr (.lookup t x y true) ty w (.tuple #[z, .bool false]) w := ⟨fun a ha _ _ _ _ => by
  obtain ⟨es, c, hb, hT⟩ := hM.ex
  obtain ⟨inf, hi, hz, _, _⟩ := E.info he
  rcases hT.find k with ⟨h1, _, _⟩ | ⟨j, e, h1, h2, h3, h4⟩
  · simp only [execOp, ha.ev hx, ha.ev hy]
    simp [Instr.lookup, run_underlying (P := P) (E.un ht), MapKept.run_getObj_map hb, MapKept.run_checkKey (E.un hk) (show MapKept.IsKey dI (I k) from rfl), MapKept.run_findKey (E.un hk) h1, zeroValue, typeInfo, hi, hz]
  · rw [h4] at hf; cases hf⟩

theorem SO_mapUpdate {u : Operand} (ht : lk E.und t = some (.map kt et)) (hk : lk E.und kt = some dI) (hx : ev fr x = some (mp b)) (hy : ev fr y = some (I k)) (hu : ev fr u = some v) (hM : MapF w b f)
    (h : ∀ w', Upd w w' [b] → MapF w' b (updF f k v) → SO E n Q0 s ops rest fr w') :
    SO E n Q0 s ops (⟨none, .mapUpdate t x y u, ty, pos, after, none⟩ :: rest) fr w := by
  obtain ⟨es, c, hb, hT⟩ := hM.ex
  have hK : MapKept.IsKey dI (I k) := rfl
  rcases hT.find k with ⟨h1, _, h2⟩ | ⟨j, e, h1, h2, h3, h4⟩
  · refine SO_u (w' := setO w b (.map (es.push { key := I k, val := v, born := c }) (c + 1))) ⟨fun a ha _ _ _ _ => ?_⟩ (h _ (Upd.setO w b _) ⟨_, _, setO_same hb, hT.push h2 v⟩)
    simp only [execOp, ha.ev hx, ha.ev hy, ha.ev hu]
    simp [Instr.mapUpdate, run_underlying (P := P) (E.un ht), MapKept.run_getObj_map hb, MapKept.run_checkKey (E.un hk) hK, MapKept.run_findKey (E.un hk) h1, MapKept.run_setObj_map _ hb]
    rfl
  · refine SO_u (w' := setO w b (.map (es.modify j fun e => { e with key := I k, val := v }) c)) ⟨fun a ha _ _ _ _ => ?_⟩
      (h _ (Upd.setO w b _) ⟨_, _, setO_same hb, hT.set h2 h3 _ v (fun _ _ => rfl) (by rw [← h3])⟩)
    simp only [execOp, ha.ev hx, ha.ev hy, ha.ev hu]
    simp [Instr.mapUpdate, run_underlying (P := P) (E.un ht), MapKept.run_getObj_map hb, MapKept.run_checkKey (E.un hk) hK, MapKept.run_findKey (E.un hk) h1, MapKept.run_setObj_map _ hb, h2, h3, MapKept.run_keyThatStays hK]
    rfl

theorem SO_mapEntry (hd : Nat.blt d n.n = true) (ht : lk E.und t = some (.map kt et)) (hk : lk E.und kt = some dI) (he : lk E.inf et = some (z, sz, by_)) (hx : ev fr x = some (mp b)) (hy : ev fr y = some (I k)) (hM : MapF w b f)
    (h : ∀ w' st, Upd w w' [b] → MapS w' b (updF f k ((f k).getD z)) k st → SO E n Q0 s ops rest ((d, .tuple #[(f k).getD z, I st]) :: fr) w') :
    SO E n Q0 s ops (⟨some d, .mapEntry t x y, ty, pos, after, none⟩ :: rest) fr w := by
  obtain ⟨es, c, hb, hT⟩ := hM.ex
  obtain ⟨inf, hi, hz, _, _⟩ := E.info he
  have hK : MapKept.IsKey dI (I k) := rfl
  rcases hT.find k with ⟨h1, h1', h2⟩ | ⟨j, e, h1, h2, h3, h4⟩
  · rw [h1'] at h
    refine SO_v hd (w' := setO w b (.map (es.push { key := I k, val := z, born := c }) (c + 1))) ⟨fun a ha _ _ _ _ => ?_⟩ (h _ c (Upd.setO w b _) ⟨_, _, setO_same hb, hT.push h2 z, { key := I k, val := z, born := c }, by simp, rfl, rfl⟩)
    simp only [execOp, ha.ev hx, ha.ev hy]
    simp [Instr.mapEntry, run_underlying (P := P) (E.un ht), MapKept.run_getObj_map hb, MapKept.run_checkKey (E.un hk) hK, MapKept.run_findKey (E.un hk) h1, MapKept.run_setObj_map _ hb, zeroValue, typeInfo, hi, hz]
    first | rfl | exact ⟨rfl, rfl⟩
  · rw [h4] at h
    refine SO_v hd (w' := setO w b (.map (es.modify j fun e => { e with key := I k }) c)) ⟨fun a ha _ _ _ _ => ?_⟩
      (h _ e.born (Upd.setO w b _) ⟨_, _, setO_same hb, hT.set h2 h3 _ e.val (fun _ _ => rfl) (by rw [← h3]), { e with key := I k }, mem_get.2 ⟨j, by rw [Array.getElem?_modify, if_pos rfl, h2]; rfl⟩, rfl, rfl⟩)
    simp only [execOp, ha.ev hx, ha.ev hy]
    simp [Instr.mapEntry, run_underlying (P := P) (E.un ht), MapKept.run_getObj_map hb, MapKept.run_checkKey (E.un hk) hK, MapKept.run_findKey (E.un hk) h1, MapKept.run_setObj_map _ hb, h2, h3, MapKept.run_keyThatStays hK]
    first | rfl | exact ⟨rfl, rfl⟩

theorem SO_entryStore {u : Operand} {st : Nat} (hx : ev fr x = some (mp b)) (hy : ev fr y = some (I st)) (hu : ev fr u = some v) (hM : MapS w b f k st)
    (h : ∀ w', Upd w w' [b] → MapF w' b (updF f k v) → SO E n Q0 s ops rest fr w') :
    SO E n Q0 s ops (⟨none, .entryStore t x y u, ty, pos, after, none⟩ :: rest) fr w := by
  obtain ⟨es, c, hb, hT, e, he, hek, heb⟩ := hM.ex
  obtain ⟨j, hj⟩ := mem_get.1 he
  have hfi : es.findIdx? (fun e => (e.born : Int) == (st : Int)) = some j := by
    obtain ⟨hjl, hje⟩ := Array.getElem?_eq_some_iff.1 hj
    rw [Array.findIdx?_eq_some_iff_getElem]
    refine ⟨hjl, by rw [hje, heb]; simp, fun i hij q => ?_⟩
    have hil : i < es.size := by omega
    have h1 : es[i]? = some es[i] := Array.getElem?_eq_getElem hil
    have h2 : es[i].born = e.born := by
      simp at q
      omega
    have := borns_inj hT.st.2.1 h1 hj h2
    omega
  refine SO_u (w' := setO w b (.map (es.modify j fun e => { e with val := v }) c)) ⟨fun a ha _ _ _ _ => ?_⟩
    (h _ (Upd.setO w b _) ⟨_, _, setO_same hb, hT.set hj hek _ v (fun _ _ => rfl) rfl⟩)
  simp only [execOp, ha.ev hx, ha.ev hy, ha.ev hu]
  simp [Instr.entryStore, MapKept.run_getObj_map hb, asInt, asIntOf, hfi, MapKept.run_setObj_map _ hb]
  rfl
end
end Go.Art
