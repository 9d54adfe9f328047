/- Maps of integers, more: removing, looking up, going through; maps whose elements own a slice each. Conditions: none. -/
import Derived.Test.YthgghnaioddkcaaS
set_option linter.unusedSimpArgs false
set_option linter.unusedVariables false
namespace Go.Art
open Go Go.RowKit

theorem erase_list (es : Array MapEntry) (j : Nat) : (es.eraseIdxIfInBounds j).toList = es.toList.eraseIdx j := by
  unfold Array.eraseIdxIfInBounds
  split
  · simp
  · rename_i h; rw [List.eraseIdx_of_length_le (by simpa using h)]
theorem Tells.erase {es : Array MapEntry} {clock : Nat} {f : Int → Option Value} (h : Tells es clock f) {j : Nat} {e : MapEntry} (he : es[j]? = some e) {k : Int} (hek : e.key = I k) : Tells (es.eraseIdxIfInBounds j) clock (delF f k) := by
  have hsub : ∀ x, x ∈ (es.eraseIdxIfInBounds j).toList ↔ ∃ i : Nat, i ≠ j ∧ es[i]? = some x := fun x => by
    rw [erase_list, List.mem_eraseIdx_iff_getElem?]; simp
  refine ⟨MapKept.stamped_erase h.st j, fun x hx => ?_, fun k' v => ?_⟩
  · obtain ⟨i, _, hi⟩ := (hsub x).1 hx; exact h.ks x (mem_get.2 ⟨i, hi⟩)
  · unfold delF
    by_cases hkk : k' = k
    · subst hkk
      rw [if_pos rfl]
      constructor
      · intro e; cases e
      · rintro ⟨x, hx, h1, _⟩
        obtain ⟨i, hij, hi⟩ := (hsub x).1 hx
        exact absurd (keys_inj h.st.2.2 hi he (by rw [h1, hek])) hij
    · rw [if_neg hkk, h.to]
      constructor
      · rintro ⟨x, hx, h1, h2⟩
        obtain ⟨i, hi⟩ := mem_get.1 hx
        refine ⟨x, (hsub x).2 ⟨i, fun e' => hkk ?_, hi⟩, h1, h2⟩
        subst e'; rw [he] at hi; cases hi; rw [h1] at hek; injection hek
      · rintro ⟨x, hx, h1, h2⟩
        obtain ⟨i, _, hi⟩ := (hsub x).1 hx
        exact ⟨x, mem_get.2 ⟨i, hi⟩, h1, h2⟩

section
variable {P : Program} {E : Env P} {n : Sh} {Q0 : Exit → Act → World → Prop} {s : List K} {fr : Fr} {w : World} {ops : Array Oper} {rest : List Oper} {d : Nat} {ty : TypeId} {pos : String} {after : Array Edge} {v z : Value} {x y : Operand} {t kt et : TypeId} {b sz by_ : Nat} {f : Int → Option Value} {k : Int}
theorem R_look (ht : lk E.und t = some (.map kt et)) (hk : lk E.und kt = some dI) (hx : ev fr x = some (mp b)) (hy : ev fr y = some (I k)) (hM : MapF w b f) (hf : f k = some v) : OpV P n fr (.lookup t x y false) ty w v w := ⟨fun a ha _ _ _ _ => by
  obtain ⟨es, c, hb, hT⟩ := hM.ex
  rcases hT.find k with ⟨_, h2, _⟩ | ⟨j, e, h1, h2, h3, h4⟩
  · rw [h2] at hf; cases hf
  · rw [h4] at hf; cases hf
    simp only [execOp, ha.ev hx, ha.ev hy]
    simp [Instr.lookup, run_underlying (P := P) (E.un ht), MapKept.run_getObj_map hb, MapKept.run_checkKey (E.un hk) (show MapKept.IsKey dI (I k) from rfl), MapKept.run_findKey (E.un hk) h1]⟩
theorem SO_delete {kt' : TypeId} (ht : lk E.und t = some (.map kt et)) (hk : lk E.und kt = some dI) (hx : ev fr x = some (mp b)) (hy : ev fr y = some (I k)) (hM : MapF w b f)
    (h : ∀ w', Upd w w' [b] → MapF w' b (delF f k) → SO E n Q0 s ops rest fr w') : SO E n Q0 s ops (⟨none, .call ⟨.builtin .delete, #[x, y], #[t, kt']⟩, ty, pos, after, none⟩ :: rest) fr w := by
  obtain ⟨es, c, hb, hT⟩ := hM.ex
  have hK : MapKept.IsKey dI (I k) := rfl
  rcases hT.find k with ⟨h1, h1', h2⟩ | ⟨j, e, h1, h2, h3, h4⟩
  · refine SO_n (v := .tuple #[]) (w' := setO w b (.map es c)) ⟨fun a ha _ _ _ _ => ?_⟩ (h _ (Upd.setO w b _) ⟨_, _, setO_same hb, ?_⟩)
    · simp only [execOp, resolve]
      simp [ha.ev hx, ha.ev hy, invoke, builtin, Builtin.delete_, run_underlying (P := P) (E.un ht), MapKept.run_getObj_map hb, MapKept.run_checkKey (E.un hk) hK, MapKept.run_findKey (E.un hk) h1, MapKept.run_setObj_map _ hb]
      rfl
    · have : delF f k = f := by funext k'; unfold delF; split; (rename_i e; rw [e, h1']); rfl
      rw [this]; exact hT
  · refine SO_n (v := .tuple #[]) (w' := setO w b (.map (es.eraseIdxIfInBounds j) c)) ⟨fun a ha _ _ _ _ => ?_⟩ (h _ (Upd.setO w b _) ⟨_, _, setO_same hb, hT.erase h2 h3⟩)
    simp only [execOp, resolve]
    simp [ha.ev hx, ha.ev hy, invoke, builtin, Builtin.delete_, run_underlying (P := P) (E.un ht), MapKept.run_getObj_map hb, MapKept.run_checkKey (E.un hk) hK, MapKept.run_findKey (E.un hk) h1, MapKept.run_setObj_map _ hb]
    rfl
end

def setK {α : Type} (G : Int → α) (k : Int) (x : α) : Int → α := fun k' => if k' = k then x else G k'
theorem setK_eq {α : Type} (G : Int → α) (k : Int) (x : α) : setK G k x k = x := if_pos rfl
theorem setK_ne {α : Type} (G : Int → α) {k k' : Int} (x : α) (h : k' ≠ k) : setK G k x k' = G k' := if_neg h
/-! ### Maps whose elements are structs of one own slice -/
def one (v : Value) : Value := .agg #[v]
def ones (G : Int → Option Value) : Int → Option Value := fun k => (G k).map one
/-- o: a key whose slice is not meant. -/
structure MowP (T : TypeId) (b : Nat) (G : Int → Option Value) (f : Int → List Int) (o : Option Int) (w : World) : Prop where
  mp : MapF w b (ones G)
  own : ∀ k v, some k ≠ o → G k = some v → OwnO w T v (Is (f k))
  off : ∀ k v, G k = some v → v.ownBlock ≠ some b
  apart : ∀ k v k' v' x, k ≠ k' → G k = some v → G k' = some v' → v.ownBlock = some x → v'.ownBlock ≠ some x
def mow (T : TypeId) (b : Nat) (G : Int → Option Value) (f : Int → List Int) (o : Option Int) : Ch where
  wr := fun x => x = b ∨ ∃ k v, some k ≠ o ∧ G k = some v ∧ v.ownBlock = some x
  rd := fun _ => False
  bd := fun _ => False
  P := MowP T b G f o
  loc := fun {w w'} h hb => by
    refine ⟨?_, fun k v h1 h2 => (h.own k v h1 h2).keep fun x hx => hb x (.inl (.inr ⟨k, v, h1, h2, hx⟩)), h.off, h.apart⟩
    obtain ⟨es, c, h1, h2⟩ := h.mp.ex
    exact ⟨es, c, (hb b (.inl (.inl rfl))).trans h1, h2⟩
  lt := fun h hb => by
    rcases hb with (rfl | ⟨k, v, h1, h2, h3⟩) | hb | hb
    · exact h.mp.lt
    · exact (h.own k v h1 h2).blt h3
    · exact hb.elim
    · exact hb.elim
instance (T : TypeId) (b : Nat) (G : Int → Option Value) (f : Int → List Int) (o : Option Int) : NoB (mow T b G f o) := ⟨fun _ h => h⟩
theorem mow_map {A : List Ch} {T : TypeId} {b : Nat} {G : Int → Option Value} {f : Int → List Int} {o : Option Int} (h : mow T b G f o ∈ A) (w : World) (hw : Sat A w) : MapF w b (ones G) := (hw.h _ h : MowP T b G f o w).mp
theorem OwnO.one {w : World} {e : TypeId} {v : Value} {xs : List Value} (h : OwnO w e v xs) : v.oneCell' = true := by
  rcases h with ⟨rfl, _⟩ | ⟨b, o, cap, cur, rfl, _⟩ <;> rfl
theorem mow_one {A : List Ch} {T : TypeId} {b : Nat} {G : Int → Option Value} {f : Int → List Int} {o : Option Int} (h : mow T b G f o ∈ A) (w : World) (hw : Sat A w) : ∀ k v, some k ≠ o → G k = some v → v.oneCell' = true := fun k v h1 h2 => ((hw.h _ h : MowP T b G f o w).own k v h1 h2).one
theorem mpc_map {A : List Ch} {b : Nat} {f : Int → Option Value} (h : mpc b f ∈ A) (w : World) (hw : Sat A w) : MapF w b f := hw.h (mpc b f) h
/-- One slice is taken out. -/
theorem mow_out (T : TypeId) (b : Nat) (G : Int → Option Value) (f : Int → List Int) {k : Int} {v : Value} (hv : G k = some v) (A : List Ch) : Im (mow T b G f none :: A) (own T v (Is (f k)) :: mow T b G f (some k) :: A) := by
  have hk : some k ≠ (none : Option Int) := nofun
  have hft : ∀ x, (mow T b G f (some k)).ft x → (mow T b G f none).wr x := by
    rintro x ((h | ⟨k', v', h1, h2, h3⟩) | h | h)
    · exact .inl h
    · exact .inr ⟨k', v', nofun, h2, h3⟩
    · exact h.elim
    · exact h.elim
  have hfo : ∀ x, (own T v (Is (f k))).ft x → (mow T b G f none).wr x := by
    rintro x (h | h | h)
    · exact .inr ⟨k, v, hk, hv, h⟩
    · exact h.elim
    · exact h.elim
  refine ⟨fun w hw => ?_, fun x hx => ?_, fun x hx => ?_, fun x hx => ?_⟩
  · obtain ⟨h1, h2, h3⟩ := Sat.cons.1 hw
    have h1' : MowP T b G f none w := h1
    have hAp : Ap (own T v (Is (f k))) (mow T b G f (some k)) := by
      refine ⟨fun x hx hf => ?_, fun x hx hf => ?_⟩
      · rcases hf with (rfl | ⟨k', v', e1, e2, e3⟩) | hf | hf
        · exact h1'.off k v hv hx
        · exact h1'.apart k v k' v' x (fun e => e1 (by rw [e])) hv e2 hx e3
        · exact hf
        · exact hf
      · rcases hf with hf | hf | hf
        · rcases hx with rfl | ⟨k', v', e1, e2, e3⟩
          · exact h1'.off k v hv hf
          · exact h1'.apart k v k' v' x (fun e => e1 (by rw [e])) hv e2 hf e3
        · exact hf
        · exact hf
    refine Sat.cons.2 ⟨h1'.own k v hk hv, fun a ha => ?_, Sat.cons.2 ⟨⟨h1'.mp, fun k' v' e1 e2 => h1'.own k' v' nofun e2, h1'.off, h1'.apart⟩, fun a ha => ?_, h3⟩⟩
    · rcases List.mem_cons.1 ha with rfl | ha
      · exact hAp
      · exact ⟨fun x hx => (h2 a ha).1 x (hfo x (.inl hx)), fun x hx hf => (h2 a ha).2 x hx (.inl (hfo x hf))⟩
    · exact ⟨fun x hx => (h2 a ha).1 x (hft x (.inl hx)), fun x hx hf => (h2 a ha).2 x hx (.inl (hft x hf))⟩
  · obtain ⟨c, hc, h⟩ := hx
    rcases List.mem_cons.1 hc with rfl | hc
    · exact ⟨_, List.mem_cons_self .., hfo x (.inl h)⟩
    · rcases List.mem_cons.1 hc with rfl | hc
      · exact ⟨_, List.mem_cons_self .., hft x (.inl h)⟩
      · exact ⟨c, List.mem_cons_of_mem _ hc, h⟩
  · obtain ⟨c, hc, h⟩ := hx
    rcases List.mem_cons.1 hc with rfl | hc
    · exact h.elim
    · rcases List.mem_cons.1 hc with rfl | hc
      · exact h.elim
      · exact .inr ⟨c, List.mem_cons_of_mem _ hc, h⟩
  · obtain ⟨c, hc, h⟩ := hx
    rcases List.mem_cons.1 hc with rfl | hc
    · exact ⟨_, List.mem_cons_self .., .inl (hfo x h)⟩
    · rcases List.mem_cons.1 hc with rfl | hc
      · exact ⟨_, List.mem_cons_self .., .inl (hft x h)⟩
      · exact ⟨c, List.mem_cons_of_mem _ hc, h⟩

section
variable {P : Program} {E : Env P} {n : Sh} {X : Cx} {s : List K} {fr : Fr} {A A' A2 B F : List Ch} {ops : Array Oper} {rest : List Oper} {d : Nat} {ty : TypeId} {pos : String} {after : Array Edge} {v z : Value} {t T : TypeId} {x y : Operand} {c0 : Code}
  {b : Nat} {f : Int → Option Value} {g : Int → List Int} {G : Int → Option Value} {k : Int} {kt et : TypeId} {sz by_ : Nat}
theorem moS (kk : TO E n X s ops rest ((d, .tuple #[v, .bool true]) :: fr) A) (hf : f k = some v) (hx : ev fr x = some (mp b) := by rfl) (hy : ev fr y = some (I k) := by rfl) (hm : ∀ w, Sat A w → MapF w b f := by first | exact mow_map (by (repeat (first | apply List.Mem.head | apply List.Mem.tail)); first | done | fail) | exact mpc_map (by (repeat (first | apply List.Mem.head | apply List.Mem.tail)); first | done | fail))
    (ht : lk E.und t = some (.map kt et) := by rfl) (hk : lk E.und kt = some dI := by rfl) (hd : Nat.blt d n.n = true := by rfl) : TO E n X s ops (⟨some d, .lookup t x y true, ty, pos, after, none⟩ :: rest) fr A :=
  TO.val (fun w h => R_lookS ht hk hx hy (hm w h) hf) kk hd
theorem moN (kk : TO E n X s ops rest ((d, .tuple #[z, .bool false]) :: fr) A) (hf : f k = none) (hx : ev fr x = some (mp b) := by rfl) (hy : ev fr y = some (I k) := by rfl) (hm : ∀ w, Sat A w → MapF w b f := by first | exact mow_map (by (repeat (first | apply List.Mem.head | apply List.Mem.tail)); first | done | fail) | exact mpc_map (by (repeat (first | apply List.Mem.head | apply List.Mem.tail)); first | done | fail))
    (ht : lk E.und t = some (.map kt et) := by rfl) (hk : lk E.und kt = some dI := by rfl) (he : lk E.inf et = some (z, sz, by_) := by rfl) (hd : Nat.blt d n.n = true := by rfl) : TO E n X s ops (⟨some d, .lookup t x y true, ty, pos, after, none⟩ :: rest) fr A :=
  TO.val (fun w h => R_lookN ht hk he hx hy (hm w h) hf) kk hd
theorem mo (kk : TO E n X s ops rest ((d, v) :: fr) A) (hf : f k = some v) (hx : ev fr x = some (mp b) := by rfl) (hy : ev fr y = some (I k) := by rfl) (hm : ∀ w, Sat A w → MapF w b f := by first | exact mow_map (by (repeat (first | apply List.Mem.head | apply List.Mem.tail)); first | done | fail) | exact mpc_map (by (repeat (first | apply List.Mem.head | apply List.Mem.tail)); first | done | fail))
    (ht : lk E.und t = some (.map kt et) := by rfl) (hk : lk E.und kt = some dI := by rfl) (hd : Nat.blt d n.n = true := by rfl) : TO E n X s ops (⟨some d, .lookup t x y false, ty, pos, after, none⟩ :: rest) fr A :=
  TO.val (fun w h => R_look ht hk hx hy (hm w h) hf) kk hd
/-- A new map. -/
theorem mmo (T : TypeId) (g : Int → List Int) {k1 : IntKind} {m : Int} (h : ∀ b, TO E n X s ops rest ((d, mp b) :: fr) (mow T b (fun _ => none) g none :: A)) (hx : ev fr x = some (.int k1 m) := by rfl) (ht : lk E.und t = some (.map kt et) := by rfl) (hd : Nat.blt d n.n = true := by rfl) :
    TO E n X s ops (⟨some d, .makeMap t (some x), ty, pos, after, none⟩ :: rest) fr A := ⟨fun w hw => by
  have hz : (w.alloc (.map #[] 0)).heap.size = w.heap.size + 1 := by simp
  refine SO_v hd (w' := w.alloc (.map #[] 0)) ⟨fun a ha _ _ _ _ => ?_⟩ ((h w.heap.size).run _ (hw.new (Upd.alloc w _) (c := mow T w.heap.size (fun _ => none) g none) ⟨⟨_, _, heap_alloc_new w _, Tells.nil⟩, fun k v _ e => (by cases e), fun k v e => (by cases e), fun k v k' v' x _ e => (by cases e)⟩ ?_ (fun _ h => h)))
  · simp only [execOp, ha.ev hx]
    simp [ha.ev hx, Instr.makeMap, newObj, Sem.run, run_underlying (P := P) (E.un ht), asInt, asIntOf]
  · rintro y ((rfl | ⟨_, _, _, e, _⟩) | h | h)
    · exact Nat.le_refl _
    · cases e
    · exact h.elim
    · exact h.elim⟩
/-- A key gets a slice that is owned besides: the key's hole is filled, or the key is new. -/
theorem mou {u : Operand} {o : Option Int} {l : List Int} (kk : TO E n X s ops rest fr (mow T b (setK G k (some v)) (setK g k l) none :: A2)) (ho : o = some k ∨ o = none ∧ G k = none) (hx : ev fr x = some (mp b) := by rfl)
    (hm : Tk (mow T b G g o) A A' := by (repeat (first | apply Tk.here | apply Tk.there)); first | done | fail) (hm2 : Tk (own T v (Is l)) A' A2 := by (repeat (first | apply Tk.here | apply Tk.there)); first | done | fail) (hy : ev fr y = some (I k) := by rfl) (hu : ev fr u = some (.agg #[v]) := by rfl)
    (ht : lk E.und t = some (.map kt et) := by rfl) (hk : lk E.und kt = some dI := by rfl) : TO E n X s ops (⟨none, .mapUpdate t x y u, ty, pos, after, none⟩ :: rest) fr A := ⟨fun w hw => by
  have h1 := (hw.im hm).im (Im.cons _ hm2)
  have h2 : MowP T b G g o w := h1.mem (List.Mem.head _)
  have h3 : OwnO w T v (Is l) := h1.mem (List.Mem.tail _ (List.Mem.head _))
  have hap := (Sat.cons.1 h1.sat).2.1 _ (List.Mem.head _)
  refine SO_mapUpdate ht hk hx hy hu h2.mp fun w' hU hM => kk.run w' ?_
  have hkey : ∀ k' v', k' ≠ k → G k' = some v' → some k' ≠ o := fun k' v' hne hv e => by
    rcases ho with rfl | ⟨rfl, _⟩
    · cases e; exact hne rfl
    · cases e
  have hvb : v.ownBlock ≠ some b := fun e => hap.1 b (.inl rfl) (.inl e)
  have hvk : ∀ k' v' x, k' ≠ k → G k' = some v' → v'.ownBlock = some x → v.ownBlock ≠ some x := fun k' v' x hne hv e1 e2 => hap.1 x (.inr ⟨k', v', hkey k' v' hne hv, hv, e1⟩) (.inl e2)
  refine h1.step (A := [mow T b G g o, own T v (Is l)]) (B := [_]) (F := A2) (Mv.upd hU (fun y hy => .inl ⟨mow T b G g o, by simp, .inl (List.mem_singleton.1 hy)⟩) ?_ (fun y hy => by have := rds_one.1 hy; exact this.elim)) (Sat.one ?_) (by simp [mow])
  · intro y hy
    rcases wrs_one.1 hy with e | ⟨k', v', _, e1, e2⟩
    · exact .inl ⟨mow T b G g o, by simp, .inl e⟩
    · by_cases hkk : k' = k
      · rw [hkk, setK_eq] at e1; cases e1; exact .inl ⟨own T v (Is l), by simp, e2⟩
      · rw [setK_ne _ _ hkk] at e1; exact .inl ⟨mow T b G g o, by simp, .inr ⟨k', v', hkey k' v' hkk e1, e1, e2⟩⟩
  · refine ⟨?_, fun k' v' _ e1 => ?_, fun k' v' e1 => ?_, fun k1 v1 k2 v2 y hne e1 e2 e3 e4 => ?_⟩
    · have e : ones (setK G k (some v)) = updF (ones G) k (.agg #[v]) := by
        funext k'; unfold ones updF; by_cases hkk : k' = k
        · rw [if_pos hkk, hkk, setK_eq]; rfl
        · rw [if_neg hkk, setK_ne _ _ hkk]
      rw [e]; exact hM
    · by_cases hkk : k' = k
      · rw [hkk, setK_eq] at e1 ⊢; cases e1; exact h3.keep fun y hy => hU.block y (h3.blt hy) (fun e => hvb (by rw [hy]; rw [List.mem_singleton.1 e]))
      · rw [setK_ne _ _ hkk] at e1 ⊢
        have h4 := h2.own k' v' (hkey k' v' hkk e1) e1
        exact h4.keep fun y hy => hU.block y (h4.blt hy) (fun e => h2.off k' v' e1 (by rw [hy]; rw [List.mem_singleton.1 e]))
    · by_cases hkk : k' = k
      · rw [hkk, setK_eq] at e1; cases e1; exact hvb
      · rw [setK_ne _ _ hkk] at e1; exact h2.off k' v' e1
    · by_cases hk1 : k1 = k
      · rw [hk1, setK_eq] at e1; cases e1
        rw [setK_ne _ _ (fun e => hne (by rw [hk1, e]))] at e2
        exact hvk k2 v2 y (fun e => hne (by rw [hk1, e])) e2 e4 e3
      · rw [setK_ne _ _ hk1] at e1
        by_cases hk2 : k2 = k
        · rw [hk2, setK_eq] at e2; cases e2; exact hvk k1 v1 y hk1 e1 e3 e4
        · rw [setK_ne _ _ hk2] at e2; exact h2.apart k1 v1 k2 v2 y hne e1 e2 e3 e4⟩
/-- A key is removed; its slice is owned besides. -/
theorem mod {kt' : TypeId} (kk : TO E n X s ops rest fr (mow T b (setK G k none) g none :: A')) (hx : ev fr x = some (mp b) := by rfl) (hy : ev fr y = some (I k) := by rfl) (hm : Tk (mow T b G g (some k)) A A' := by (repeat (first | apply Tk.here | apply Tk.there)); first | done | fail)
    (ht : lk E.und t = some (.map kt et) := by rfl) (hk : lk E.und kt = some dI := by rfl) : TO E n X s ops (⟨none, .call ⟨.builtin .delete, #[x, y], #[t, kt']⟩, ty, pos, after, none⟩ :: rest) fr A := ⟨fun w hw => by
  have h1 := hw.im hm
  have h2 : MowP T b G g (some k) w := h1.mem (List.Mem.head _)
  refine SO_delete ht hk hx hy h2.mp fun w' hU hM => kk.run w' (h1.set hU (fun y hy => .inl (.inl (List.mem_singleton.1 hy))) ?_ ?_ (fun _ h => h))
  · refine ⟨?_, fun k' v' _ e1 => ?_, fun k' v' e1 => ?_, fun k1 v1 k2 v2 y hne e1 e2 => ?_⟩
    · have e : ones (setK G k none) = delF (ones G) k := by
        funext k'; unfold ones delF; by_cases hkk : k' = k
        · rw [if_pos hkk, hkk, setK_eq]; rfl
        · rw [if_neg hkk, setK_ne _ _ hkk]
      rw [e]; exact hM
    · by_cases hkk : k' = k
      · rw [hkk, setK_eq] at e1; cases e1
      · rw [setK_ne _ _ hkk] at e1
        have h4 := h2.own k' v' (fun e => hkk (by cases e; rfl)) e1
        exact h4.keep fun y hy => hU.block y (h4.blt hy) (fun e => h2.off k' v' e1 (by rw [hy]; rw [List.mem_singleton.1 e]))
    · by_cases hkk : k' = k
      · rw [hkk, setK_eq] at e1; cases e1
      · rw [setK_ne _ _ hkk] at e1; exact h2.off k' v' e1
    · by_cases hk1 : k1 = k
      · rw [hk1, setK_eq] at e1; cases e1
      · rw [setK_ne _ _ hk1] at e1
        by_cases hk2 : k2 = k
        · rw [hk2, setK_eq] at e2; cases e2
        · rw [setK_ne _ _ hk2] at e2; exact h2.apart k1 v1 k2 v2 y hne e1 e2
  · rintro y ((e | ⟨k', v', _, e1, e2⟩) | h | h)
    · exact .inl (.inl e)
    · by_cases hkk : k' = k
      · rw [hkk, setK_eq] at e1; cases e1
      · rw [setK_ne _ _ hkk] at e1; exact .inl (.inr ⟨k', v', fun e => hkk (by cases e; rfl), e1, e2⟩)
    · exact h.elim
    · exact h.elim⟩
end
end Go.Art
