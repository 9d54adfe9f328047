/- Literals, no list named; lists of slices, one by one. Conditions: none. -/
import Derived.Test.YthgghnaioddkcaaSb
set_option linter.unusedSimpArgs false
set_option linter.unusedVariables false
namespace Go.Art
open Go Go.Proofs Go.RowKit

def unI : List Value → Option (List Int)
  | [] => some []
  | .int .i64 x :: r => match unI r with
    | some a => some (x :: a)
    | none => none
  | _ => none
theorem unI_eq : ∀ {vs : List Value} {l : List Int}, unI vs = some l → vs = Is l
  | [], l, h => by cases h; rfl
  | .int .i64 x :: r, l, h => by
    cases ha : unI r with
    | none => simp [unI, ha] at h
    | some a => simp [unI, ha] at h; subst h; rw [unI_eq ha]; rfl
def unB : List Value → Option (List Int)
  | [] => some []
  | .int .u8 x :: r => match unB r with
    | some a => some (x :: a)
    | none => none
  | _ => none
theorem unB_eq : ∀ {vs : List Value} {l : List Int}, unB vs = some l → vs = By l
  | [], l, h => by cases h; rfl
  | .int .u8 x :: r, l, h => by
    cases ha : unB r with
    | none => simp [unB, ha] at h
    | some a => simp [unB, ha] at h; subst h; rw [unB_eq ha]; rfl
section
variable {P : Program} {E : Env P} {n : Sh} {X : Cx} {s : List K} {fr : Fr} {A A' : List Ch} {ops : Array Oper} {rest : List Oper} {d m : Nat} {ty t e : TypeId} {pos : String} {after : Array Edge} {v z : Value} {x y : Operand} {by_ : Nat} {parts : List (Nat × Operand)} {vs : List Value}
theorem slz {l : List Int} (k : ∀ v', v'.oneCell' = true → TO E n X s ops rest ((d, v') :: fr) (own e v' (Is l) :: A)) (hp : parts = idxP 0 (parts.map (·.2)) := by rfl) (hv : evs fr (parts.map (·.2)) = some vs := by rfl) (hi : unI vs = some l := by rfl)
    (hk : l.length = m := by rfl) (hk0 : Nat.blt 0 m = true := by rfl) (hkm : Nat.ble m 16777216 = true := by rfl) (ht : lk E.und t = some (.slice e) := by rfl) (he : lk E.inf e = some (z, 1, by_) := by rfl) (hd : Nat.blt d n.n = true := by rfl) :
    TO E n X s ops (⟨some d, .buildSlice t m parts.toArray, ty, pos, after, none⟩ :: rest) fr A := by
  have := unI_eq hi
  subst this
  exact sli (fun v => TO.one (v := v) (xs := Is l) (fun h => k v h) (by first | (apply has_vw; (repeat (first | apply List.Mem.head | apply List.Mem.tail)); first | done | fail) | (apply has_own; (repeat (first | apply List.Mem.head | apply List.Mem.tail)); first | done | fail) | (apply has_ro; (repeat (first | apply List.Mem.head | apply List.Mem.tail)); first | done | fail) | apply has_nil | ((with_reducible apply has_el); (focus (first | (apply has_vels; (repeat (first | apply List.Mem.head | apply List.Mem.tail)); first | done | fail) | (apply has_rels; (repeat (first | apply List.Mem.head | apply List.Mem.tail)); first | done | fail))); omega) | (apply has_pt; (repeat (first | apply List.Mem.head | apply List.Mem.tail)); first | done | fail) | (apply has_lpt; (repeat (first | apply List.Mem.head | apply List.Mem.tail)); first | done | fail) | (apply has_vels; (repeat (first | apply List.Mem.head | apply List.Mem.tail)); first | done | fail) | (apply has_rels; (repeat (first | apply List.Mem.head | apply List.Mem.tail)); first | done | fail) | with_reducible assumption | ((with_reducible apply has_elg); (focus (first | (apply has_velg; (repeat (first | apply List.Mem.head | apply List.Mem.tail)); first | done | fail) | (apply has_relg; (repeat (first | apply List.Mem.head | apply List.Mem.tail)); first | done | fail))); omega) | (apply has_velg; (repeat (first | apply List.Mem.head | apply List.Mem.tail)); first | done | fail) | (apply has_relg; (repeat (first | apply List.Mem.head | apply List.Mem.tail)); first | done | fail))) hp hv (Is_one l) (by rw [Is_len]; exact hk) hk0 hkm ht he hd
theorem slbz {l : List Int} (k : ∀ v', v'.oneCell' = true → TO E n X s ops rest ((d, v') :: fr) (own e v' (By l) :: A)) (hp : parts = idxP 0 (parts.map (·.2)) := by rfl) (hv : evs fr (parts.map (·.2)) = some vs := by rfl) (hi : unB vs = some l := by rfl)
    (hk : l.length = m := by rfl) (hk0 : Nat.blt 0 m = true := by rfl) (hkm : Nat.ble m 16777216 = true := by rfl) (ht : lk E.und t = some (.slice e) := by rfl) (he : lk E.inf e = some (z, 1, by_) := by rfl) (hd : Nat.blt d n.n = true := by rfl) :
    TO E n X s ops (⟨some d, .buildSlice t m parts.toArray, ty, pos, after, none⟩ :: rest) fr A := by
  have := unB_eq hi
  subst this
  exact sli (fun v => TO.one (v := v) (xs := By l) (fun h => k v h) (by first | (apply has_vw; (repeat (first | apply List.Mem.head | apply List.Mem.tail)); first | done | fail) | (apply has_own; (repeat (first | apply List.Mem.head | apply List.Mem.tail)); first | done | fail) | (apply has_ro; (repeat (first | apply List.Mem.head | apply List.Mem.tail)); first | done | fail) | apply has_nil | ((with_reducible apply has_el); (focus (first | (apply has_vels; (repeat (first | apply List.Mem.head | apply List.Mem.tail)); first | done | fail) | (apply has_rels; (repeat (first | apply List.Mem.head | apply List.Mem.tail)); first | done | fail))); omega) | (apply has_pt; (repeat (first | apply List.Mem.head | apply List.Mem.tail)); first | done | fail) | (apply has_lpt; (repeat (first | apply List.Mem.head | apply List.Mem.tail)); first | done | fail) | (apply has_vels; (repeat (first | apply List.Mem.head | apply List.Mem.tail)); first | done | fail) | (apply has_rels; (repeat (first | apply List.Mem.head | apply List.Mem.tail)); first | done | fail) | with_reducible assumption | ((with_reducible apply has_elg); (focus (first | (apply has_velg; (repeat (first | apply List.Mem.head | apply List.Mem.tail)); first | done | fail) | (apply has_relg; (repeat (first | apply List.Mem.head | apply List.Mem.tail)); first | done | fail))); omega) | (apply has_velg; (repeat (first | apply List.Mem.head | apply List.Mem.tail)); first | done | fail) | (apply has_relg; (repeat (first | apply List.Mem.head | apply List.Mem.tail)); first | done | fail))) hp hv (By_one l) (by rw [By_len]; exact hk) hk0 hkm ht he hd
theorem slw (k : ∀ v', v'.oneCell' = true → TO E n X s ops rest ((d, v') :: fr) (own e v' vs :: A)) (hp : parts = idxP 0 (parts.map (·.2)) := by rfl) (hv : evs fr (parts.map (·.2)) = some vs := by rfl)
    (h1 : ∀ c ∈ vs, c.oneCell' = true := by (repeat (first | exact one_nil | refine one_cons (by first | rfl | assumption) ?_)); first | done | fail)
    (hk : vs.length = m := by rfl) (hk0 : Nat.blt 0 m = true := by rfl) (hkm : Nat.ble m 16777216 = true := by rfl) (ht : lk E.und t = some (.slice e) := by rfl) (he : lk E.inf e = some (z, 1, by_) := by rfl) (hd : Nat.blt d n.n = true := by rfl) :
    TO E n X s ops (⟨some d, .buildSlice t m parts.toArray, ty, pos, after, none⟩ :: rest) fr A :=
  sli (fun v => TO.one (v := v) (xs := vs) (fun h => k v h) (by first | (apply has_vw; (repeat (first | apply List.Mem.head | apply List.Mem.tail)); first | done | fail) | (apply has_own; (repeat (first | apply List.Mem.head | apply List.Mem.tail)); first | done | fail) | (apply has_ro; (repeat (first | apply List.Mem.head | apply List.Mem.tail)); first | done | fail) | apply has_nil | ((with_reducible apply has_el); (focus (first | (apply has_vels; (repeat (first | apply List.Mem.head | apply List.Mem.tail)); first | done | fail) | (apply has_rels; (repeat (first | apply List.Mem.head | apply List.Mem.tail)); first | done | fail))); omega) | (apply has_pt; (repeat (first | apply List.Mem.head | apply List.Mem.tail)); first | done | fail) | (apply has_lpt; (repeat (first | apply List.Mem.head | apply List.Mem.tail)); first | done | fail) | (apply has_vels; (repeat (first | apply List.Mem.head | apply List.Mem.tail)); first | done | fail) | (apply has_rels; (repeat (first | apply List.Mem.head | apply List.Mem.tail)); first | done | fail) | with_reducible assumption | ((with_reducible apply has_elg); (focus (first | (apply has_velg; (repeat (first | apply List.Mem.head | apply List.Mem.tail)); first | done | fail) | (apply has_relg; (repeat (first | apply List.Mem.head | apply List.Mem.tail)); first | done | fail))); omega) | (apply has_velg; (repeat (first | apply List.Mem.head | apply List.Mem.tail)); first | done | fail) | (apply has_relg; (repeat (first | apply List.Mem.head | apply List.Mem.tail)); first | done | fail))) hp hv h1 hk hk0 hkm ht he hd
end
section
variable {P : Program} {E : Env P} {n : Sh} {X : Cx} {s : List K} {fr : Fr} {A A' : List Ch} {ops : Array Oper} {rest : List Oper} {d j by_ : Nat} {ty t el : TypeId} {pos : String} {after : Array Edge} {v z : Value} {x y : Operand} {l : List Int} {dt : TypeDesc} {m : Int}
theorem lb (k : TO E n X s ops rest ((d, y8 (l.getD j 0)) :: fr) A) (hx : ev fr x = some (.pointer (some (addrAt v j))) := by rfl) (hh : Has A (vw v (By l)) := by first | (apply has_vw; (repeat (first | apply List.Mem.head | apply List.Mem.tail)); first | done | fail) | (apply has_own; (repeat (first | apply List.Mem.head | apply List.Mem.tail)); first | done | fail) | (apply has_ro; (repeat (first | apply List.Mem.head | apply List.Mem.tail)); first | done | fail) | apply has_nil | ((with_reducible apply has_el); (focus (first | (apply has_vels; (repeat (first | apply List.Mem.head | apply List.Mem.tail)); first | done | fail) | (apply has_rels; (repeat (first | apply List.Mem.head | apply List.Mem.tail)); first | done | fail))); omega) | (apply has_pt; (repeat (first | apply List.Mem.head | apply List.Mem.tail)); first | done | fail) | (apply has_lpt; (repeat (first | apply List.Mem.head | apply List.Mem.tail)); first | done | fail) | (apply has_vels; (repeat (first | apply List.Mem.head | apply List.Mem.tail)); first | done | fail) | (apply has_rels; (repeat (first | apply List.Mem.head | apply List.Mem.tail)); first | done | fail) | with_reducible assumption | ((with_reducible apply has_elg); (focus (first | (apply has_velg; (repeat (first | apply List.Mem.head | apply List.Mem.tail)); first | done | fail) | (apply has_relg; (repeat (first | apply List.Mem.head | apply List.Mem.tail)); first | done | fail))); omega) | (apply has_velg; (repeat (first | apply List.Mem.head | apply List.Mem.tail)); first | done | fail) | (apply has_relg; (repeat (first | apply List.Mem.head | apply List.Mem.tail)); first | done | fail)) (hj : j < l.length := by omega)
    (ht : lk E.und t = some dt := by rfl) (hg : aggB dt = false := by rfl) (hd : Nat.blt d n.n = true := by rfl) : TO E n X s ops (⟨some d, .load t x, ty, pos, after, none⟩ :: rest) fr A := le k hx hh (By_get l j hj) ht hg hd
theorem qlb (k : TQ E n X s ops rest ((d, y8 (l.getD j 0)) :: fr) A) (hx : ev fr x = some (.pointer (some (addrAt v j))) := by rfl) (hh : Has A (vw v (By l)) := by first | (apply has_vw; (repeat (first | apply List.Mem.head | apply List.Mem.tail)); first | done | fail) | (apply has_own; (repeat (first | apply List.Mem.head | apply List.Mem.tail)); first | done | fail) | (apply has_ro; (repeat (first | apply List.Mem.head | apply List.Mem.tail)); first | done | fail) | apply has_nil | ((with_reducible apply has_el); (focus (first | (apply has_vels; (repeat (first | apply List.Mem.head | apply List.Mem.tail)); first | done | fail) | (apply has_rels; (repeat (first | apply List.Mem.head | apply List.Mem.tail)); first | done | fail))); omega) | (apply has_pt; (repeat (first | apply List.Mem.head | apply List.Mem.tail)); first | done | fail) | (apply has_lpt; (repeat (first | apply List.Mem.head | apply List.Mem.tail)); first | done | fail) | (apply has_vels; (repeat (first | apply List.Mem.head | apply List.Mem.tail)); first | done | fail) | (apply has_rels; (repeat (first | apply List.Mem.head | apply List.Mem.tail)); first | done | fail) | with_reducible assumption | ((with_reducible apply has_elg); (focus (first | (apply has_velg; (repeat (first | apply List.Mem.head | apply List.Mem.tail)); first | done | fail) | (apply has_relg; (repeat (first | apply List.Mem.head | apply List.Mem.tail)); first | done | fail))); omega) | (apply has_velg; (repeat (first | apply List.Mem.head | apply List.Mem.tail)); first | done | fail) | (apply has_relg; (repeat (first | apply List.Mem.head | apply List.Mem.tail)); first | done | fail)) (hj : j < l.length := by omega)
    (ht : lk E.und t = some dt := by rfl) (hg : aggB dt = false := by rfl) (hd : Nat.blt d n.n = true := by rfl) : TQ E n X s ops (⟨some d, .load t x, ty, pos, after, none⟩ :: rest) fr A := qle k hx hh (By_get l j hj) ht hg hd
theorem sob (k : TO E n X s ops rest fr (own el v (By (l.set j m)) :: A')) (hx : ev fr x = some (.pointer (some (addrAt v j))) := by rfl) (hm : Tk (own el v (By l)) A A' := by (repeat (first | apply Tk.here | apply Tk.there)); first | done | fail) (hy : ev fr y = some (y8 m) := by rfl)
    (hj : j < l.length := by omega) (ht : lk E.inf t = some (z, 1, by_) := by rfl) : TO E n X s ops (⟨none, .store t x y, ty, pos, after, none⟩ :: rest) fr A := so k hx hm hy (by rw [By_len]; exact hj) (By_set l j m) rfl ht
end
theorem has_elg_nil {g : Int → Value} {F : List Ch} : Has F (velg g [] []) := ⟨fun _ _ => ⟨rfl, fun i hi => by simp at hi⟩, fun _ h => h, fun _ h => h, fun b hb => by
  rcases hb with hb | hb | ⟨i, hi, _⟩
  · exact hb.elim
  · exact hb.elim
  · simp at hi⟩
theorem has_elg_cons {g : Int → Value} {F : List Ch} {v : Value} {l : List Int} {hs : List Value} {ls : List (List Int)} (h : Has F (vw v (l.map g))) (k : Has F (velg g hs ls)) : Has F (velg g (v :: hs) (l :: ls)) := by
  have hb : ∀ b, (velg g (v :: hs) (l :: ls)).ft b → (vw v (l.map g)).ft b ∨ (velg g hs ls).ft b := fun b hb => by
    rcases hb with hb | hb | ⟨i, hi, h1, h2⟩
    · exact hb.elim
    · exact hb.elim
    · cases i with
      | zero => exact .inl (.inr (.inr ⟨h1, h2⟩))
      | succ i => exact .inr (.inr (.inr ⟨i, by simpa using hi, h1, h2⟩))
  refine ⟨fun w hw => ?_, fun b h => h, fun b h => h, fun b hx => ?_⟩
  · have h1 := h.P w hw
    have h2 := k.P w hw
    exact ⟨congrArg (· + 1) h2.1, fun i hi => by
      cases i with
      | zero => exact h1
      | succ i => exact h2.2 i (by simpa using hi)⟩
  · rcases hb b hx with h1 | h1
    · exact h.ft b h1
    · exact k.ft b h1
theorem Tr.law {P : Program} {f : FuncId} {args : List Value} {pre : List Ch} (h : Tr P f args pre [] fun v D => v = .bool true ∧ D = []) {w : World} (hw : Sat pre w) : Fn P f args w fun v w' => v = .bool true ∧ Ext w w' :=
  (h.fn hw).mono fun _ _ ⟨he, _, ⟨hv, _⟩, _⟩ => ⟨hv, he⟩
end Go.Art
