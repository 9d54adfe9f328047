/- Texts put together: Wg Bb Sz Oa Ob Oo Ql Qm So Sg Al Qn Na Cl Ct LayMul LayLen LayLz Nb Ne. Conditions: none. -/
import Derived.Test.YtbdmhamjhkibgaaGreatZBb
set_option linter.unusedSimpArgs false
set_option linter.unusedVariables false
namespace Go.Art
open Go Go.RowKit

def elgP (g : Int → Value) (hs : List Value) (ls : List (List Int)) (w : World) : Prop := hs.length = ls.length ∧ ∀ i, i < ls.length → Sl w (hs.getD i nS) ((ls.getD i []).map g)
def elgF (g : Int → Value) (hs : List Value) (ls : List (List Int)) (x : Nat) : Prop := ∃ i, i < ls.length ∧ (ls.getD i []).map g ≠ [] ∧ (hs.getD i nS).ownBlock = some x
theorem elgP.keep {g : Int → Value} {w w' : World} {hs : List Value} {ls : List (List Int)} (h : elgP g hs ls w) (hb : ∀ b, elgF g hs ls b → w'.heap[b]? = w.heap[b]?) : elgP g hs ls w' := ⟨h.1, fun i hi => (h.2 i hi).of_block fun b hx => hb b ⟨i, hi, hx⟩⟩
theorem elgP.lt {g : Int → Value} {w : World} {hs : List Value} {ls : List (List Int)} (h : elgP g hs ls w) {b : Nat} (hb : elgF g hs ls b) : b < w.heap.size := by obtain ⟨i, hi, hx⟩ := hb; exact (h.2 i hi).blt hx
def velg (g : Int → Value) (hs : List Value) (ls : List (List Int)) : Ch where
  wr := fun _ => False
  rd := fun _ => False
  bd := elgF g hs ls
  P := elgP g hs ls
  loc := fun h hb => h.keep fun b h => hb b (.inr (.inr h))
  lt := fun h hb => by rcases hb with hb | hb | hb; exact hb.elim; exact hb.elim; exact h.lt hb
def relg (g : Int → Value) (hs : List Value) (ls : List (List Int)) : Ch where
  wr := fun _ => False
  rd := elgF g hs ls
  bd := fun _ => False
  P := elgP g hs ls
  loc := fun h hb => h.keep fun b h => hb b (.inr (.inl h))
  lt := fun h hb => by rcases hb with hb | hb | hb; exact hb.elim; exact h.lt hb; exact hb.elim
instance (g : Int → Value) (hs : List Value) (ls : List (List Int)) : Lent (velg g hs ls) := ⟨fun _ => ⟨fun h => h, fun h => h⟩⟩
instance (g : Int → Value) (hs : List Value) (ls : List (List Int)) : NoB (relg g hs ls) := ⟨fun _ h => h⟩
section
variable {P : Program} {E : Env P} {n : Sh} {X : Cx} {s : List K} {fr : Fr} {A : List Ch} {c0 : Code} {g : Int → Value}
end
end Go.Art
set_option linter.unusedSimpArgs false
set_option linter.unusedVariables false
namespace Go.Art
open Go Go.Proofs Go.RowKit
attribute [local irreducible] Fit pt own ro vw mpc lpt vels rels mow lrc dfr
theorem one_nil : ∀ c ∈ ([] : List Value), c.oneCell' = true := fun _ h => nomatch h
theorem one_cons {c : Value} {l : List Value} (h : c.oneCell' = true) (k : ∀ c ∈ l, c.oneCell' = true) : ∀ x ∈ c :: l, x.oneCell' = true := fun x hx => by
  rcases List.mem_cons.1 hx with rfl | hx
  · exact h
  · exact k x hx
section
variable {P : Program} {E : Env P} {n : Sh} {X : Cx} {s : List K} {fr : Fr} {A A' : List Ch} {ops : Array Oper} {rest : List Oper} {d : Nat} {ty t T : TypeId} {pos : String} {after : Array Edge} {z : Value} {x y : Operand} {b j sz by_ : Nat} {cs vs cs' : List Value}
theorem srz (k : TO E n X s ops rest fr (pt b cs' T :: A')) (ha : ev fr x = some (.pointer (some ⟨b, j, none⟩)) := by rfl) (hm : Tk (pt b cs T) A A' := by (repeat (first | apply Tk.here | apply Tk.there)); first | done | fail) (hx : ev fr y = some (.agg vs.toArray) := by rfl) (hi : lk E.inf t = some (z, sz, by_) := by rfl) (hl : vs.length = sz := by rfl)
    (h1 : ∀ v ∈ vs, v.oneCell' = true := by (repeat (first | exact one_nil | refine one_cons (by first | rfl | assumption) ?_)); first | done | fail) (hj : j + sz ≤ cs.length := by decide) (hs : cs.take j ++ vs ++ cs.drop (j + sz) = cs' := by rfl) : TO E n X s ops (⟨none, .store t x y, ty, pos, after, none⟩ :: rest) fr A := sra k ha hm hx hi hl h1 hj hs
end
abbrev y8 : Int → Value := .int .u8
abbrev By (l : List Int) : List Value := l.map y8
theorem lpt_has {b : Nat} {cs : List Value} {T : TypeId} : ∀ c ∈ [lpt b cs T], ∀ A : List Ch, c ∈ A → Has A c := fun c hc A h => by
  rw [List.mem_singleton.1 hc] at h ⊢; exact has_lpt h
end Go.Art
set_option linter.unusedSimpArgs false
set_option linter.unusedVariables false
namespace Go.Art
open Go Go.Proofs Go.RowKit

def unI : List Value → Option (List Int)
  | [] => some []
  | .int .i64 x :: r => match unI r with
    | some a => some (x :: a)
    | none => none
  | _ => none
theorem unI_eq : ∀ {vs : List Value} {l : List Int}, unI vs = some l → vs = Is l
  | [], l, h => by cases h; rfl
  | .int .i64 x :: r, l, h => by
    cases ha : unI r with
    | none => simp [unI, ha] at h
    | some a => simp [unI, ha] at h; subst h; rw [unI_eq ha]; rfl
def unB : List Value → Option (List Int)
  | [] => some []
  | .int .u8 x :: r => match unB r with
    | some a => some (x :: a)
    | none => none
  | _ => none
theorem unB_eq : ∀ {vs : List Value} {l : List Int}, unB vs = some l → vs = By l
  | [], l, h => by cases h; rfl
  | .int .u8 x :: r, l, h => by
    cases ha : unB r with
    | none => simp [unB, ha] at h
    | some a => simp [unB, ha] at h; subst h; rw [unB_eq ha]; rfl
section
variable {P : Program} {E : Env P} {n : Sh} {X : Cx} {s : List K} {fr : Fr} {A A' : List Ch} {ops : Array Oper} {rest : List Oper} {d m : Nat} {ty t e : TypeId} {pos : String} {after : Array Edge} {v z : Value} {x y : Operand} {by_ : Nat} {parts : List (Nat × Operand)} {vs : List Value}
theorem slz {l : List Int} (k : ∀ v', v'.oneCell' = true → TO E n X s ops rest ((d, v') :: fr) (own e v' (Is l) :: A)) (hp : parts = idxP 0 (parts.map (·.2)) := by rfl) (hv : evs fr (parts.map (·.2)) = some vs := by rfl) (hi : unI vs = some l := by rfl)
    (hk : l.length = m := by rfl) (hk0 : Nat.blt 0 m = true := by rfl) (hkm : Nat.ble m 16777216 = true := by rfl) (ht : lk E.und t = some (.slice e) := by rfl) (he : lk E.inf e = some (z, 1, by_) := by rfl) (hd : Nat.blt d n.n = true := by rfl) :
    TO E n X s ops (⟨some d, .buildSlice t m parts.toArray, ty, pos, after, none⟩ :: rest) fr A := by
  have := unI_eq hi
  subst this
  exact sli (fun v => TO.one (v := v) (xs := Is l) (fun h => k v h) (by first | (apply has_vw; (repeat (first | apply List.Mem.head | apply List.Mem.tail)); first | done | fail) | (apply has_own; (repeat (first | apply List.Mem.head | apply List.Mem.tail)); first | done | fail) | (apply has_ro; (repeat (first | apply List.Mem.head | apply List.Mem.tail)); first | done | fail) | apply has_nil | ((with_reducible apply has_el); (focus (first | (apply has_vels; (repeat (first | apply List.Mem.head | apply List.Mem.tail)); first | done | fail) | (apply has_rels; (repeat (first | apply List.Mem.head | apply List.Mem.tail)); first | done | fail))); omega) | (apply has_pt; (repeat (first | apply List.Mem.head | apply List.Mem.tail)); first | done | fail) | (apply has_lpt; (repeat (first | apply List.Mem.head | apply List.Mem.tail)); first | done | fail) | (apply has_vels; (repeat (first | apply List.Mem.head | apply List.Mem.tail)); first | done | fail) | (apply has_rels; (repeat (first | apply List.Mem.head | apply List.Mem.tail)); first | done | fail) | with_reducible assumption | ((with_reducible apply has_elg); (focus (first | (apply has_velg; (repeat (first | apply List.Mem.head | apply List.Mem.tail)); first | done | fail) | (apply has_relg; (repeat (first | apply List.Mem.head | apply List.Mem.tail)); first | done | fail))); omega) | (apply has_velg; (repeat (first | apply List.Mem.head | apply List.Mem.tail)); first | done | fail) | (apply has_relg; (repeat (first | apply List.Mem.head | apply List.Mem.tail)); first | done | fail) | (apply has_vwf; (repeat (first | apply List.Mem.head | apply List.Mem.tail)); first | done | fail))) hp hv (Is_one l) (by rw [Is_len]; exact hk) hk0 hkm ht he hd
end
section
variable {P : Program} {E : Env P} {n : Sh} {X : Cx} {s : List K} {fr : Fr} {A A' : List Ch} {ops : Array Oper} {rest : List Oper} {d j by_ : Nat} {ty t el : TypeId} {pos : String} {after : Array Edge} {v z : Value} {x y : Operand} {l : List Int} {dt : TypeDesc} {m : Int}
end
theorem hpl_nil : ∀ c ∈ ([] : List Ch), ∀ A : List Ch, c ∈ A → Has A c := fun _ h => nomatch h
theorem Tr.law {P : Program} {f : FuncId} {args : List Value} {pre : List Ch} (h : Tr P f args pre [] fun v D => v = .bool true ∧ D = []) {w : World} (hw : Sat pre w) : Fn P f args w fun v w' => v = .bool true ∧ Ext w w' :=
  (h.fn hw).mono fun _ _ ⟨he, _, ⟨hv, _⟩, _⟩ => ⟨hv, he⟩
end Go.Art
set_option linter.unusedSimpArgs false
set_option linter.unusedVariables false
namespace Go.Art
open Go Go.Proofs Go.RowKit
abbrev Bo (l : List Bool) : List Value := l.map Value.bool
section
variable {P : Program} {E : Env P} {n : Sh} {X : Cx} {s : List K} {fr : Fr} {A A' : List Ch} {ops : Array Oper} {rest : List Oper} {d : Nat} {ty t el : TypeId} {pos : String} {after : Array Edge} {z v : Value} {x y : Operand} {by_ : Nat}
end
section
variable {P : Program} {E : Env P} {n : Sh} {X : Cx} {s : List K} {fr : Fr} {A A' : List Ch} {ops : Array Oper} {rest : List Oper} {d : Nat} {ty t : TypeId} {pos : String} {after : Array Edge} {x y : Operand} {v u z : Value} {by_ : Nat} {l news : List Int}
end
theorem lpt_at {A : List Ch} {w : World} {b : Nat} {cs : List Value} {T : TypeId} (h : lpt b cs T ∈ A) (hw : Sat A w) : w.heap[b]? = some (.cells cs.toArray T (0, 0)) := hw.h (lpt b cs T) h
end Go.Art
set_option linter.unusedSimpArgs false
set_option linter.unusedVariables false
namespace Go.Art
open Go Go.Proofs Go.RowKit
section
variable {P : Program} {E : Env P} {n : Sh} {X : Cx} {s : List K} {fr : Fr} {A : List Ch} {ops : Array Oper} {rest : List Oper} {d : Nat} {ty t t' : TypeId} {pos : String} {after : Array Edge} {x y : Operand} {b1 b2 : Bool}
theorem R_bne {w : World} (hx : ev fr x = some (.bool b1)) (hy : ev fr y = some (.bool b2)) (ht : lk E.und t = some .bool) : OpV P n fr (.binOp .neq t x y t') ty w (.bool (!(b1 == b2))) w := ⟨fun a ha _ _ _ _ => by
  have hg : (eqGuard .neq t x y (.bool b1) (.bool b2)).run P w = .ok () w := rfl
  simp only [execOp, ha.ev hx, ha.ev hy]
  simp [hg, run_neq_bool (P := P) w t b1 b2 (E.un ht)]⟩
end
def bnd (C : List Ch) : Ch where
  wr := wrs C
  rd := rds C
  bd := fun b => ∃ c ∈ C, c.bd b
  P := Sat C
  loc := fun h hb => ⟨h.ap, fun c hc => c.loc (h.h c hc) fun b hf => hb b (by
    rcases hf with hf | hf | hf
    · exact .inl ⟨c, hc, hf⟩
    · exact .inr (.inl ⟨c, hc, hf⟩)
    · exact .inr (.inr ⟨c, hc, hf⟩))⟩
  lt := fun h hb => h.lt (by
    rcases hb with ⟨c, hc, hf⟩ | ⟨c, hc, hf⟩ | ⟨c, hc, hf⟩
    · exact ⟨c, hc, .inl hf⟩
    · exact ⟨c, hc, .inr (.inl hf)⟩
    · exact ⟨c, hc, .inr (.inr hf)⟩)
theorem bnd_ft {C : List Ch} {b : Nat} : (bnd C).ft b ↔ fts C b := by
  constructor
  · rintro (⟨c, hc, hf⟩ | ⟨c, hc, hf⟩ | ⟨c, hc, hf⟩)
    · exact ⟨c, hc, .inl hf⟩
    · exact ⟨c, hc, .inr (.inl hf)⟩
    · exact ⟨c, hc, .inr (.inr hf)⟩
  · rintro ⟨c, hc, hf | hf | hf⟩
    · exact .inl ⟨c, hc, hf⟩
    · exact .inr (.inl ⟨c, hc, hf⟩)
    · exact .inr (.inr ⟨c, hc, hf⟩)
theorem bnd_wrs {C F : List Ch} {b : Nat} : wrs (bnd C :: F) b ↔ wrs (C ++ F) b := by
  rw [wrs_app]
  constructor
  · rintro ⟨x, hx, hb⟩
    rcases List.mem_cons.1 hx with rfl | hx
    · exact .inl hb
    · exact .inr ⟨x, hx, hb⟩
  · rintro (h | ⟨x, hx, hb⟩)
    · exact ⟨_, List.Mem.head _, h⟩
    · exact ⟨x, List.mem_cons_of_mem _ hx, hb⟩
theorem bnd_rds {C F : List Ch} {b : Nat} : rds (bnd C :: F) b ↔ rds (C ++ F) b := by
  rw [rds_app]
  constructor
  · rintro ⟨x, hx, hb⟩
    rcases List.mem_cons.1 hx with rfl | hx
    · exact .inl hb
    · exact .inr ⟨x, hx, hb⟩
  · rintro (h | ⟨x, hx, hb⟩)
    · exact ⟨_, List.Mem.head _, h⟩
    · exact ⟨x, List.mem_cons_of_mem _ hx, hb⟩
theorem bnd_fts {C F : List Ch} {b : Nat} : fts (bnd C :: F) b ↔ fts (C ++ F) b := by
  rw [fts_app]
  constructor
  · rintro ⟨x, hx, hb⟩
    rcases List.mem_cons.1 hx with rfl | hx
    · exact .inl (bnd_ft.1 hb)
    · exact .inr ⟨x, hx, hb⟩
  · rintro (h | ⟨x, hx, hb⟩)
    · exact ⟨_, List.Mem.head _, bnd_ft.2 h⟩
    · exact ⟨x, List.mem_cons_of_mem _ hx, hb⟩
theorem bnd_sat {C F : List Ch} {w : World} : Sat (bnd C :: F) w ↔ Sat (C ++ F) w := by
  rw [Sat.cons, Sat.app]
  constructor
  · rintro ⟨h1, h2, h3⟩
    refine ⟨h1, h3, fun a ha f hf => ⟨fun b hb hft => (h2 f hf).1 b ⟨a, ha, hb⟩ hft, fun b hb hft => (h2 f hf).2 b hb (bnd_ft.2 ⟨a, ha, hft⟩)⟩⟩
  · rintro ⟨h1, h3, h2⟩
    refine ⟨h1, fun f hf => ⟨fun b hb hft => ?_, fun b hb hft => ?_⟩, h3⟩
    · obtain ⟨a, ha, hb⟩ := hb; exact (h2 a ha f hf).1 b hb hft
    · obtain ⟨a, ha, hft⟩ := bnd_ft.1 hft; exact (h2 a ha f hf).2 b hb hft
theorem im_bnd (C F : List Ch) : Im (C ++ F) (bnd C :: F) := ⟨fun _ h => bnd_sat.2 h, fun _ h => bnd_wrs.1 h, fun _ h => .inr (bnd_rds.1 h), fun _ h => bnd_fts.1 h⟩
theorem perm_get {α : Type} : ∀ {C : List α} {i : Nat} {c : α}, C[i]? = some c → C.Perm (c :: C.eraseIdx i)
  | [], _, _, h => by simp at h
  | a :: C, 0, c, h => by simp at h; subst h; exact List.Perm.refl _
  | a :: C, i + 1, c, h => by
    have := perm_get (C := C) (i := i) (c := c) (by simpa using h)
    simp only [List.eraseIdx_cons_succ]
    exact (this.cons a).trans (List.Perm.swap _ _ _)
def owls (e : TypeId) (g : Int → Value) (hs : List Value) (ls : List (List Int)) : List Ch := List.zipWith (fun h l => own e h (l.map g)) hs ls
def owl (e : TypeId) (g : Int → Value) (hs : List Value) (ls : List (List Int)) : Ch := bnd (owls e g hs ls)
theorem owls_nb {e : TypeId} {g : Int → Value} {hs : List Value} {ls : List (List Int)} : ∀ c ∈ owls e g hs ls, ∀ b, ¬ c.bd b := fun c hc b hb => by
  unfold owls at hc
  rw [List.mem_iff_getElem] at hc
  obtain ⟨i, hi, rfl⟩ := hc
  rw [List.getElem_zipWith] at hb
  exact hb
instance {e : TypeId} {g : Int → Value} {hs : List Value} {ls : List (List Int)} : NoB (owl e g hs ls) := ⟨fun b ⟨c, hc, hb⟩ => owls_nb c hc b hb⟩
theorem owls_set {e : TypeId} {g : Int → Value} {v : Value} {l : List Int} : ∀ {hs : List Value} {ls : List (List Int)} {i : Nat}, (owls e g hs ls).set i (own e v (l.map g)) = owls e g (hs.set i v) (ls.set i l)
  | [], _, _ => by simp [owls]
  | _ :: _, [], _ => by simp [owls]
  | _ :: _, _ :: _, 0 => by simp [owls]
  | a :: hs, b :: ls, i + 1 => by
    have := owls_set (e := e) (g := g) (v := v) (l := l) (hs := hs) (ls := ls) (i := i)
    unfold owls at *
    simp [this]
end Go.Art
set_option linter.unusedSimpArgs false
set_option linter.unusedVariables false
namespace Go.Art
open Go Go.Proofs Go.RowKit
theorem TC.slf {P : Program} {E : Env P} {n : Sh} {X : Cx} {s : List K} {fr : Fr} {A : List Ch} {c0 : Code} {v : Value} {xs : List Value} (k : ∀ a c, v = .slice a xs.length c → (a = none → xs = []) → TC E n X s c0 fr A) (hh : Has A (vw v xs) := by first | (apply has_vw; (repeat (first | apply List.Mem.head | apply List.Mem.tail)); first | done | fail) | (apply has_own; (repeat (first | apply List.Mem.head | apply List.Mem.tail)); first | done | fail) | (apply has_ro; (repeat (first | apply List.Mem.head | apply List.Mem.tail)); first | done | fail) | apply has_nil | ((with_reducible apply has_el); (focus (first | (apply has_vels; (repeat (first | apply List.Mem.head | apply List.Mem.tail)); first | done | fail) | (apply has_rels; (repeat (first | apply List.Mem.head | apply List.Mem.tail)); first | done | fail))); omega) | (apply has_pt; (repeat (first | apply List.Mem.head | apply List.Mem.tail)); first | done | fail) | (apply has_lpt; (repeat (first | apply List.Mem.head | apply List.Mem.tail)); first | done | fail) | (apply has_vels; (repeat (first | apply List.Mem.head | apply List.Mem.tail)); first | done | fail) | (apply has_rels; (repeat (first | apply List.Mem.head | apply List.Mem.tail)); first | done | fail) | with_reducible assumption | ((with_reducible apply has_elg); (focus (first | (apply has_velg; (repeat (first | apply List.Mem.head | apply List.Mem.tail)); first | done | fail) | (apply has_relg; (repeat (first | apply List.Mem.head | apply List.Mem.tail)); first | done | fail))); omega) | (apply has_velg; (repeat (first | apply List.Mem.head | apply List.Mem.tail)); first | done | fail) | (apply has_relg; (repeat (first | apply List.Mem.head | apply List.Mem.tail)); first | done | fail) | (apply has_vwf; (repeat (first | apply List.Mem.head | apply List.Mem.tail)); first | done | fail)) : TC E n X s c0 fr A := by
  by_cases h : ∃ a c, v = .slice a xs.length c ∧ (a = none → xs = [])
  · obtain ⟨a, c, h1, h2⟩ := h; exact k a c h1 h2
  · refine TC.fact (p := False) (fun w hw => h ?_) (fun h => h.elim)
    obtain ⟨a, c, h1, h2, h3, h4⟩ := hh.P w hw
    refine ⟨a, c, h1, fun e => ?_⟩
    cases xs with
    | nil => rfl
    | cons x r => obtain ⟨y, hy, _⟩ := h4 0 _ rfl; rw [e] at hy; cases hy
theorem vw_sl {w : World} {v : Value} {xs : List Value} (h : (vw v xs).P w) : Sl w v xs := h
theorem own_O {w : World} {e : TypeId} {v : Value} {xs : List Value} (h : (own e v xs).P w) : OwnO w e v xs := h
theorem TX.one {P : Program} {E : Env P} {n : Sh} {X : Cx} {s : List K} {fr : Fr} {A : List Ch} {e : Exit} {v : Value} {xs : List Value} (k : v.oneCell' = true → TX E n X s e fr A) (hh : Has A (vw v xs) := by first | (apply has_vw; (repeat (first | apply List.Mem.head | apply List.Mem.tail)); first | done | fail) | (apply has_own; (repeat (first | apply List.Mem.head | apply List.Mem.tail)); first | done | fail) | (apply has_ro; (repeat (first | apply List.Mem.head | apply List.Mem.tail)); first | done | fail) | apply has_nil | ((with_reducible apply has_el); (focus (first | (apply has_vels; (repeat (first | apply List.Mem.head | apply List.Mem.tail)); first | done | fail) | (apply has_rels; (repeat (first | apply List.Mem.head | apply List.Mem.tail)); first | done | fail))); omega) | (apply has_pt; (repeat (first | apply List.Mem.head | apply List.Mem.tail)); first | done | fail) | (apply has_lpt; (repeat (first | apply List.Mem.head | apply List.Mem.tail)); first | done | fail) | (apply has_vels; (repeat (first | apply List.Mem.head | apply List.Mem.tail)); first | done | fail) | (apply has_rels; (repeat (first | apply List.Mem.head | apply List.Mem.tail)); first | done | fail) | with_reducible assumption | ((with_reducible apply has_elg); (focus (first | (apply has_velg; (repeat (first | apply List.Mem.head | apply List.Mem.tail)); first | done | fail) | (apply has_relg; (repeat (first | apply List.Mem.head | apply List.Mem.tail)); first | done | fail))); omega) | (apply has_velg; (repeat (first | apply List.Mem.head | apply List.Mem.tail)); first | done | fail) | (apply has_relg; (repeat (first | apply List.Mem.head | apply List.Mem.tail)); first | done | fail) | (apply has_vwf; (repeat (first | apply List.Mem.head | apply List.Mem.tail)); first | done | fail)) : TX E n X s e fr A :=
  TX.fact (fun w hw => by obtain ⟨a, c, h, _⟩ := has_sl hw hh; rw [h]; rfl) k
theorem one_slSub {v : Value} (h : v.oneCell' = true) (lo hi : Nat) : (slSub v lo hi).oneCell' = true := by
  cases v with
  | slice a l c => cases a <;> rfl
  | _ => exact h
theorem sub_own {A F : List Ch} {e : TypeId} {v : Value} {l : List Int} {lo hi : Nat} (h1 : lo ≤ hi) (h2 : hi ≤ l.length) (hf : Fit A [own e v (Is l)] F) : Im A (own e (slSub v lo hi) (Is ((l.take hi).drop lo)) :: F) := Im.trans hf (Im1.im (im_subi e v l h1 h2) F)
end Go.Art
set_option linter.unusedSimpArgs false
set_option linter.unusedVariables false
namespace Go.Art
open Go Go.Proofs Go.RowKit
theorem TrB {P : Program} {f : FuncId} {args : List Value} {pre C : List Ch} {R : Value → List Ch → Prop} (h : Tr P f args pre C R) : Tr P f args pre [bnd C] fun v D => ∃ D', R v D' ∧ D = [bnd D'] := by
  refine ⟨fun w hw => ?_, h.lent⟩
  have hw' : Sat (pre ++ C) w := by
    have h1 : Sat (bnd C :: pre) w := hw.perm (List.perm_append_comm (l₁ := pre) (l₂ := [bnd C]))
    exact (bnd_sat.1 h1).perm List.perm_append_comm
  refine (h.run w hw').mono fun v w' ⟨B, hR, hS, hM, hB⟩ => ⟨[bnd B], ⟨B, hR, rfl⟩, ?_, ?_, ?_⟩
  · exact bnd_sat.2 (by rw [List.append_nil]; exact hS)
  · have e1 : ∀ (C : List Ch) (b : Nat), wrs [bnd C] b ↔ wrs C b := fun C b => by have := bnd_wrs (C := C) (F := []) (b := b); rwa [List.append_nil] at this
    have e2 : ∀ (C : List Ch) (b : Nat), rds [bnd C] b ↔ rds C b := fun C b => by have := bnd_rds (C := C) (F := []) (b := b); rwa [List.append_nil] at this
    exact ⟨hM.os, hM.tape, hM.output, hM.size, fun k hk hn => hM.block k hk fun h => hn ((e1 C k).2 h), fun b hb => (hM.wr b ((e1 B b).1 hb)).imp_left (e1 C b).2,
      fun b hb => (hM.rd b ((e2 B b).1 hb)).imp (e1 C b).2 (Or.imp_left (e2 C b).2)⟩
  · intro c hc b hb
    obtain rfl := List.mem_singleton.1 hc
    obtain ⟨x, hx, hb⟩ := hb
    exact hB x hx b hb
theorem TrB1 {P : Program} {f : FuncId} {args : List Value} {pre C : List Ch} {R R' : Value → List Ch → Prop} (h : Tr P f args pre C R) (k : ∀ v D, R v D → R' v [bnd D]) : Tr P f args pre [bnd C] R' := (TrB h).mono fun v D ⟨D', h1, h2⟩ => by rw [h2]; exact k v D' h1
abbrev Lw := BitVec 64 ⊕ (List Int × Bool)
def rowOk (n : Int) (l : List Int) (br : Bool) : Prop := br = false ∧ 0 < l.length ∧ 0 ≤ l.getD 0 0 ∧ l.getD 0 0 < n
instance (n : Int) (l : List Int) (br : Bool) : Decidable (rowOk n l br) := by unfold rowOk; infer_instance
def drw (n : Int) : Lw → (Int × Int) × Lw
  | .inl st => if 1 ≤ n ∧ n ≤ 1099511627776 then ((((sdraw n.toNat st).1 : Int), 0), .inl (sdraw n.toNat st).2) else ((0, 3), .inl st)
  | .inr (l, br) => if 1 ≤ n ∧ n ≤ 1099511627776 then (if rowOk n l br then ((l.getD 0 0, 0), .inr (l.drop 1, false)) else ((0, 12), .inr (l, true))) else ((0, 3), .inr (l, br))
def dru (n : Int) (x : Lw) : Int := if (drw n x).1.2 = 0 then 1 else 0
theorem drw_inl (n : Int) (st : BitVec 64) : drw n (.inl st) = if 1 ≤ n ∧ n ≤ 1099511627776 then ((((sdraw n.toNat st).1 : Int), 0), .inl (sdraw n.toNat st).2) else ((0, 3), .inl st) := rfl
theorem drw_inr (n : Int) (l : List Int) (br : Bool) : drw n (.inr (l, br)) = if 1 ≤ n ∧ n ≤ 1099511627776 then (if rowOk n l br then ((l.getD 0 0, 0), .inr (l.drop 1, false)) else ((0, 12), .inr (l, true))) else ((0, 3), .inr (l, br)) := rfl
theorem drw_rng {n : Int} {x : Lw} (h : (drw n x).1.2 = 0) : 0 ≤ (drw n x).1.1 ∧ (drw n x).1.1 < n := by
  cases x with
  | inl st =>
    rw [drw_inl] at h ⊢
    split
    · have := sdraw_lt (n := n.toNat) (by omega) st
      dsimp only; omega
    · rename_i hn; rw [if_neg hn] at h; cases h
  | inr p =>
    obtain ⟨l, br⟩ := p
    rw [drw_inr] at h ⊢
    split
    · rename_i hn
      rw [if_pos hn] at h
      split
      · rename_i hr
        exact ⟨hr.2.2.1, hr.2.2.2⟩
      · rename_i hr; rw [if_neg hr] at h; cases h
    · rename_i hn; rw [if_neg hn] at h; cases h
theorem drw_bad {n : Int} (x : Lw) (h : ¬ (1 ≤ n ∧ n ≤ 1099511627776)) : drw n x = ((0, 3), x) := by
  cases x with
  | inl st => exact if_neg h
  | inr p => exact if_neg h
abbrev TLr : TypeId := 91
abbrev TpR : TypeId := 89
abbrev TLI : TypeId := 3
def okL (_ : Lw) : Prop := True
theorem okL_row (l : List Int) (br : Bool) : okL (.inr (l, br)) := trivial
theorem okL_drw (n : Int) {x : Lw} (h : okL x) : okL (drw n x).2 := trivial
def lotC (b r : Nat) (sv : Value) (x : Lw) (used : Int) : List Ch :=
  match x with
  | .inl st => lotP b r st used false
  | .inr (l, br) => [pt b [.iface TpR (ptr r), I used, .bool br] TLo, pt r [sv] TLr, own TLI sv (Is l)]
abbrev lot (b r : Nat) (sv : Value) (x : Lw) (used : Int) : Ch := bnd (lotC b r sv x used)
theorem lotC_nb (b r : Nat) (sv : Value) (x : Lw) (used : Int) : ∀ c ∈ lotC b r sv x used, ∀ b, ¬ c.bd b := by
  cases x with
  | inl st => unfold lotC; (repeat (first | exact nb0 | refine nb1 ?_))
  | inr p => unfold lotC; (repeat (first | exact nb0 | refine nb1 ?_))
instance (b r : Nat) (sv : Value) (x : Lw) (used : Int) : NoB (lot b r sv x used) := ⟨fun b h => by obtain ⟨c, hc, h1⟩ := h; exact lotC_nb _ _ _ _ _ c hc b h1⟩
theorem fit_bnd {A C G : List Ch} (h : Fit A C G) : Fit A [bnd C] G := Im.trans h (im_bnd C G)
attribute [local irreducible] Fit pt own ro vw mpc lpt vels rels mow lrc dfr
attribute [local irreducible] lmp lme mit velg relg
theorem ICloneN_tr (v : Value) (l : List Int) (hl : l.length ≤ 17592186044416) : Tr Tryz.prog 63 [v] [vw v (Is l)] [] fun u D => u.oneCell' = true ∧ D = [own TLI u (Is l)] := by
  refine Tr.enter env _ Tryz.func63 (by kernel_rfl) rfl Tryz.ntmps63 rfl (by repeat (first | exact has00 | refine has01 ?_)) fun w0 => ?_
  refine TC.slf (v := v) (xs := Is l) fun a c hv hn => ?_
  rw [Is_len] at hv
  cases a with
  | none =>
    have hl0 : l = [] := by have := hn rfl; simpa using this
    subst hl0 hv
    repeat' first|(refine wo ?_; first|(refine ao ?_; first|refine isl ?_)|refine oa ?_)|(refine gc ?_; first|refine ct ?_)|refine sq ?_|refine rg ?_|refine xc ?_|refine nl ?_|refine rt ?_
    refine TX.im (own_nil TLI _) ?_
    exact r1 ⟨rfl, rfl⟩
  | some a =>
    subst hv
    repeat' first|(refine sl0 fun o => ?_)|(refine api (l := []) (news := l) (fun o => ?_); refine TO.one (v := o) (xs := Is ([] ++ l)) fun ho => ?_)|(refine wo ?_; first|(refine ao ?_; first|refine isl ?_)|refine oa ?_)|(refine gc ?_; first|refine cf ?_)|refine sq ?_|refine rg ?_|refine xc ?_|refine nl ?_|refine sk ?_|refine rt ?_
    exact r1 ⟨ho, rfl⟩
theorem LRow_tr (v : Value) (l : List Int) (hl : l.length ≤ 17592186044416) : Tr Tryz.prog 22 [v] [vw v (Is l)] [] fun u D => ∃ b r sv, u = ptr b ∧ D = [lot b r sv (.inr (l, false)) 0] := by
  refine Tr.enter env _ Tryz.func22 (by kernel_rfl) rfl Tryz.ntmps22 rfl (by repeat (first | exact has00 | refine has01 ?_)) fun w0 => ?_
  repeat' first|(refine gca ?_; first|(refine ca (ICloneN_tr v l hl) ?_; rintro o _ ⟨ho, rfl⟩))|refine bdz ?_|refine bx fun b1 => ?_|(refine wo ?_; first|refine oa ?_)|refine sq ?_|refine rg ?_|refine xc ?_|refine nl ?_|refine rt ?_
  rename_i b0
  exact r1 (D := [lot b1 b0 o (.inr (l, false)) 0]) ⟨b1, b0, o, rfl, rfl⟩ (hf := fit_bnd (C := [pt b1 [.iface TpR (ptr b0), I 0, .bool false] TLo, pt b0 [o] TLr, own TLI o (Is l)]) (by first | apply Fit.all | ((repeat (first | (apply Fit.nilN; (repeat (first | apply nrm_nil | apply nrm_cons)); try apply nrm_rfl) | (apply Fit.cons; focus ((repeat (first | apply Tk.here | apply Tk.there)); first | done | fail)))); first | done | fail)))
theorem LSeeded_tr (x y z : BitVec 64) : Tr Tryz.prog 26 [U x, U y, U z] [] [] fun v D => ∃ b r sv, v = ptr b ∧ D = [lot b r sv (.inl (seedOf x y z)) 0] := by
  refine Tr.enter env _ Tryz.func26 (by kernel_rfl) rfl Tryz.ntmps26 rfl (by repeat (first | exact has00 | refine has01 ?_)) fun w0 => ?_
  repeat' first|(refine gca ?_; first|(refine ca (Stir_tr _) ?_; rintro _ _ ⟨rfl, rfl⟩))|refine uad ?_|refine bdz ?_|refine bx fun b1 => ?_|(refine wo ?_; first|refine oa ?_)|refine sq ?_|refine rg ?_|refine xc ?_|refine nl ?_|refine rt ?_
  rename_i b0
  exact r1 (D := [lot b1 b0 nS (.inl (seedOf x y z)) 0]) ⟨b1, b0, nS, rfl, rfl⟩ (hf := fit_bnd (C := lotP b1 b0 (seedOf x y z) 0 false) (by first | apply Fit.all | ((repeat (first | (apply Fit.nilN; (repeat (first | apply nrm_nil | apply nrm_cons)); try apply nrm_rfl) | (apply Fit.cons; focus ((repeat (first | apply Tk.here | apply Tk.there)); first | done | fail)))); first | done | fail)))
theorem rowDraw_tr (r : Nat) (sv : Value) (l : List Int) (n : Int) (h : rowOk n l false) : Tr Tryz.prog 213 [ptr r, I n] [] [pt r [sv] TLr, own TLI sv (Is l)]
    fun v D => v = tup2 (I (l.getD 0 0)) (.bool true) ∧ D = [pt r [slSub sv 1 l.length] TLr, own TLI (slSub sv 1 l.length) (Is (l.drop 1))] := by
  unfold rowOk at h
  have e0 : l.getD (Int.toNat 0) 0 = l.getD 0 0 := rfl
  refine Tr.enter env _ Tryz.func213 (by kernel_rfl) rfl Tryz.ntmps213 rfl (by repeat (first | exact has00 | refine has01 ?_)) fun w0 => ?_
  refine TC.leni (l := l) fun hll => ?_
  refine TC.one (v := sv) (xs := Is l) fun hsv => ?_
  have hs1 := one_slSub hsv 1 l.length
  repeat' first|(refine wo ?_; first|(refine ao ?_; first|refine oa ?_)|refine oa ?_|refine ld ?_|refine lnm ?_|refine ixm ?_|refine li ?_|refine sr ?_|refine sclm ?_|refine gy ?_|(refine gsi (fun hB => ?_) (fun hB => ?_) <;> try (exfalso; omega)))|(refine gc ?_; first|(refine ci (fun hB => ?_) (fun hB => ?_) <;> try (exfalso; omega)))|refine sq ?_|refine rg ?_|refine xc ?_|refine nl ?_|refine sk ?_|refine rt ?_
  refine TX.im (sub_own (e := TLI) (v := sv) (l := l) (lo := 1) (hi := l.length) (by omega) (Nat.le_refl _) (by first | apply Fit.all | ((repeat (first | (apply Fit.nilN; (repeat (first | apply nrm_nil | apply nrm_cons)); try apply nrm_rfl) | (apply Fit.cons; focus ((repeat (first | apply Tk.here | apply Tk.there)); first | done | fail)))); first | done | fail))) ?_
  rw [List.take_length]
  exact r2 ⟨rfl, rfl⟩
theorem rowDraw0_tr (r : Nat) (sv : Value) (l : List Int) (n : Int) (h : ¬ rowOk n l false) : Tr Tryz.prog 213 [ptr r, I n] [] [pt r [sv] TLr, own TLI sv (Is l)]
    fun v D => v = tup2 (I 0) (.bool false) ∧ D = [pt r [sv] TLr, own TLI sv (Is l)] := by
  have h' : ¬ (0 < l.length ∧ 0 ≤ l.getD 0 0 ∧ l.getD 0 0 < n) := fun k => h ⟨rfl, k⟩
  have e0 : l.getD (Int.toNat 0) 0 = l.getD 0 0 := rfl
  refine Tr.enter env _ Tryz.func213 (by kernel_rfl) rfl Tryz.ntmps213 rfl (by repeat (first | exact has00 | refine has01 ?_)) fun w0 => ?_
  refine TC.leni (l := l) fun hll => ?_
  repeat' first|(refine wo ?_; first|(refine ao ?_; first|refine oa ?_)|refine oa ?_|refine ld ?_|refine lnm ?_|refine ixm ?_|refine li ?_|refine gy ?_|refine gn ?_|(refine gsi (fun hB => ?_) (fun hB => ?_) <;> try (exfalso; omega)))|(refine gc ?_; first|refine ct ?_|(refine ci (fun hB => ?_) (fun hB => ?_) <;> try (exfalso; omega)))|refine sq ?_|refine rg ?_|refine xc ?_|refine nl ?_|refine rt ?_
  all_goals first | (exfalso; omega) | exact r2 ⟨rfl, rfl⟩
theorem method_row (a : Addr) (w : World) : (method (Tryz.prog.types.size + Made.depth) 89 (.pointer (some a)) "artesian/lots.draw").run Tryz.prog w = .ok (213, .pointer (some a)) w := by kernel_rfl
theorem noneR_tr (b r : Nat) (used : Int) (br : Bool) : Tr Tryz.prog 71 [ptr b] [lpt b [.iface TpR (ptr r), I used, .bool br] TLo] [] fun v D => v = .bool false ∧ D = [] := by
  refine Tr.enter env _ Tryz.func71 (by kernel_rfl) rfl Tryz.ntmps71 rfl (by repeat (first | exact has00 | refine has01 ?_)) fun w0 => ?_
  repeat' first|refine ife ?_|refine ifn ?_|(refine wo ?_; first|(refine ao ?_; first|refine ipe ?_)|refine oa ?_|refine ldl ?_|refine gy ?_)|refine sq ?_|refine rg ?_|refine xc ?_|refine nl ?_|refine rt ?_
  exact r1 ⟨rfl, rfl⟩
theorem DrawRow_tr (b r : Nat) (sv : Value) (l : List Int) (br : Bool) (used n : Int) (hu : 0 ≤ used ∧ used ≤ 4611686018427387904) : Tr Tryz.prog 96 [ptr b, I n] [] (lotC b r sv (.inr (l, br)) used)
    fun v D => v = tup2 (I (drw n (.inr (l, br))).1.1) (I (drw n (.inr (l, br))).1.2) ∧ ∃ sv', D = lotC b r sv' (drw n (.inr (l, br))).2 (used + dru n (.inr (l, br))) := by
  show Tr _ _ _ _ [pt b [.iface TpR (ptr r), I used, .bool br] TLo, pt r [sv] TLr, own TLI sv (Is l)] _
  by_cases hn : 1 ≤ n ∧ n ≤ 1099511627776
  rotate_left
  · rw [show dru n (.inr (l, br)) = 0 by unfold dru; rw [drw_bad _ hn]; rfl, drw_bad _ hn, Int.add_zero]
    refine Tr.mono (R := fun v D => v = tup2 (I 0) (I 3) ∧ D = [pt b [.iface TpR (ptr r), I used, .bool br] TLo, pt r [sv] TLr, own TLI sv (Is l)]) ?_ (fun v D h => ⟨h.1, sv, h.2⟩)
    refine Tr.enter env _ Tryz.func96 (by kernel_rfl) rfl Tryz.ntmps96 rfl (by repeat (first | exact has00 | refine has01 ?_)) fun w0 => ?_
    repeat' first|(refine gca ?_; first|(refine ca (noneR_tr b r used br) ?_; rintro _ _ ⟨rfl, rfl⟩))|(refine wo ?_; first|(refine ao ?_; first|refine oa ?_)|refine oa ?_|refine gy ?_|refine gn ?_|(refine gsi (fun hB => ?_) (fun hB => ?_) <;> try (exfalso; omega)))|(refine gc ?_; first|refine ct ?_|refine cf ?_|(refine ci (fun hB => ?_) (fun hB => ?_) <;> try (exfalso; omega)))|refine sq ?_|refine rg ?_|refine xc ?_|refine nl ?_|refine bk ?_|refine rt ?_
    all_goals exact r2 ⟨rfl, rfl⟩
  by_cases hr : rowOk n l br
  · have e1 : drw n (.inr (l, br)) = ((l.getD 0 0, 0), .inr (l.drop 1, false)) := by rw [drw_inr, if_pos hn, if_pos hr]
    rw [show dru n (.inr (l, br)) = 1 by unfold dru; rw [e1]; rfl, e1]
    obtain rfl : br = false := hr.1
    refine Tr.mono (R := fun v D => v = tup2 (I (l.getD 0 0)) (I 0) ∧ D = [pt b [.iface TpR (ptr r), I (used + 1), .bool false] TLo, pt r [slSub sv 1 l.length] TLr, own TLI (slSub sv 1 l.length) (Is (l.drop 1))]) ?_ (fun v D h => ⟨h.1, slSub sv 1 l.length, h.2⟩)
    refine Tr.enter env _ Tryz.func96 (by kernel_rfl) rfl Tryz.ntmps96 rfl (by repeat (first | exact has00 | refine has01 ?_)) fun w0 => ?_
    repeat' first|(refine gca ?_; first|(refine ca (noneR_tr b r used false) ?_; rintro _ _ ⟨rfl, rfl⟩))|(refine civ (rowDraw_tr r sv l n hr) ?_ (method_row _); rintro _ _ ⟨rfl, rfl⟩)|(refine wo ?_; first|(refine ao ?_; first|refine aw ?_|refine oa ?_)|refine oa ?_|refine ld ?_|refine sr ?_|refine gy ?_|(refine gsi (fun hB => ?_) (fun hB => ?_) <;> try (exfalso; omega)))|(refine gc ?_; first|refine cf ?_|(refine ci (fun hB => ?_) (fun hB => ?_) <;> try (exfalso; omega)))|refine sq ?_|refine rg ?_|refine xc ?_|refine nl ?_|refine sk ?_|refine bk ?_|refine rt ?_|refine xb ?_
    exact r2 ⟨rfl, rfl⟩
  · have e1 : drw n (.inr (l, br)) = ((0, 12), .inr (l, true)) := by rw [drw_inr, if_pos hn, if_neg hr]
    rw [show dru n (.inr (l, br)) = 0 by unfold dru; rw [e1]; rfl, e1, Int.add_zero]
    refine Tr.mono (R := fun v D => v = tup2 (I 0) (I 12) ∧ D = [pt b [.iface TpR (ptr r), I used, .bool true] TLo, pt r [sv] TLr, own TLI sv (Is l)]) ?_ (fun v D h => ⟨h.1, sv, h.2⟩)
    cases br with
    | true =>
      refine Tr.enter env _ Tryz.func96 (by kernel_rfl) rfl Tryz.ntmps96 rfl (by repeat (first | exact has00 | refine has01 ?_)) fun w0 => ?_
      repeat' first|(refine gca ?_; first|(refine ca (noneR_tr b r used true) ?_; rintro _ _ ⟨rfl, rfl⟩))|(refine wo ?_; first|(refine ao ?_; first|refine oa ?_)|refine oa ?_|refine ld ?_|refine gy ?_|(refine gsi (fun hB => ?_) (fun hB => ?_) <;> try (exfalso; omega)))|(refine gc ?_; first|refine ct ?_|refine cf ?_|(refine ci (fun hB => ?_) (fun hB => ?_) <;> try (exfalso; omega)))|refine sq ?_|refine rg ?_|refine xc ?_|refine nl ?_|refine bk ?_|refine rt ?_
      exact r2 ⟨rfl, rfl⟩
    | false =>
      refine Tr.enter env _ Tryz.func96 (by kernel_rfl) rfl Tryz.ntmps96 rfl (by repeat (first | exact has00 | refine has01 ?_)) fun w0 => ?_
      repeat' first|(refine gca ?_; first|(refine ca (noneR_tr b r used false) ?_; rintro _ _ ⟨rfl, rfl⟩))|(refine civ (rowDraw0_tr r sv l n hr) ?_ (method_row _); rintro _ _ ⟨rfl, rfl⟩)|(refine wo ?_; first|(refine ao ?_; first|refine oa ?_)|refine oa ?_|refine ld ?_|refine sr ?_|refine gy ?_|(refine gsi (fun hB => ?_) (fun hB => ?_) <;> try (exfalso; omega)))|(refine gc ?_; first|refine ct ?_|refine cf ?_|(refine ci (fun hB => ?_) (fun hB => ?_) <;> try (exfalso; omega)))|refine sq ?_|refine rg ?_|refine xc ?_|refine nl ?_|refine sk ?_|refine bk ?_|refine rt ?_|refine xb ?_
      exact r2 ⟨rfl, rfl⟩
theorem DrawL_tr (b r : Nat) (sv : Value) (x : Lw) (used n : Int) (hx : okL x) (hu : 0 ≤ used ∧ used ≤ 4611686018427387904) : Tr Tryz.prog 96 [ptr b, I n] [] [lot b r sv x used]
    fun v D => v = tup2 (I (drw n x).1.1) (I (drw n x).1.2) ∧ ∃ sv', D = [lot b r sv' (drw n x).2 (used + dru n x)] := by
  cases x with
  | inl st =>
    refine TrB1 (C := lotC b r sv (.inl st) used) (Draw_tr b r st used n hu) fun v D h => ?_
    have e : ldraw n st used = ((drw n (.inl st)).1, ((if 1 ≤ n ∧ n ≤ 1099511627776 then (sdraw n.toNat st).2 else st), used + dru n (.inl st))) ∧ (drw n (.inl st)).2 = .inl (if 1 ≤ n ∧ n ≤ 1099511627776 then (sdraw n.toNat st).2 else st) := by
      unfold dru ldraw
      rw [drw_inl]
      split
      · exact ⟨rfl, rfl⟩
      · rw [if_neg (show ¬ (3 : Int) = 0 by decide), Int.add_zero]; exact ⟨rfl, rfl⟩
    rw [e.1] at h
    rw [e.2]
    exact ⟨h.1, sv, by rw [h.2]; rfl⟩
  | inr p =>
    obtain ⟨l, br⟩ := p
    exact TrB1 (DrawRow_tr b r sv l br used n hu) fun v D ⟨h1, sv', h2⟩ => ⟨h1, sv', by rw [h2]⟩
end Go.Art
set_option linter.unusedSimpArgs false
set_option linter.unusedVariables false
namespace Go.Art
open Go Go.Proofs Go.RowKit
def ordW (k : Nat) : Nat → Nat → List Int → Lw → (List Int × Int) × Lw
  | 0, _, _, x => (([], 0), x)
  | m + 1, i, l, x =>
    if (drw ((k : Int) - i) x).1.2 = 0 then
      ((l.getD (i + (drw ((k : Int) - i) x).1.1.toNat) 0 :: (ordW k m (i + 1) (swp l i (i + (drw ((k : Int) - i) x).1.1.toNat)) (drw ((k : Int) - i) x).2).1.1,
        (ordW k m (i + 1) (swp l i (i + (drw ((k : Int) - i) x).1.1.toNat)) (drw ((k : Int) - i) x).2).1.2), (ordW k m (i + 1) (swp l i (i + (drw ((k : Int) - i) x).1.1.toNat)) (drw ((k : Int) - i) x).2).2)
    else (([], (drw ((k : Int) - i) x).1.2), (drw ((k : Int) - i) x).2)
theorem ordW_len (k : Nat) : ∀ (m i : Nat) (l : List Int) (x : Lw), (ordW k m i l x).1.1.length ≤ m ∧ ((ordW k m i l x).1.2 = 0 → (ordW k m i l x).1.1.length = m)
  | 0, _, _, _ => ⟨Nat.le_refl _, fun _ => rfl⟩
  | m + 1, i, l, x => by
    unfold ordW
    split
    · have := ordW_len k m (i + 1) (swp l i (i + (drw ((k : Int) - i) x).1.1.toNat)) (drw ((k : Int) - i) x).2
      refine ⟨by dsimp only; rw [List.length_cons]; omega, fun h => ?_⟩
      dsimp only at h ⊢
      rw [List.length_cons, this.2 h]
    · rename_i h; exact ⟨Nat.zero_le _, fun h1 => absurd h1 h⟩
def ordO (k d : Int) (x : Lw) : (List Int × Int) × (Lw × Int) :=
  if Sized k d then ((if (ordW k.toNat d.toNat 0 (upto k.toNat) x).1.2 = 0 then (ordW k.toNat d.toNat 0 (upto k.toNat) x).1.1 else [], (ordW k.toNat d.toNat 0 (upto k.toNat) x).1.2), ((ordW k.toNat d.toNat 0 (upto k.toNat) x).2, ((ordW k.toNat d.toNat 0 (upto k.toNat) x).1.1.length : Int)))
  else (([], 3), (x, 0))
theorem ordO_len (k d : Int) (x : Lw) : (ordO k d x).1.1.length ≤ 65536 := by
  unfold ordO
  split
  · rename_i h
    unfold Sized at h
    have := ordW_len k.toNat d.toNat 0 (upto k.toNat) x
    dsimp only
    split
    · omega
    · simp
  · simp
def pickO (k d : Int) (x : Lw) : List Int × Int := (srt (ordO k d x).1.1, (ordO k d x).1.2)
structure OwG where
  i : Nat
  o : Value
  f : Int → Option Value
  l : List Int
  outs : List Int
  sv : Value
  x : Lw
attribute [local irreducible] Fit pt own ro vw mpc lpt vels rels mow lrc dfr
attribute [local irreducible] mps lmp lme mit
theorem OrderL_tr (b r : Nat) (sv : Value) (x : Lw) (used k d : Int) (hx : okL x) (hu : 0 ≤ used ∧ used ≤ 1152921504606846976) : Tr Tryz.prog 98 [ptr b, I k, I d] [] [lot b r sv x used]
    fun v D => ∃ o sv', v = tup2 o (I (ordO k d x).1.2) ∧ D = [own TLI o (Is (ordO k d x).1.1), lot b r sv' (ordO k d x).2.1 (used + (ordO k d x).2.2)] := by
  have hl0 : drw 0 x = ((0, 3), x) := drw_bad x (by omega)
  have hu0 : dru 0 x = 0 := by unfold dru; rw [hl0]; rfl
  have hD0 := DrawL_tr b r sv x used 0 hx (by omega)
  rw [hl0, hu0, Int.add_zero] at hD0
  clear hl0 hu0
  by_cases hsz : Sized k d
  rotate_left
  · rw [show ordO k d x = (([], 3), (x, 0)) from if_neg hsz, Int.add_zero]
    refine Tr.enter env _ Tryz.func98 (by kernel_rfl) rfl Tryz.ntmps98 rfl (by repeat (first | exact has00 | refine has01 ?_)) fun w0 => ?_
    refine TC.im (own_nil TLI _) ?_
    repeat' first|(refine gca ?_; first|(refine ca hD0 ?_; rintro _ _ ⟨rfl, sv1, rfl⟩)|(refine ca (sized_tr k d) ?_; rintro _ _ ⟨rfl, rfl⟩; rw [decide_eq_false hsz]))|(refine wo ?_; first|(refine ao ?_; first|refine oa ?_)|refine oa ?_)|(refine gc ?_; first|refine ct ?_|refine cf ?_)|refine sq ?_|refine rg ?_|refine xc ?_|refine nl ?_|refine sk ?_|refine rt ?_
    exact r2 ⟨nS, sv1, rfl, rfl⟩
  have hO : ordO k d x = _ := if_pos hsz
  rw [hO]
  clear hO
  obtain ⟨k1, k2, d1, d2⟩ := id hsz
  refine Tr.enter env _ Tryz.func98 (by kernel_rfl) rfl Tryz.ntmps98 rfl (by repeat (first | exact has00 | refine has01 ?_)) fun w0 => ?_
  refine TC.im (own_nil TLI _) ?_
  repeat' first|(refine gca ?_; first|(refine ca hD0 ?_; rintro _ _ ⟨rfl, sv1, rfl⟩)|(refine ca (sized_tr k d) ?_; rintro _ _ ⟨rfl, rfl⟩; rw [decide_eq_true hsz]))|refine mm fun p => ?_|(refine wo ?_; first|(refine ao ?_; first|refine oa ?_)|refine oa ?_)|(refine gc ?_; first|refine cf ?_)|refine sq ?_|refine rg ?_|refine xc ?_|refine nl ?_|refine sk ?_|refine bk ?_
  generalize hF : ordW k.toNat d.toNat 0 (upto k.toNat) x = Fn at *
  refine TC.loop (ι := OwG) (fun u => [(29, I u.i), (11, u.o)]) (fun u => [own TLI u.o (Is u.outs), mpc p u.f, lot b r u.sv u.x (used + u.i)]) (fun u => okL u.x ∧ u.i ≤ d.toNat ∧ u.outs.length = u.i ∧ (∃ g, PlcF u.f g ∧ RelG k.toNat u.l g) ∧ u.outs ++ (ordW k.toNat (d.toNat - u.i) u.i u.l u.x).1.1 = Fn.1.1 ∧ (ordW k.toNat (d.toNat - u.i) u.i u.l u.x).1.2 = Fn.1.2 ∧ (ordW k.toNat (d.toNat - u.i) u.i u.l u.x).2 = Fn.2)
    (fun u => d.toNat - u.i) ⟨0, nS, fun _ => none, upto k.toNat, [], sv1, x⟩ [0, 1, 2, 10, 28] ⟨hx, by simp, rfl, ⟨fun i => i, fun i => .inl ⟨rfl, rfl⟩, upto_length _, fun t ht => (upto_get _ _ ht).symm⟩, by simp [hF], by simp [hF], by simp [hF]⟩ ?_ (hf := by dsimp only; rw [show used + ((0 : Nat) : Int) = used by omega]; first | apply Fit.all | ((repeat (first | (apply Fit.nilN; (repeat (first | apply nrm_nil | apply nrm_cons)); try apply nrm_rfl) | (apply Fit.cons; focus ((repeat (first | apply Tk.here | apply Tk.there)); first | done | fail)))); first | done | fail))
  rintro ⟨i, o, f, l, outs, sv2, x2⟩ ⟨hx2, h1, h2, ⟨g, hg1, hg2⟩, h3, h4, h5⟩
  dsimp only at hx2 h1 h2 hg1 hg2 h3 h4 h5 ⊢
  by_cases hi : i < d.toNat
  · have hki : 1 ≤ k - (i : Int) ∧ k - (i : Int) ≤ 1099511627776 := by omega
    have hkn : (k.toNat : Int) - (i : Int) = k - i := by omega
    rw [show d.toNat - i = (d.toNat - (i + 1)) + 1 by omega] at h3 h4 h5
    unfold ordW at h3 h4 h5
    rw [hkn] at h3 h4 h5
    have hD := DrawL_tr b r sv2 x2 (used + i) (k - i) hx2 (by omega)
    by_cases he : (drw (k - (i : Int)) x2).1.2 = 0
    · rw [if_pos he] at h3 h4 h5
      dsimp only at h3 h4 h5
      obtain ⟨q3, q4⟩ := drw_rng he
      rw [show dru (k - i) x2 = 1 from if_pos he, he] at hD
      obtain ⟨s, hs⟩ : ∃ s : Nat, (drw (k - (i : Int)) x2).1.1 = s := ⟨(drw (k - (i : Int)) x2).1.1.toNat, by omega⟩
      have hok3 := okL_drw (k - i) hx2
      obtain ⟨x3, hx3⟩ : ∃ x3, x3 = (drw (k - (i : Int)) x2).2 := ⟨_, rfl⟩
      rw [hs] at h3 h4 h5 q3 q4 hD
      rw [← hx3] at h3 h4 h5 hD hok3
      rw [Int.toNat_natCast] at h3 h4 h5
      clear hs hx3 he
      obtain ⟨q1, q2⟩ := hg2.step (i := i) (j := i + s) (by omega) (by omega)
      have hl3 := congrArg List.length h3
      rw [List.length_append, List.length_cons] at hl3
      rw [show ((i + s : Nat) : Int) = (i : Int) + s by omega] at q1 q2
      repeat' first|(refine gca ?_; first|(refine ca hD ?_; rintro _ _ ⟨rfl, sv3, rfl⟩)|(refine ca (exchange_tr p f g i _ hg1) ?_; rintro _ _ ⟨f', rfl, hg'⟩)|(refine ca (at_tr p f' _ i hg') ?_; rintro _ _ ⟨rfl, rfl⟩))|(refine wo ?_; first|(refine ao ?_; first|refine aw ?_|refine oa ?_)|refine oa ?_)|(refine gc ?_; first|refine cf ?_|(refine ci (fun hB => ?_) (fun hB => ?_) <;> try (exfalso; omega)))|refine sq ?_|refine rg ?_|refine xc ?_|refine nl ?_|refine sk ?_|refine bk ?_
      rw [q2]
      refine slii [l.getD (i + s) 0] fun v1 => ?_
      refine api (v := o) (l := outs) (news := [l.getD (i + s) 0]) fun v2 => ?_
      repeat' first|(refine wo ?_; first|(refine ao ?_; first|refine aw ?_)|refine oa ?_)|refine rg ?_|refine xc ?_|refine nl ?_|refine xb ?_
      refine lp ⟨i + 1, v2, f', swp l i (i + s), outs ++ [l.getD (i + s) 0], sv3, x3⟩ ⟨hok3, by dsimp only; omega, by simp [h2], ⟨_, hg', q1⟩, by rw [List.append_assoc]; exact h3, h4, h5⟩ (hf := by dsimp only; rw [show used + ((i + 1 : Nat) : Int) = used + i + 1 by omega]; first | apply Fit.all | ((repeat (first | (apply Fit.nilN; (repeat (first | apply nrm_nil | apply nrm_cons)); try apply nrm_rfl) | (apply Fit.cons; focus ((repeat (first | apply Tk.here | apply Tk.there)); first | done | fail)))); first | done | fail))
    · rw [if_neg he] at h3 h4 h5
      dsimp only at h3 h4 h5
      rw [List.append_nil] at h3
      rw [show dru (k - i) x2 = 0 from if_neg he, Int.add_zero] at hD
      have hf0 : ¬ Fn.1.2 = 0 := by rw [← h4]; exact he
      rw [if_neg hf0]
      rw [← h4, ← h5, ← h3, h2]
      obtain ⟨dr, hdr⟩ : ∃ dr, dr = drw (k - (i : Int)) x2 := ⟨_, rfl⟩
      rw [← hdr] at hD he ⊢
      repeat' first|(refine gca ?_; first|(refine ca hD ?_; rintro _ _ ⟨rfl, sv3, rfl⟩))|(refine wo ?_; first|(refine ao ?_; first|refine aw ?_|refine oa ?_)|refine oa ?_)|(refine gc ?_; first|(refine ci (fun hB => ?_) (fun hB => ?_) <;> try (exfalso; omega))|(refine cn (fun hB => ?_) (fun hB => ?_) <;> try (exfalso; omega)))|refine sq ?_|refine rg ?_|refine xc ?_|refine nl ?_|refine sk ?_|refine bk ?_|refine rt ?_
      refine TX.im (own_nil TLI _) ?_
      exact r2 ⟨nS, sv3, rfl, rfl⟩
  · obtain rfl : i = d.toNat := by omega
    rw [Nat.sub_self] at h3 h4 h5
    unfold ordW at h3 h4 h5
    dsimp only at h3 h4 h5
    rw [List.append_nil] at h3
    rw [if_pos h4.symm]
    rw [← h4, ← h5, ← h3, h2]
    repeat' first|(refine wo ?_; first|(refine ao ?_; first|refine oa ?_)|refine oa ?_)|(refine gc ?_; first|(refine ci (fun hB => ?_) (fun hB => ?_) <;> try (exfalso; omega)))|refine sq ?_|refine rg ?_|refine xc ?_|refine nl ?_|refine xe ?_|refine rt ?_
    exact r2 ⟨o, sv2, rfl, rfl⟩
theorem PickL_tr (b r : Nat) (sv : Value) (x : Lw) (used k d : Int) (hx : okL x) (hu : 0 ≤ used ∧ used ≤ 1152921504606846976) : Tr Tryz.prog 65 [ptr b, I k, I d] [] [lot b r sv x used]
    fun v D => ∃ o sv', v = tup2 o (I (pickO k d x).2) ∧ D = [own TLI o (Is (pickO k d x).1), lot b r sv' (ordO k d x).2.1 (used + (ordO k d x).2.2)] := by
  have hlen := ordO_len k d x
  refine Tr.enter env _ Tryz.func65 (by kernel_rfl) rfl Tryz.ntmps65 rfl (by repeat (first | exact has00 | refine has01 ?_)) fun w0 => ?_
  repeat' first|(refine gca ?_; first|(refine ca (OrderL_tr b r sv x used k d hx hu) ?_; rintro _ _ ⟨o, sv1, rfl, rfl⟩; refine TO.one (v := o) (xs := Is (ordO k d x).1.1) fun ho => ?_)|(refine ca (Values_tr _ (by assumption)) ?_; rintro _ _ ⟨c, rfl, rfl⟩))|(refine wo ?_; first|refine oa ?_)|refine sq ?_|refine rg ?_|refine xc ?_|refine nl ?_
  refine ca (Sorted_tr (Values1_seq c o (ordO k d x).1.1) (by omega)) ?_
  rintro v _ ⟨zs, rfl, rfl⟩
  repeat' first|(refine wo ?_; first|refine oa ?_)|refine xc ?_|refine nl ?_|refine rt ?_
  exact r2 ⟨v, sv1, rfl, rfl⟩
end Go.Art
set_option linter.unusedSimpArgs false
set_option linter.unusedVariables false
namespace Go.Art
open Go Go.Proofs Go.RowKit
attribute [local irreducible] Fit pt own ro vw mpc lpt vels rels mow lrc dfr
attribute [local irreducible] lmp lme mit

def wOk (w : Int) : Bool := decide (0 ≤ w ∧ w ≤ 16777215)
def wPos (w : Int) : Bool := decide (0 < w)
def solE (t : List Int) (k : Int) : Int := if k < 1 ∨ 65536 < k ∨ t.length < 1 ∨ k < t.length then 13 else if t.all wOk && t.any wPos then 0 else 13
theorem solE_zero {t : List Int} {k : Int} (h : solE t k = 0) : (1 ≤ k ∧ k ≤ 65536) ∧ (1 ≤ t.length ∧ t.length ≤ k) ∧ (∀ w ∈ t, 0 ≤ w ∧ w ≤ 16777215) ∧ ∃ w ∈ t, 0 < w := by
  unfold solE at h
  split at h
  · cases h
  · split at h
    · rename_i h1 h2
      rw [Bool.and_eq_true, List.all_eq_true, List.any_eq_true] at h2
      refine ⟨by omega, by omega, fun w hw => by simpa [wOk] using h2.1 w hw, ?_⟩
      obtain ⟨w, hw, hp⟩ := h2.2
      exact ⟨w, hw, by simpa [wPos] using hp⟩
    · cases h
theorem solE_cases (t : List Int) (k : Int) : solE t k = 0 ∨ solE t k = 13 := by unfold solE; split; exact .inr rfl; split; exact .inl rfl; exact .inr rfl
theorem take_all {p : Int → Bool} {t : List Int} {i : Nat} (hi : i < t.length) : (t.take (i + 1)).all p = ((t.take i).all p && p (t.getD i 0)) := by rw [take_succ' hi 0, List.all_append]; simp
theorem take_any {p : Int → Bool} {t : List Int} {i : Nat} (hi : i < t.length) : (t.take (i + 1)).any p = ((t.take i).any p || p (t.getD i 0)) := by rw [take_succ' hi 0, List.any_append]; simp
theorem all_of_take {p : Int → Bool} {t : List Int} {i : Nat} (hi : i < t.length) (h : p (t.getD i 0) = false) : t.all p = false := by
  cases hc : t.all p with
  | false => rfl
  | true => rw [List.all_eq_true] at hc; rw [hc _ (mem_getD.2 ⟨i, hi, rfl⟩)] at h; cases h
theorem SoCheck_tr (s : Value) (t : List Int) (k : Int) : Tr Tryz.prog 49 [s, I k] [vw s (Is t)] [] fun v D => v = I (solE t k) ∧ D = [] := by
  refine Tr.enter env _ Tryz.func49 (by kernel_rfl) rfl Tryz.ntmps49 rfl (by repeat (first | exact has00 | refine has01 ?_)) fun w0 => ?_
  refine TC.leni (l := t) fun htl => ?_
  repeat' first|(refine wo ?_; first|(refine ao ?_; first|refine oa ?_)|refine oa ?_|refine lnm ?_|refine gy ?_|refine gn ?_|(refine gsi (fun hB => ?_) (fun hB => ?_) <;> try (exfalso; omega)))|(refine gc ?_; first|refine ct ?_|(refine ci (fun hB => ?_) (fun hB => ?_) <;> try (exfalso; omega)))|refine sq ?_|refine rg ?_|refine xc ?_|refine nl ?_|refine sk ?_|refine bk ?_|refine rt ?_
  · exact r1 ⟨by rw [solE, if_pos (by omega)], rfl⟩
  · exact r1 ⟨by rw [solE, if_pos (by omega)], rfl⟩
  · exact r1 ⟨by rw [solE, if_pos (by omega)], rfl⟩
  · exact r1 ⟨by rw [solE, if_pos (by omega)], rfl⟩
  rw [show solE t k = if t.all wOk && t.any wPos then 0 else 13 by rw [solE, if_neg (by omega)]]
  refine TC.loop (ι := Nat × Bool) (fun i => [(27, I i.1), (5, .bool i.2)]) (fun _ => []) (fun i => i.1 ≤ t.length ∧ (t.take i.1).all wOk = true ∧ i.2 = (t.take i.1).any wPos) (fun i => t.length - i.1) (0, false) [25, 26] ⟨by simp, rfl, rfl⟩ ?_
  rintro ⟨i, so⟩ ⟨h1, h2, h3⟩
  dsimp only at h1 h2 h3 ⊢
  by_cases hi : i < t.length
  · have ha := take_all (p := wOk) hi
    have hb := take_any (p := wPos) hi
    have hc := all_of_take (p := wOk) hi
    generalize hy : t.getD i 0 = y at *
    repeat' first|refine lie hy ?_|(refine wo ?_; first|(refine ao ?_; first|refine aw ?_|refine oa ?_)|refine oa ?_|refine ixmn ?_|refine gy ?_|refine gn ?_|(refine gsi (fun hB => ?_) (fun hB => ?_) <;> try (exfalso; omega))|(refine gs (fun hB => ?_) (fun hB => ?_) <;> try (exfalso; omega)))|(refine gc ?_; first|refine ct ?_|(refine ci (fun hB => ?_) (fun hB => ?_) <;> try (exfalso; omega)))|refine sq ?_|refine rg ?_|refine xc ?_|refine nl ?_|refine sk ?_|refine bk ?_|refine rt ?_|refine xb ?_
    · refine r1 ⟨?_, rfl⟩
      rw [hc (by simp [wOk]; omega)]; rfl
    · refine r1 ⟨?_, rfl⟩
      rw [hc (by simp [wOk]; omega)]; rfl
    · have hw : wOk y = true := by simp [wOk]; omega
      exact lp (i + 1, true) ⟨by dsimp only; omega, by dsimp only; rw [ha, h2, hw]; rfl, by dsimp only; rw [hb, ← h3, hB]; rfl⟩
    · have hw : wOk y = true := by simp [wOk]; omega
      exact lp (i + 1, decide (0 < y)) ⟨by dsimp only; omega, by dsimp only; rw [ha, h2, hw]; rfl, by dsimp only; rw [hb, ← h3, hB]; rfl⟩
  · obtain rfl : i = t.length := by omega
    rw [List.take_length] at h2 h3
    repeat' first|(refine wo ?_; first|(refine ao ?_; first|refine oa ?_)|refine oa ?_)|(refine gc ?_; first|(refine ci (fun hB => ?_) (fun hB => ?_) <;> try (exfalso; omega))|(refine cb (fun hB => ?_) (fun hB => ?_) <;> try (exfalso; omega)))|refine sq ?_|refine rg ?_|refine xc ?_|refine nl ?_|refine sk ?_|refine xe ?_|refine rt ?_
    · refine r1 ⟨?_, rfl⟩
      rw [h2, ← h3, show so = false by simpa using hB]; rfl
    · refine r1 ⟨?_, rfl⟩
      rw [h2, ← h3, show so = true by simpa using hB]; rfl
def total (t : List Int) : Int := t.sum
theorem take_sum {t : List Int} {i : Nat} (hi : i < t.length) : (t.take (i + 1)).sum = (t.take i).sum + t.getD i 0 := by rw [take_succ' hi 0, List.sum_append]; simp
theorem sum_bound {t : List Int} (h : ∀ w ∈ t, 0 ≤ w ∧ w ≤ 16777215) : 0 ≤ t.sum ∧ t.sum ≤ 16777215 * t.length := by
  induction t with
  | nil => simp
  | cons a r ih =>
    have h1 := h a (by simp)
    have h2 := ih fun w hw => h w (by simp [hw])
    simp only [List.sum_cons, List.length_cons]
    omega
end Go.Art
set_option linter.unusedSimpArgs false
set_option linter.unusedVariables false
namespace Go.Art
open Go Go.RowKit

section
variable {F : Fence} {m : Nat} {P : Program} {md : Region.Mode} {ops : Array Oper} {Q : Exit → Act → World → Prop} {S : World → Prop}
def YSg (P : Program) (ops : Array Oper) (S : World → Prop) (o : Oper) (v : Value) (a : Act) : Prop :=
  (Region.wanted o (yielded ops a.tmps) = true ∧ ∀ w, S w → (execOp a.eval o).run P w = .ok (.value v) w ∧ o.about P w a.eval = none) ∨ (Region.wanted o (yielded ops a.tmps) = false ∧ v = undef ∧ ∀ w, S w → o.about P w a.eval = none)
theorem wpAnyS_takeG {i d : Nat} {o : Op} {ty : TypeId} {pos : String} {after : Array Edge} {g : Option (Nat × Bool)} {v : Value} (hro : F.round = none) (hi : ops[i]? = some ⟨some d, o, ty, pos, after, g⟩) (hs : Region.noSelect ops = true) (hQ : ∀ c a w, ¬ Q (.panic c) a w) :
    ∀ (fuel : Nat) (listed : Array Bool) (a : Act) (w : World), Region.free md ops listed i = true → (Region.ready md ops listed).contains i = true → YSg P ops S ⟨some d, o, ty, pos, after, g⟩ v a → S w →
      wpAnyS F m P md ops Q S fuel (listed.setIfInBounds i true) (a.put (some d) v) w → wpAnyS F m P md ops Q S (fuel + 1) listed a w := by
  have hsel := fun j oj cs b (h : ops[j]? = some oj) => Region.noSelect_spec hs j oj cs b h
  have now : ∀ (K : Act → World → Prop) (a : Act) (w : World), YSg P ops S ⟨some d, o, ty, pos, after, g⟩ v a → S w → K (a.put (some d) v) w → wpOpIn F m P ops Q i K a w := fun K a w hy hS h => by
    unfold wpOpIn
    simp only [hi]
    rcases hy with ⟨hw, hy⟩ | ⟨hw, rfl, hy⟩
    · rw [if_pos hw]
      simp only [Oper.wpIn, hro, Oper.semAt_none, (hy w hS).1, Oper.uponIn]
      exact ⟨fun f hf => (by rw [(hy w hS).2] at hf; cases hf), h⟩
    · rw [if_neg (by rw [hw]; decide)]
      exact ⟨fun f hf => (by rw [hy w hS] at hf; cases hf), h⟩
  have gen : ∀ (fuel : Nat) (listed : Array Bool) (a : Act) (w : World), (∀ j oj, ops[j]? = some oj → j ≠ i → listed.getD j true = false → (∀ e ∈ oj.after, Region.binds md e = true → e.on ≠ i) → Oper.apart ops ⟨some d, o, ty, pos, after, g⟩ oj = true) →
      i ∈ Region.ready md ops listed → YSg P ops S ⟨some d, o, ty, pos, after, g⟩ v a → S w → wpAnyS F m P md ops Q S fuel (listed.setIfInBounds i true) (a.put (some d) v) w → wpAnyS F m P md ops Q S (fuel + 1) listed a w := by
    intro fuel
    induction fuel with
    | zero =>
      intro listed a w _ hr hy hS H
      refine ⟨fun h => (by rw [h] at hr; cases hr), fun j hj => ?_⟩
      by_cases hji : j = i
      · subst hji; exact now _ a w hy hS ⟨hS, H⟩
      · have := ready_mono hj hji
        rw [H.1] at this
        cases this
    | succ fuel ih =>
      intro listed a w hfree hr hy hS H
      refine ⟨fun h => (by rw [h] at hr; cases hr), fun j hj => ?_⟩
      by_cases hji : j = i
      · subst hji; exact now _ a w hy hS ⟨hS, H⟩
      · obtain ⟨hjun, oj, hoj, hall⟩ := mem_ready.1 hj
        have hnot : ∀ e ∈ oj.after, Region.binds md e = true → e.on ≠ i := fun e he hb heq => by
          have h1 := hall e he hb
          have h0 := (mem_ready.1 hr).1
          rw [heq] at h1
          rcases Nat.lt_or_ge i listed.size with h' | h'
          · simp [h'] at h0 h1; rw [h0] at h1; cases h1
          · simp [Array.getElem?_eq_none h'] at h1
        have hap := hfree j oj hoj hji hjun hnot
        obtain ⟨p1, p2, p3⟩ := Oper.apart_spec hap
        have hap2 : Oper.apart ops ⟨some d, .assign (.const v), ty, pos, after, none⟩ oj = true := by
          have q1 := p1 d rfl
          have q2 := p2 d rfl
          have q3 : Oper.looksAt ops ⟨some d, .assign (.const v), ty, pos, after, none⟩ = [] := rfl
          simp only [Oper.apart, q3]
          have r1 : (oj.looksAt ops).contains d = false := by simpa using q1
          have r2 : (oj.dst != some d) = true := by simpa using q2
          rw [r1, r2]
          cases oj.dst <;> rfl
        have hyf : YieldsFenced P ops ⟨some d, .assign (.const v), ty, pos, after, none⟩ v a := ⟨.inl ⟨rfl, fun w => rfl⟩, fun w => rfl⟩
        have h2 := wpOpIn_put hro hoj hap2 (fun cs b e => by cases e) (fun cs b => hsel j oj cs b hoj) (fun c a w h => absurd h (hQ c _ w)) hyf (H.2 j (ready_mono hj hji))
        have h3 := wpOpIn_own hro hoj h2
        refine wpOpIn_mono (fun a' w' h4 => ?_) h3
        obtain ⟨⟨u, df, rfl⟩, _, hS', h5⟩ := h4
        have hy' : YSg P ops S ⟨some d, o, ty, pos, after, g⟩ v (({ a with defers := df } : Act).put oj.dst u) := by
          have e1 := wanted_put ⟨some d, o, ty, pos, after, g⟩ ({ a with defers := df } : Act) oj.dst u p3
          rcases hy with ⟨hw, hy⟩ | ⟨hw, hv, hy⟩
          · refine .inl ⟨by rw [e1]; exact hw, fun w hw => ?_⟩
            rw [execOp_put _ (fun cs b => hsel i _ cs b hi) ({ a with defers := df } : Act) oj.dst u p3, about_put _ w ({ a with defers := df } : Act) oj.dst u p3]
            exact hy w hw
          · refine .inr ⟨by rw [e1]; exact hw, hv, fun w hw => ?_⟩
            rw [about_put _ w ({ a with defers := df } : Act) oj.dst u p3]
            exact hy w hw
        have hfree' : ∀ k ok, ops[k]? = some ok → k ≠ i → (listed.setIfInBounds j true).getD k true = false → (∀ e ∈ ok.after, Region.binds md e = true → e.on ≠ i) → Oper.apart ops ⟨some d, o, ty, pos, after, g⟩ ok = true := fun k ok hk hki hun hno => by
          refine hfree k ok hk hki ?_ hno
          by_cases hjk : j = k
          · subst hjk; exact hjun
          · rw [getD_set_ne true hjk] at hun; exact hun
        refine ⟨hS', ih (listed.setIfInBounds j true) _ w' hfree' (ready_mono hr (Ne.symm hji)) hy' hS' ?_⟩
        rw [Array.setIfInBounds_comm _ _ hji]
        exact h5
  intro fuel listed a w hf hr hy hS H
  exact gen fuel listed a w (Region.free_spec hi hf) (by simpa using hr) hy hS H
end

section
variable {P : Program} {E : Env P} {n : Sh} {X : Cx} {s : List K} {fr : Fr} {A : List Ch} {ops : Array Oper} {d j dj : Nat} {o : Op} {ty : TypeId} {pos : String} {after : Array Edge} {v : Value} {fuel : Nat} {listed : Array Bool} {S : World → Prop} {b b' : Bool}
theorem tkg (i : Nat) (hv : ∀ w, S w → OpV P n fr o ty w v w) (k : TS E n X s S ops fuel (listed.setIfInBounds i true) ((d, v) :: fr) A) (hi : ops[i]? = some ⟨some d, o, ty, pos, after, some (j, b)⟩ := by rfl) (hj : (ops[j]?).bind (·.dst) = some dj := by rfl) (hg : get fr dj = some (.bool b) := by rfl) (hlt : Nat.blt dj n.n = true := by rfl)
    (hs : Region.noSelect ops = true := by kernel_rfl) (hf : Region.free .any ops listed i = true := by kernel_rfl) (hr : (Region.ready .any ops listed).contains i = true := by kernel_rfl) (hrd : n.r = none := by rfl) (hd : Nat.blt d n.n = true := by rfl)
    (hab : ∀ w ρ, (⟨some d, o, ty, pos, after, some (j, b)⟩ : Oper).about P w ρ = none := by exact fun _ _ => rfl) : TS E n X s S ops (fuel + 1) listed fr A :=
  ⟨fun w hw hS a ha => wpAnyS_takeG (by simp [FF, hrd]) hi hs (fun c a w h => h.1 c rfl) fuel listed a w hf hr (.inl ⟨by simp only [Region.wanted, yielded_of ha hj hg hlt, beq_self_eq_true], fun w' hw' => ⟨(hv w' hw').run a ha _ _ _ _, hab _ _⟩⟩) hS (k.run w hw hS _ (ha.put hd v))⟩
theorem tkn (i : Nat) (k : TS E n X s S ops fuel (listed.setIfInBounds i true) ((d, undef) :: fr) A) (hi : ops[i]? = some ⟨some d, o, ty, pos, after, some (j, b')⟩ := by rfl) (hj : (ops[j]?).bind (·.dst) = some dj := by rfl) (hg : get fr dj = some (.bool b) := by rfl) (hb : b = !b' := by rfl) (hlt : Nat.blt dj n.n = true := by rfl)
    (hs : Region.noSelect ops = true := by kernel_rfl) (hf : Region.free .any ops listed i = true := by kernel_rfl) (hr : (Region.ready .any ops listed).contains i = true := by kernel_rfl) (hrd : n.r = none := by rfl) (hd : Nat.blt d n.n = true := by rfl)
    (hab : ∀ w ρ, (⟨some d, o, ty, pos, after, some (j, b')⟩ : Oper).about P w ρ = none := by exact fun _ _ => rfl) : TS E n X s S ops (fuel + 1) listed fr A :=
  ⟨fun w hw hS a ha => wpAnyS_takeG (by simp [FF, hrd]) hi hs (fun c a w h => h.1 c rfl) fuel listed a w hf hr (.inr ⟨by subst hb; simp only [Region.wanted, yielded_of ha hj hg hlt]; cases b' <;> rfl, rfl, fun w' _ => hab _ _⟩) hS (k.run w hw hS _ (ha.put hd undef))⟩
theorem tkga (i : Nat) (k : TS E n X s S ops fuel (listed.setIfInBounds i true) ((d, v) :: fr) A) (hi : ops[i]? = some ⟨some d, o, ty, pos, after, some (j, b)⟩ := by rfl) (hv : evOp E fr o = some v := by rfl) (hj : (ops[j]?).bind (·.dst) = some dj := by rfl) (hg : get fr dj = some (.bool b) := by rfl) (hlt : Nat.blt dj n.n = true := by rfl)
    (hs : Region.noSelect ops = true := by kernel_rfl) (hf : Region.free .any ops listed i = true := by kernel_rfl) (hr : (Region.ready .any ops listed).contains i = true := by kernel_rfl) (hrd : n.r = none := by rfl) (hd : Nat.blt d n.n = true := by rfl)
    (hab : ∀ w ρ, (⟨some d, o, ty, pos, after, some (j, b)⟩ : Oper).about P w ρ = none := by exact fun _ _ => rfl) : TS E n X s S ops (fuel + 1) listed fr A := tkg i (fun _ _ => R_auto hv) k hi hj hg hlt hs hf hr hrd hd hab
theorem Holds.dup {a : Act} (ha : Holds n a fr) {t : Nat} {v : Value} (hg : get fr t = some v) : Holds n a ((t, v) :: fr) := ⟨ha.size, ha.defers, fun u x hx => by
  simp only [get] at hx
  by_cases htu : t = u
  · subst htu; simp at hx; subst hx; exact ha.slot _ _ hg
  · have : (Nat.beq t u) = false := nbeq_f htu
    simp only [this, cond_false] at hx
    exact ha.slot _ _ hx⟩
theorem TS.split {t : Nat} (h1 : b = true → TS E n X s S ops fuel listed ((t, .bool true) :: fr) A) (h2 : b = false → TS E n X s S ops fuel listed ((t, .bool false) :: fr) A) (hg : get fr t = some (.bool b)) : TS E n X s S ops fuel listed fr A := by
  cases b with
  | true => exact ⟨fun w hw hS a ha => (h1 rfl).run w hw hS a (ha.dup hg)⟩
  | false => exact ⟨fun w hw hS a ha => (h2 rfl).run w hw hS a (ha.dup hg)⟩
end
end Go.Art
set_option linter.unusedSimpArgs false
set_option linter.unusedVariables false
namespace Go.Art
open Go Go.Proofs Go.RowKit
attribute [local irreducible] Fit pt own ro vw mpc lpt vels rels mow lrc dfr
attribute [local irreducible] lmp lme mit velg relg

theorem IIndexFunc_tr (s : Value) (l : List Int) (f : FuncId) (cap : List Value) (pre : List Ch) (p : Int → Bool)
    (hp : ∀ c ∈ pre, ∀ A : List Ch, c ∈ A → Has A c) (hf : ∀ x, x ∈ l → Tr Tryz.prog f (I x :: cap) pre [] fun v D => v = .bool (p x) ∧ D = []) :
    Tr Tryz.prog 139 [s, .func (.func f) #[] cap.toArray] (vw s (Is l) :: pre) [] fun v D => (∃ i : Int, v = I i ∧ (0 ≤ i ↔ l.any p = true)) ∧ D = [] := by
  refine Tr.enter env _ Tryz.func139 (by kernel_rfl) rfl Tryz.ntmps139 rfl (has01 fun c hc b => ⟨(hp c hc [c] (by simp)).wr b, (hp c hc [c] (by simp)).rd b⟩) fun w0 => ?_
  refine TC.leni (l := l) fun hlen => ?_
  repeat' first|(refine wo ?_; first|refine oa ?_|refine lnm ?_)|refine sq ?_|refine rg ?_|refine xc ?_|refine nl ?_|refine bk ?_
  refine TC.loop (ι := Nat) (fun i => [(8, I i)]) (fun _ => []) (fun i => i ≤ l.length ∧ ∀ j, j < i → p (l.getD j 0) = false) (fun i => l.length - i) 0 [0, 1, 6, 7] ⟨by omega, by omega⟩ ?_
  rintro i ⟨h1, h2⟩
  by_cases hi : i < l.length
  · have hmem : l.getD i 0 ∈ l := mem_getD.2 ⟨i, hi, rfl⟩
    generalize hy : l.getD i 0 = y at *
    repeat' first|refine lie hy ?_|(refine cav (vs := [I y]) (cap := cap.toArray) (hf _ hmem) ?_ rfl rfl Fit.nil (fun c hc => hp c hc _ (by simp [hc])) rfl; rintro _ _ ⟨rfl, rfl⟩)|(refine wo ?_; first|(refine ao ?_; first|refine aw ?_|refine oa ?_)|refine oa ?_|refine ixmn ?_)|(refine gc ?_; first|(refine ci (fun hB => ?_) (fun hB => ?_) <;> try (exfalso; omega))|(refine cb (fun hB => ?_) (fun hB => ?_) <;> try (exfalso; omega)))|refine sq ?_|refine rg ?_|refine xc ?_|refine nl ?_|refine sk ?_|refine bk ?_|refine rt ?_|refine xb ?_
    · exact r1 ⟨⟨i, rfl, fun _ => List.any_eq_true.2 ⟨_, hmem, hB⟩, fun _ => by omega⟩, rfl⟩
    · refine lp (i + 1) ⟨by omega, fun j hj => ?_⟩
      by_cases e : j = i
      · rw [e, hy]; exact hB
      · exact h2 j (by omega)
  · repeat' first|(refine wo ?_; first|(refine ao ?_; first|refine oa ?_)|refine oa ?_)|(refine gc ?_; first|(refine ci (fun hB => ?_) (fun hB => ?_) <;> try (exfalso; omega)))|refine sq ?_|refine rg ?_|refine xc ?_|refine nl ?_|refine xe ?_|refine rt ?_
    refine r1 ⟨⟨-1, rfl, by omega, fun h => ?_⟩, rfl⟩
    obtain ⟨x, hl1, hl2⟩ := List.any_eq_true.1 h
    obtain ⟨j, hj, rfl⟩ := mem_getD.1 hl1
    have := h2 j (by omega)
    rw [hl2] at this; cases this
theorem IContainsFunc_tr (s : Value) (l : List Int) (f : FuncId) (cap : List Value) (pre : List Ch) (p : Int → Bool)
    (hp : ∀ c ∈ pre, ∀ A : List Ch, c ∈ A → Has A c) (hf : ∀ x, x ∈ l → Tr Tryz.prog f (I x :: cap) pre [] fun v D => v = .bool (p x) ∧ D = []) :
    Tr Tryz.prog 107 [s, .func (.func f) #[] cap.toArray] (vw s (Is l) :: pre) [] fun v D => v = .bool (l.any p) ∧ D = [] := by
  refine Tr.enter env _ Tryz.func107 (by kernel_rfl) rfl Tryz.ntmps107 rfl (has01 fun c hc b => ⟨(hp c hc [c] (by simp)).wr b, (hp c hc [c] (by simp)).rd b⟩) fun w0 => ?_
  repeat' first|(refine gca ?_; first|(refine ca (vs := [s, .func (.func f) #[] cap.toArray]) (IIndexFunc_tr s l f cap pre p hp hf) ?_ rfl Fit.nil (has1 (has_vw (by simp)) (fun c hc => hp c hc _ (by simp [hc]))) rfl; rintro _ _ ⟨⟨i, rfl, hi⟩, rfl⟩))|(refine wo ?_; first|(refine ao ?_; first|refine oa ?_)|refine oa ?_)|refine sq ?_|refine rg ?_|refine xc ?_|refine nl ?_|refine rt ?_
  refine r1 ⟨?_, rfl⟩
  congr 1; rw [Bool.eq_iff_iff, decide_eq_true_iff]; exact hi
abbrev TAl : TypeId := 24
def farB (m x : Int) : Bool := decide (x < 0 ∨ m < x)
def alE (tot : Int) (cut oth : List Int) : Int := if tot < 1 ∨ 1099511627776 < tot ∨ cut.length < 1 ∨ 65536 < cut.length ∨ oth.length ≠ cut.length then 6 else if cut.any (farB tot) || oth.any (farB (cut.length - 1)) then 6 else 0
theorem far1_tr (m x : Int) (b : Nat) : Tr Tryz.prog 106 [I x, ptr b] [lpt b [I m] 3] [] fun v D => v = .bool (farB m x) ∧ D = [] := by
  refine Tr.enter env _ Tryz.func106 (by kernel_rfl) rfl Tryz.ntmps106 rfl (by repeat (first | exact has00 | refine has01 ?_)) fun w0 => ?_
  repeat' first|(refine wo ?_; first|(refine ao ?_; first|refine oa ?_)|refine oa ?_|refine ldl ?_|refine gy ?_|refine gn ?_|(refine gsi (fun hB => ?_) (fun hB => ?_) <;> try (exfalso; omega)))|refine sq ?_|refine rg ?_|refine xc ?_|refine nl ?_|refine rt ?_
  all_goals refine r1 ⟨?_, rfl⟩
  all_goals unfold farB
  all_goals first
    | rw [decide_eq_true (show x < 0 ∨ m < x by omega)]
    | (congr 1; exact decide_eq_decide.2 ⟨fun h => by omega, fun h => by omega⟩)
theorem far_tr (m : Int) : Tr Tryz.prog 105 [I m] [] [] fun v D => ∃ b, v = .func (.func 106) #[] #[ptr b] ∧ D = [pt b [I m] 3] := by
  refine Tr.enter env _ Tryz.func105 (by kernel_rfl) rfl Tryz.ntmps105 rfl (by repeat (first | exact has00 | refine has01 ?_)) fun w0 => ?_
  repeat' first|refine bx1 fun b => ?_|(refine wo ?_; first|refine oa ?_)|refine sq ?_|refine rg ?_|refine xc ?_|refine nl ?_|refine rt ?_
  exact r1 ⟨b, rfl, rfl⟩
theorem AlCheck_tr (tot : Int) (cv ov : Value) (cut oth : List Int) (hc : cv.oneCell' = true) (ho : ov.oneCell' = true) : Tr Tryz.prog 72 [.agg #[I tot, cv, ov]] [vw cv (Is cut), vw ov (Is oth)] [] fun v D => v = I (alE tot cut oth) ∧ D = [] := by
  refine Tr.enter env _ Tryz.func72 (by kernel_rfl) rfl Tryz.ntmps72 rfl (by repeat (first | exact has00 | refine has01 ?_)) fun w0 => ?_
  refine TC.leni (l := cut) fun hl1 => ?_
  refine TC.leni (l := oth) fun hl2 => ?_
  repeat' first|refine bx fun b => ?_|(refine wo ?_; first|(refine ao ?_; first|refine oa ?_)|refine oa ?_|refine ld ?_|refine lnm ?_|refine gy ?_|refine gn ?_|(refine gsi (fun hB => ?_) (fun hB => ?_) <;> try (exfalso; omega)))|(refine gc ?_; first|refine ct ?_|(refine cn (fun hB => ?_) (fun hB => ?_) <;> try (exfalso; omega)))|refine sq ?_|refine rg ?_|refine xc ?_|refine nl ?_|refine sk ?_|refine rt ?_
  · exact r1 ⟨by rw [alE, if_pos (by omega)], rfl⟩
  · exact r1 ⟨by rw [alE, if_pos (by omega)], rfl⟩
  · exact r1 ⟨by rw [alE, if_pos (by omega)], rfl⟩
  · exact r1 ⟨by rw [alE, if_pos (by omega)], rfl⟩
  · exact r1 ⟨by rw [alE, if_pos (by omega)], rfl⟩
  rw [show alE tot cut oth = if cut.any (farB tot) || oth.any (farB (cut.length - 1)) then 6 else 0 by rw [alE, if_neg (by omega)]]
  have hcl : cut.length ≤ 65536 := by omega
  refine rs (fun w => w.heap[b]? = some (.cells #[I tot, cv, ov] TAl (0, 0))) ?_ (fun w hw => pt_at (by (repeat (first | apply List.Mem.head | apply List.Mem.tail)); first | done | fail) hw)
  refine tka 0 ?_
  refine tkl 1 (cs := [I tot, cv, ov]) (fun w h => h) ?_
  refine tka 2 ?_
  refine tka 3 ?_
  refine tkl 4 (cs := [I tot, cv, ov]) (fun w h => h) ?_
  refine t1 5 ?_
  refine cav (vs := [I tot]) (cap := #[]) (far_tr tot) ?_
  rintro _ _ ⟨b1, rfl, rfl⟩
  repeat' first|refine nl ?_
  refine te (fun w hw => pt_at (by (repeat (first | apply List.Mem.head | apply List.Mem.tail)); first | done | fail) hw) ?_
  refine t1 6 ?_
  refine ca (IContainsFunc_tr cv cut _ [ptr b1] [lpt b1 [I tot] 3] (farB tot) lpt_has (fun x _ => far1_tr tot x b1)) ?_
  rintro _ _ ⟨rfl, rfl⟩
  repeat' first|refine nl ?_
  refine te (fun w hw => pt_at (by (repeat (first | apply List.Mem.head | apply List.Mem.tail)); first | done | fail) hw) ?_
  refine tka 7 ?_
  refine TS.split (t := 38) (fun h1 => ?_) (fun h1 => ?_) rfl
  · rw [h1]
    refine tkn 8 ?_
    refine tkn 9 ?_
    refine tkn 10 ?_
    refine tkn 11 ?_
    refine tkn 12 ?_
    refine t1 13 ?_
    repeat' first|(refine wo ?_; first|refine gn ?_)|refine nl ?_
    refine te (fun w hw => pt_at (by (repeat (first | apply List.Mem.head | apply List.Mem.tail)); first | done | fail) hw) ?_
    refine t1 14 ?_
    repeat' first|(refine wo ?_; first|refine gn ?_)|refine nl ?_
    refine te (fun w hw => pt_at (by (repeat (first | apply List.Mem.head | apply List.Mem.tail)); first | done | fail) hw) ?_
    refine tka 15 ?_
    refine t0 ?_
    repeat' first|(refine wo ?_; first|refine oa ?_)|(refine gc ?_; first|refine ct ?_)|refine sq ?_|refine rg ?_|refine xc ?_|refine nl ?_|refine rt ?_
    exact r1 ⟨rfl, rfl⟩
  · rw [h1]
    refine tkga 8 ?_
    refine tkg 9 (v := ov) (fun w h => R_load (E := env) rfl rfl rfl (blk_cell h rfl)) ?_
    refine tkga 10 ?_
    refine tkga 11 ?_
    refine tkg 12 (v := I ((cut.length : Int) - 1)) (fun w h => R_wrap (R_auto (E := env) rfl) (by omega)) ?_
    refine t1 13 ?_
    refine gy ?_
    refine cav (vs := [I ((cut.length : Int) - 1)]) (cap := #[]) (far_tr _) ?_
    rintro _ _ ⟨b2, rfl, rfl⟩
    repeat' first|refine nl ?_
    refine te (fun w hw => pt_at (by (repeat (first | apply List.Mem.head | apply List.Mem.tail)); first | done | fail) hw) ?_
    refine t1 14 ?_
    refine gy ?_
    refine ca (IContainsFunc_tr ov oth _ [ptr b2] [lpt b2 [I ((cut.length : Int) - 1)] 3] (farB (cut.length - 1)) lpt_has (fun x _ => far1_tr _ x b2)) ?_
    rintro _ _ ⟨rfl, rfl⟩
    repeat' first|refine nl ?_
    refine te (fun w hw => pt_at (by (repeat (first | apply List.Mem.head | apply List.Mem.tail)); first | done | fail) hw) ?_
    refine tka 15 ?_
    refine t0 ?_
    repeat' first|(refine wo ?_; first|refine oa ?_)|(refine gc ?_; first|(refine cb (fun hB => ?_) (fun hB => ?_) <;> try (exfalso; omega)))|refine sq ?_|refine rg ?_|refine xc ?_|refine nl ?_|refine sk ?_|refine rt ?_
    · exact r1 ⟨by rw [hB]; first | done | rfl, rfl⟩
    · exact r1 ⟨by rw [hB]; first | done | rfl, rfl⟩
def alPick (tot : Int) (cut oth : List Int) (c l : Int) : Int := if l < cut.getD c.toNat 0 then c else oth.getD c.toNat 0
theorem AlPick_tr (tot c l : Int) (cv ov : Value) (cut oth : List Int) (hc : cv.oneCell' = true) (ho : ov.oneCell' = true) (hE : alE tot cut oth = 0) (h1 : 0 ≤ c ∧ c < cut.length) (h2 : 0 ≤ l ∧ l < tot) :
    Tr Tryz.prog 97 [.agg #[I tot, cv, ov], I c, I l] [vw cv (Is cut), vw ov (Is oth)] [] fun v D => v = tup2 (I (alPick tot cut oth c l)) (I 0) ∧ D = [] := by
  have hol : oth.length = cut.length := by
    unfold alE at hE
    split at hE
    · cases hE
    · omega
  refine Tr.enter env _ Tryz.func97 (by kernel_rfl) rfl Tryz.ntmps97 rfl (by repeat (first | exact has00 | refine has01 ?_)) fun w0 => ?_
  repeat' first|(refine gca ?_; first|(refine ca (AlCheck_tr tot cv ov cut oth hc ho) ?_; rintro _ _ ⟨rfl, rfl⟩; rw [hE]))|refine bx fun b => ?_|refine lda ?_|(refine wo ?_; first|(refine ao ?_; first|refine oa ?_)|refine oa ?_|refine ld ?_|refine lnm ?_|refine ixm ?_|refine li ?_|refine gy ?_|(refine gsi (fun hB => ?_) (fun hB => ?_) <;> try (exfalso; omega)))|(refine gc ?_; first|refine cf ?_|(refine ci (fun hB => ?_) (fun hB => ?_) <;> try (exfalso; omega)))|refine sq ?_|refine rg ?_|refine xc ?_|refine nl ?_|refine sk ?_|refine bk ?_|refine rt ?_|refine xb ?_
  · refine r2 ⟨?_, rfl⟩
    unfold alPick; rw [if_pos hB]
  · refine r2 ⟨?_, rfl⟩
    unfold alPick; rw [if_neg hB]
end Go.Art
set_option linter.unusedSimpArgs false
set_option linter.unusedVariables false
namespace Go.Art
open Go Go.Proofs Go.RowKit
def rwE (tot : Int) (cut oth : List Int) (k : Int) : Int := if alE tot cut oth = 0 then (if k < 1 ∨ 65536 < k ∨ k < cut.length then 3 else 0) else 6
theorem alE_or (tot : Int) (cut oth : List Int) : alE tot cut oth = 0 ∨ alE tot cut oth = 6 := by
  unfold alE
  split
  · exact .inr rfl
  · split
    · exact .inr rfl
    · exact .inl rfl
theorem alE_bnd {tot : Int} {cut oth : List Int} (hE : alE tot cut oth = 0) : (1 ≤ tot ∧ tot ≤ 1099511627776) ∧ 1 ≤ cut.length ∧ cut.length ≤ 65536 := by
  unfold alE at hE
  split at hE
  · cases hE
  · omega
theorem rwE_ok {tot : Int} {cut oth : List Int} {k : Int} (h : rwE tot cut oth k = 0) : alE tot cut oth = 0 ∧ 1 ≤ k ∧ k ≤ 65536 ∧ cut.length ≤ k := by
  unfold rwE at h
  split at h
  · rename_i h1
    split at h
    · cases h
    · exact ⟨h1, by omega, by omega, by omega⟩
  · cases h
theorem alPick_in {tot : Int} {cut oth : List Int} (hE : alE tot cut oth = 0) {c l : Int} (h1 : 0 ≤ c ∧ c < cut.length) : 0 ≤ alPick tot cut oth c l ∧ alPick tot cut oth c l < cut.length := by
  unfold alE at hE
  split at hE
  · cases hE
  · split at hE
    · cases hE
    · rename_i h3 h2
      unfold alPick
      split
      · omega
      · have hm : oth.getD c.toNat 0 ∈ oth := mem_getD.2 ⟨_, by omega, rfl⟩
        refine Classical.byContradiction fun hn => h2 ?_
        rw [Bool.or_eq_true]
        refine .inr (List.any_eq_true.2 ⟨_, hm, decide_eq_true ?_⟩)
        omega
def plcW (tot : Int) (cut oth : List Int) (x : Lw) : (Int × Int) × (Lw × Int) :=
  if (drw cut.length x).1.2 = 0 then
    (if (drw tot (drw cut.length x).2).1.2 = 0 then ((alPick tot cut oth (drw cut.length x).1.1 (drw tot (drw cut.length x).2).1.1, 0), ((drw tot (drw cut.length x).2).2, 2))
      else ((0, (drw tot (drw cut.length x).2).1.2), ((drw tot (drw cut.length x).2).2, 1)))
  else ((0, (drw cut.length x).1.2), ((drw cut.length x).2, 0))
theorem plcW_in {tot : Int} {cut oth : List Int} {x : Lw} (hE : alE tot cut oth = 0) (h : (plcW tot cut oth x).1.2 = 0) : 0 ≤ (plcW tot cut oth x).1.1 ∧ (plcW tot cut oth x).1.1 < cut.length := by
  unfold plcW at h ⊢
  split
  · rename_i h1
    rw [if_pos h1] at h
    split
    · exact alPick_in hE (drw_rng h1)
    · rename_i h2; rw [if_neg h2] at h; exact absurd h h2
  · rename_i h1; rw [if_neg h1] at h; exact absurd h h1
theorem plcW_u (tot : Int) (cut oth : List Int) (x : Lw) : 0 ≤ (plcW tot cut oth x).2.2 ∧ (plcW tot cut oth x).2.2 ≤ 2 := by
  unfold plcW
  split
  · split
    · dsimp only; omega
    · dsimp only; omega
  · dsimp only; omega
theorem okL_plc (tot : Int) (cut oth : List Int) {x : Lw} (h : okL x) : okL (plcW tot cut oth x).2.1 := by
  unfold plcW
  split
  · split
    · exact okL_drw _ (okL_drw _ h)
    · exact okL_drw _ (okL_drw _ h)
  · exact okL_drw _ h
def setW (tot : Int) (cut oth : List Int) (k : Int) (x : Lw) : (List Int × Int) × (Lw × Int) :=
  if rwE tot cut oth k = 0 then
    (if (plcW tot cut oth x).1.2 = 0 then (pickO k ((plcW tot cut oth x).1.1 + 1) (plcW tot cut oth x).2.1, ((ordO k ((plcW tot cut oth x).1.1 + 1) (plcW tot cut oth x).2.1).2.1, (plcW tot cut oth x).2.2 + (ordO k ((plcW tot cut oth x).1.1 + 1) (plcW tot cut oth x).2.1).2.2))
      else (([], (plcW tot cut oth x).1.2), (plcW tot cut oth x).2))
  else (([], rwE tot cut oth k), (x, 0))
attribute [local irreducible] Fit pt own ro vw mpc lpt vels rels mow lrc dfr
attribute [local irreducible] lmp lme mit velg relg
theorem RwE_tr (tot k : Int) (cv ov : Value) (cut oth : List Int) (hc : cv.oneCell' = true) (ho : ov.oneCell' = true) : Tr Tryz.prog 29 [.agg #[I tot, cv, ov], I k] [vw cv (Is cut), vw ov (Is oth)] []
    fun v D => v = I (rwE tot cut oth k) ∧ D = [] := by
  have hA := AlCheck_tr tot cv ov cut oth hc ho
  unfold rwE
  rcases alE_or tot cut oth with hE | hE
  · rw [hE] at hA
    rw [if_pos hE]
    refine Tr.enter env _ Tryz.func29 (by kernel_rfl) rfl Tryz.ntmps29 rfl (by repeat (first | exact has00 | refine has01 ?_)) fun w0 => ?_
    repeat' first|(refine gca ?_; first|(refine ca hA ?_; rintro _ _ ⟨rfl, rfl⟩))|refine bx fun b => ?_|refine lda ?_|(refine wo ?_; first|(refine ao ?_; first|refine oa ?_)|refine oa ?_|refine ld ?_|refine lnm ?_|refine gy ?_|refine gn ?_|(refine gsi (fun hB => ?_) (fun hB => ?_) <;> try (exfalso; omega)))|(refine gc ?_; first|refine ct ?_|refine cf ?_|(refine ci (fun hB => ?_) (fun hB => ?_) <;> try (exfalso; omega)))|refine sq ?_|refine rg ?_|refine xc ?_|refine nl ?_|refine sk ?_|refine bk ?_|refine rt ?_|refine xb ?_
    · exact r1 ⟨by rw [if_pos (by omega)], rfl⟩
    · exact r1 ⟨by rw [if_pos (by omega)], rfl⟩
    · exact r1 ⟨by rw [if_pos (by omega)], rfl⟩
    · exact r1 ⟨by rw [if_neg (by omega)], rfl⟩
  · rw [hE] at hA
    rw [if_neg (by omega)]
    refine Tr.enter env _ Tryz.func29 (by kernel_rfl) rfl Tryz.ntmps29 rfl (by repeat (first | exact has00 | refine has01 ?_)) fun w0 => ?_
    repeat' first|(refine gca ?_; first|(refine ca hA ?_; rintro _ _ ⟨rfl, rfl⟩))|refine bx fun b => ?_|refine lda ?_|(refine wo ?_; first|(refine ao ?_; first|refine oa ?_)|refine oa ?_)|(refine gc ?_; first|refine ct ?_)|refine sq ?_|refine rg ?_|refine xc ?_|refine nl ?_|refine bk ?_|refine rt ?_
    exact r1 ⟨rfl, rfl⟩
theorem placeW_tr (tot : Int) (cv ov : Value) (cut oth : List Int) (b r : Nat) (sv : Value) (x : Lw) (used : Int) (hx : okL x) (hu : 0 ≤ used ∧ used ≤ 1000) (hc : cv.oneCell' = true) (ho : ov.oneCell' = true) (hE : alE tot cut oth = 0) :
    Tr Tryz.prog 64 [.agg #[I tot, cv, ov], ptr b] [vw cv (Is cut), vw ov (Is oth)] [lot b r sv x used] fun v D => v = tup2 (I (plcW tot cut oth x).1.1) (I (plcW tot cut oth x).1.2) ∧ ∃ sv', D = [lot b r sv' (plcW tot cut oth x).2.1 (used + (plcW tot cut oth x).2.2)] := by
  have hb := alE_bnd hE
  have h1 := DrawL_tr b r sv x used cut.length hx (by omega)
  unfold plcW
  by_cases he1 : (drw cut.length x).1.2 = 0
  · rw [if_pos he1]
    rw [show dru cut.length x = 1 from if_pos he1, he1] at h1
    have l1 := drw_rng he1
    have hx1 := okL_drw cut.length hx
    clear he1
    generalize (drw cut.length x).1.1 = c at *
    generalize (drw cut.length x).2 = x1 at *
    have h2 := fun sv1 => DrawL_tr b r sv1 x1 (used + 1) tot hx1 (by omega)
    by_cases he2 : (drw tot x1).1.2 = 0
    · rw [if_pos he2]
      rw [show dru tot x1 = 1 from if_pos he2, he2] at h2
      have l2 := drw_rng he2
      clear he2
      generalize (drw tot x1).1.1 = l at *
      generalize (drw tot x1).2 = x2 at *
      rw [show used + 1 + 1 = used + 2 by omega] at h2
      refine Tr.enter env _ Tryz.func64 (by kernel_rfl) rfl Tryz.ntmps64 rfl (by repeat (first | exact has00 | refine has01 ?_)) fun w0 => ?_
      repeat' first|(refine gca ?_; first|(refine ca h1 ?_; rintro _ _ ⟨rfl, sv1, rfl⟩)|(refine ca (h2 sv1) ?_; rintro _ _ ⟨rfl, sv2, rfl⟩)|(refine ca (AlPick_tr tot c l cv ov cut oth hc ho hE (by omega) (by omega)) ?_; rintro _ _ ⟨rfl, rfl⟩))|refine bx fun b => ?_|refine lda ?_|(refine wo ?_; first|(refine ao ?_; first|refine oa ?_)|refine oa ?_|refine ld ?_|refine lnm ?_)|(refine gc ?_; first|refine cf ?_)|refine sq ?_|refine rg ?_|refine xc ?_|refine nl ?_|refine sk ?_|refine rt ?_
      exact r2 ⟨rfl, sv2, rfl⟩
    · rw [if_neg he2]
      rw [show dru tot x1 = 0 from if_neg he2, Int.add_zero] at h2
      generalize (drw tot x1).1.1 = n2 at *
      generalize (drw tot x1).1.2 = e2 at *
      generalize (drw tot x1).2 = x2 at *
      refine Tr.enter env _ Tryz.func64 (by kernel_rfl) rfl Tryz.ntmps64 rfl (by repeat (first | exact has00 | refine has01 ?_)) fun w0 => ?_
      repeat' first|(refine gca ?_; first|(refine ca h1 ?_; rintro _ _ ⟨rfl, sv1, rfl⟩)|(refine ca (h2 sv1) ?_; rintro _ _ ⟨rfl, sv2, rfl⟩))|refine bx fun b => ?_|refine lda ?_|(refine wo ?_; first|(refine ao ?_; first|refine oa ?_)|refine oa ?_|refine ld ?_|refine lnm ?_)|(refine gc ?_; first|refine cf ?_|(refine cn (fun hB => ?_) (fun hB => ?_) <;> try (exfalso; omega)))|refine sq ?_|refine rg ?_|refine xc ?_|refine nl ?_|refine sk ?_|refine rt ?_
      exact r2 ⟨rfl, sv2, rfl⟩
  · rw [if_neg he1]
    rw [show dru cut.length x = 0 from if_neg he1, Int.add_zero] at h1
    rw [Int.add_zero]
    generalize (drw cut.length x).1.1 = n2 at *
    generalize (drw cut.length x).1.2 = e2 at *
    generalize (drw cut.length x).2 = x2 at *
    refine Tr.enter env _ Tryz.func64 (by kernel_rfl) rfl Tryz.ntmps64 rfl (by repeat (first | exact has00 | refine has01 ?_)) fun w0 => ?_
    repeat' first|(refine gca ?_; first|(refine ca h1 ?_; rintro _ _ ⟨rfl, sv1, rfl⟩))|refine bx fun b => ?_|refine lda ?_|(refine wo ?_; first|(refine ao ?_; first|refine oa ?_)|refine oa ?_|refine ld ?_|refine lnm ?_)|(refine gc ?_; first|(refine cn (fun hB => ?_) (fun hB => ?_) <;> try (exfalso; omega)))|refine sq ?_|refine rg ?_|refine xc ?_|refine nl ?_|refine rt ?_
    exact r2 ⟨rfl, sv1, rfl⟩
theorem SetW_tr (tot k : Int) (cv ov : Value) (cut oth : List Int) (b r : Nat) (sv : Value) (x : Lw) (hx : okL x) (hc : cv.oneCell' = true) (ho : ov.oneCell' = true) :
    Tr Tryz.prog 24 [.agg #[I tot, cv, ov], I k, ptr b] [vw cv (Is cut), vw ov (Is oth)] [lot b r sv x 0] fun v D => ∃ o sv', v = tup2 o (I (setW tot cut oth k x).1.2) ∧ D = [own TLI o (Is (setW tot cut oth k x).1.1), lot b r sv' (setW tot cut oth k x).2.1 (setW tot cut oth k x).2.2] := by
  have hck := RwE_tr tot k cv ov cut oth hc ho
  unfold setW
  by_cases hk : rwE tot cut oth k = 0
  rotate_left
  · rw [if_neg hk]
    generalize rwE tot cut oth k = e at *
    refine Tr.enter env _ Tryz.func24 (by kernel_rfl) rfl Tryz.ntmps24 rfl (by repeat (first | exact has00 | refine has01 ?_)) fun w0 => ?_
    repeat' first|(refine gca ?_; first|(refine ca hck ?_; rintro _ _ ⟨rfl, rfl⟩))|refine bx fun b => ?_|refine lda ?_|(refine wo ?_; first|(refine ao ?_; first|refine oa ?_)|refine oa ?_)|(refine gc ?_; first|(refine cn (fun hB => ?_) (fun hB => ?_) <;> try (exfalso; omega)))|refine sq ?_|refine rg ?_|refine xc ?_|refine nl ?_|refine rt ?_
    refine TX.im (own_nil TLI _) ?_
    exact r2 ⟨nS, sv, rfl, rfl⟩
  rw [hk] at hck
  rw [if_pos hk]
  obtain ⟨hE, k1, k2, k3⟩ := rwE_ok hk
  clear hk
  have h1 := placeW_tr tot cv ov cut oth b r sv x 0 hx (by omega) hc ho hE
  have hpu := plcW_u tot cut oth x
  have hpx := okL_plc tot cut oth hx
  rw [Int.zero_add] at h1
  by_cases hp : (plcW tot cut oth x).1.2 = 0
  · have hat := plcW_in hE hp
    rw [if_pos hp]
    rw [hp] at h1
    generalize (plcW tot cut oth x).1.1 = at1 at *
    generalize (plcW tot cut oth x).2.1 = x2 at *
    generalize (plcW tot cut oth x).2.2 = u2 at *
    have h2 := fun sv1 => PickL_tr b r sv1 x2 u2 k (at1 + 1) hpx (by omega)
    generalize pickO k (at1 + 1) x2 = pk at *
    generalize ordO k (at1 + 1) x2 = oo at *
    refine Tr.enter env _ Tryz.func24 (by kernel_rfl) rfl Tryz.ntmps24 rfl (by repeat (first | exact has00 | refine has01 ?_)) fun w0 => ?_
    repeat' first|(refine gca ?_; first|(refine ca hck ?_; rintro _ _ ⟨rfl, rfl⟩)|(refine ca h1 ?_; rintro _ _ ⟨rfl, sv1, rfl⟩)|(refine ca (h2 sv1) ?_; rintro _ _ ⟨o, sv2, rfl, rfl⟩))|refine bx fun b => ?_|refine lda ?_|(refine wo ?_; first|(refine ao ?_; first|refine aw ?_|refine oa ?_)|refine oa ?_)|(refine gc ?_; first|refine cf ?_)|refine sq ?_|refine rg ?_|refine xc ?_|refine nl ?_|refine sk ?_|refine rt ?_
    exact r2 ⟨o, sv2, rfl, rfl⟩
  · rw [if_neg hp]
    generalize plcW tot cut oth x = pl at *
    refine Tr.enter env _ Tryz.func24 (by kernel_rfl) rfl Tryz.ntmps24 rfl (by repeat (first | exact has00 | refine has01 ?_)) fun w0 => ?_
    repeat' first|(refine gca ?_; first|(refine ca hck ?_; rintro _ _ ⟨rfl, rfl⟩)|(refine ca h1 ?_; rintro _ _ ⟨rfl, sv1, rfl⟩))|refine bx fun b => ?_|refine lda ?_|(refine wo ?_; first|(refine ao ?_; first|refine oa ?_)|refine oa ?_)|(refine gc ?_; first|refine cf ?_|(refine cn (fun hB => ?_) (fun hB => ?_) <;> try (exfalso; omega)))|refine sq ?_|refine rg ?_|refine xc ?_|refine nl ?_|refine sk ?_|refine rt ?_
    refine TX.im (own_nil TLI _) ?_
    exact r2 ⟨nS, sv1, rfl, rfl⟩
end Go.Art
set_option linter.unusedVariables false
set_option linter.unusedSimpArgs false
set_option linter.unusedVariables false
namespace Go.Art
def nv : List Nat → Nat
  | [] => 0
  | x :: r => x + 18446744073709551616 * nv r
def dg (n : Nat) : List Nat := if h : n = 0 then [] else n % 18446744073709551616 :: dg (n / 18446744073709551616)
termination_by n
decreasing_by omega
def Dg (l : List Nat) : Prop := ∀ x ∈ l, x < 18446744073709551616
theorem dg_zero : dg 0 = [] := by rw [dg]; rfl
theorem dg_pos {n : Nat} (h : n ≠ 0) : dg n = n % 18446744073709551616 :: dg (n / 18446744073709551616) := by rw [dg]; simp [h]
theorem nv_dg (n : Nat) : nv (dg n) = n := by
  induction n using Nat.strongRecOn with
  | _ n ih =>
    by_cases h : n = 0
    · subst h; rw [dg_zero]; rfl
    · rw [dg_pos h, nv, ih _ (by omega)]; omega
theorem Dg_dg (n : Nat) : Dg (dg n) := by
  induction n using Nat.strongRecOn with
  | _ n ih =>
    by_cases h : n = 0
    · subst h; rw [dg_zero]; exact fun x hx => nomatch hx
    · rw [dg_pos h]; intro x hx
      rcases List.mem_cons.1 hx with rfl | hx
      · exact Nat.mod_lt _ (by decide)
      · exact ih _ (by omega) x hx
theorem Dg.nil : Dg [] := fun _ h => nomatch h
theorem Dg.cons {x : Nat} {l : List Nat} (h : x < 18446744073709551616) (k : Dg l) : Dg (x :: l) := fun y hy => by rcases List.mem_cons.1 hy with rfl | hy; exact h; exact k y hy
theorem Dg.tail {x : Nat} {l : List Nat} (h : Dg (x :: l)) : Dg l := fun y hy => h y (List.mem_cons_of_mem _ hy)
theorem Dg.head {x : Nat} {l : List Nat} (h : Dg (x :: l)) : x < 18446744073709551616 := h x List.mem_cons_self
theorem Dg.app {a b : List Nat} (h : Dg a) (k : Dg b) : Dg (a ++ b) := fun x hx => by rcases List.mem_append.1 hx with h1 | h1; exact h x h1; exact k x h1
theorem Dg.one {x : Nat} (h : x < 18446744073709551616) : Dg [x] := Dg.cons h Dg.nil
theorem Dg.take {l : List Nat} (h : Dg l) (i : Nat) : Dg (l.take i) := fun x hx => h x (List.mem_of_mem_take hx)
theorem Dg.drop {l : List Nat} (h : Dg l) (i : Nat) : Dg (l.drop i) := fun x hx => h x (List.mem_of_mem_drop hx)
theorem Dg.sub {l : List Nat} (h : Dg l) (i j : Nat) : Dg ((l.take j).drop i) := (h.take j).drop i
theorem Dg.set {l : List Nat} (h : Dg l) {i x : Nat} (hx : x < 18446744073709551616) : Dg (l.set i x) := fun y hy => by
  rcases List.mem_or_eq_of_mem_set hy with h1 | rfl
  · exact h y h1
  · exact hx
theorem Dg.rep (n : Nat) : Dg (List.replicate n 0) := fun x hx => by rw [List.eq_of_mem_replicate hx]; decide
theorem Dg.getD {l : List Nat} (h : Dg l) (i : Nat) : l.getD i 0 < 18446744073709551616 := by
  rw [List.getD_eq_getElem?_getD]
  cases hx : l[i]? with
  | none => simp
  | some x => exact h x (List.mem_of_getElem? hx)
theorem nv_app (a b : List Nat) : nv (a ++ b) = nv a + 18446744073709551616 ^ a.length * nv b := by
  induction a with
  | nil => simp [nv]
  | cons x r ih => rw [List.cons_append, nv, nv, ih, List.length_cons, Nat.pow_succ, Nat.mul_add, Nat.mul_assoc, Nat.mul_left_comm, Nat.add_assoc]
theorem nv_snoc (a : List Nat) (x : Nat) : nv (a ++ [x]) = nv a + 18446744073709551616 ^ a.length * x := by rw [nv_app]; simp [nv]
theorem nv_lt {l : List Nat} (h : Dg l) : nv l < 18446744073709551616 ^ l.length := by
  induction l with
  | nil => simp [nv]
  | cons x r ih =>
    have h1 := ih h.tail
    have h2 := h.head
    rw [nv, List.length_cons, Nat.pow_succ]
    omega
theorem nv_rep (n : Nat) : nv (List.replicate n 0) = 0 := by
  induction n with
  | zero => rfl
  | succ n ih => rw [List.replicate_succ, nv, ih]
theorem nv_split (l : List Nat) (i : Nat) : nv l = nv (l.take i) + 18446744073709551616 ^ (min i l.length) * nv (l.drop i) := by
  conv => lhs; rw [← List.take_append_drop i l]
  rw [nv_app, List.length_take]
theorem nv_step (l : List Nat) (i : Nat) : nv (l.drop i) = l.getD i 0 + 18446744073709551616 * nv (l.drop (i + 1)) := by
  by_cases h : i < l.length
  · rw [List.drop_eq_getElem_cons h, nv, List.getD_eq_getElem?_getD, List.getElem?_eq_getElem h]; rfl
  · rw [List.drop_eq_nil_of_le (by omega), List.drop_eq_nil_of_le (by omega)]
    simp [nv, List.getD_eq_getElem?_getD, h]
theorem nv_take_succ (l : List Nat) (i : Nat) (h : i < l.length) : nv (l.take (i + 1)) = nv (l.take i) + 18446744073709551616 ^ i * l.getD i 0 := by
  rw [List.take_succ_eq_append_getElem h, nv_snoc, List.length_take, Nat.min_eq_left (by omega), List.getD_eq_getElem?_getD, List.getElem?_eq_getElem h]; rfl
def Tm (l : List Nat) : Prop := ∀ a x, l = a ++ [x] → x ≠ 0
theorem Tm.nil : Tm [] := fun a x h => by simp at h
theorem nv_zero {l : List Nat} (h : nv l = 0) : ∀ x ∈ l, x = 0 := by
  induction l with
  | nil => exact fun _ h => nomatch h
  | cons y r ih =>
    rw [nv] at h
    intro x hx
    rcases List.mem_cons.1 hx with rfl | hx
    · omega
    · exact ih (by omega) x hx
theorem Tm.tail {x : Nat} {l : List Nat} (h : Tm (x :: l)) : Tm l := fun a y e => h (x :: a) y (by rw [e]; rfl)
theorem Tm.pos {x : Nat} {l : List Nat} (h : Tm (x :: l)) : nv (x :: l) ≠ 0 := by
  intro h0
  obtain ⟨a, y, e⟩ : ∃ a y, x :: l = a ++ [y] := ⟨(x :: l).dropLast, (x :: l).getLast (by simp), (List.dropLast_concat_getLast (by simp)).symm⟩
  exact h a y e (nv_zero h0 y (by rw [e]; simp))
theorem dg_nv {l : List Nat} (h : Dg l) (t : Tm l) : dg (nv l) = l := by
  induction l with
  | nil => exact dg_zero
  | cons x r ih =>
    rw [dg_pos t.pos, nv]
    have h1 := h.head
    rw [show (x + 18446744073709551616 * nv r) % 18446744073709551616 = x by omega, show (x + 18446744073709551616 * nv r) / 18446744073709551616 = nv r by omega, ih h.tail t.tail]
theorem Tm_dg (n : Nat) : Tm (dg n) := by
  induction n using Nat.strongRecOn with
  | _ n ih =>
    by_cases h : n = 0
    · subst h; rw [dg_zero]; exact Tm.nil
    · rw [dg_pos h]; intro a x e
      cases a with
      | nil =>
        simp only [List.nil_append, List.cons.injEq] at e
        have h2 : n / 18446744073709551616 = 0 := by rw [← nv_dg (n / 18446744073709551616), e.2]; rfl
        omega
      | cons y a =>
        simp only [List.cons_append, List.cons.injEq] at e
        exact ih _ (by omega) a x e.2
theorem dg_nil {n : Nat} : dg n = [] ↔ n = 0 := ⟨fun h => by rw [← nv_dg n, h]; rfl, fun h => by rw [h, dg_zero]⟩
theorem dg_top {l : List Nat} {i : Nat} (h : Dg l) (h0 : nv (l.drop i) = 0) : nv (l.take i) = nv l := by
  have := nv_split l i; rw [h0] at this; omega
theorem Tm_of {l : List Nat} (h : l = [] ∨ l.getD (l.length - 1) 0 ≠ 0) : Tm l := by
  intro a x e
  rcases h with rfl | h
  · simp at e
  · subst e
    simpa [List.getD_eq_getElem?_getD] using h
theorem Tm.top {l : List Nat} (h : Tm l) (hl : 0 < l.length) : l.getD (l.length - 1) 0 ≠ 0 := by
  have e := (List.dropLast_concat_getLast (l := l) (by rintro rfl; simp at hl)).symm
  have := h _ _ e
  rw [List.getLast_eq_getElem] at this
  rwa [List.getD_eq_getElem?_getD, List.getElem?_eq_getElem (by omega)]
theorem dg_len (n m : Nat) : (dg n).length ≤ m ↔ n < 18446744073709551616 ^ m := by
  constructor
  · intro h
    have h1 := nv_lt (Dg_dg n)
    rw [nv_dg] at h1
    exact Nat.lt_of_lt_of_le h1 (Nat.pow_le_pow_right (by decide) h)
  · induction m generalizing n with
    | zero => intro h; simp at h; subst h; rw [dg_zero]; exact Nat.le_refl _
    | succ m ih =>
      intro h
      by_cases h0 : n = 0
      · subst h0; rw [dg_zero]; exact Nat.zero_le _
      · rw [dg_pos h0, List.length_cons]
        have := ih (n / 18446744073709551616) (by rw [Nat.pow_succ] at h; exact Nat.div_lt_of_lt_mul (by rw [Nat.mul_comm]; exact h))
        omega
theorem dg_one {n : Nat} (h : n < 18446744073709551616) (h0 : n ≠ 0) : dg n = [n] := by
  rw [dg_pos h0, Nat.mod_eq_of_lt h, Nat.div_eq_of_lt h, dg_zero]
theorem nv_low {l : List Nat} (h : Dg l) (i : Nat) : nv (l.take i) < 18446744073709551616 ^ i := by
  have h1 := nv_lt (h.take i)
  refine Nat.lt_of_lt_of_le h1 (Nat.pow_le_pow_right (by decide) ?_)
  rw [List.length_take]; omega
theorem nv_cut (l : List Nat) (i : Nat) : nv l = nv (l.take i) + 18446744073709551616 ^ i * nv (l.drop i) := by
  by_cases h : i ≤ l.length
  · have := nv_split l i; rwa [Nat.min_eq_left h] at this
  · rw [List.drop_eq_nil_of_le (by omega), List.take_of_length_le (by omega)]; simp [nv]
theorem nv_lt_of {a b : List Nat} (ha : Dg a) (i : Nat) (h : nv (a.drop i) < nv (b.drop i)) : nv a < nv b := by
  rw [nv_cut a i, nv_cut b i]
  have h1 := nv_low ha i
  have h2 : 18446744073709551616 ^ i * nv (a.drop i) + 18446744073709551616 ^ i ≤ 18446744073709551616 ^ i * nv (b.drop i) := by
    rw [← Nat.mul_succ]; exact Nat.mul_le_mul_left _ h
  omega
theorem nv_set (l : List Nat) (i x : Nat) (h : i < l.length) : nv (l.set i x) + 18446744073709551616 ^ i * l.getD i 0 = nv l + 18446744073709551616 ^ i * x := by
  rw [nv_cut (l.set i x) i, nv_cut l i, nv_step (l.set i x) i, nv_step l i]
  have e1 : (l.set i x).take i = l.take i := by rw [List.take_set, List.set_eq_of_length_le (by rw [List.length_take]; omega)]
  have e2 : (l.set i x).drop (i + 1) = l.drop (i + 1) := by rw [List.drop_set, if_pos (by omega)]
  have e3 : (l.set i x).getD i 0 = x := by simp [List.getD_eq_getElem?_getD, h]
  rw [e1, e2, e3]
  simp only [Nat.mul_add]
  omega
end Go.Art
namespace Go.Art
structure Hf (n1 n0 u u1 q r : Nat) : Prop where
  n1a : 2147483648 ≤ n1
  n1b : n1 < 4294967296
  n0b : n0 < 4294967296
  u1b : u1 < 4294967296
  ub : u < n1 * 4294967296 + n0
  eq : r + q * n1 = u
  q1 : (u * 4294967296 + u1) / (n1 * 4294967296 + n0) ≤ q
  q2 : q ≤ 4294967297
  r2 : r < 4294967296
theorem Hf.first {n1 n0 u u1 : Nat} (n1a : 2147483648 ≤ n1) (n1b : n1 < 4294967296) (n0b : n0 < 4294967296) (u1b : u1 < 4294967296) (ub : u < n1 * 4294967296 + n0) : Hf n1 n0 u u1 (u / n1) (u % n1) := by
  have h0 : 0 < n1 := by omega
  refine ⟨n1a, n1b, n0b, u1b, ub, by rw [Nat.mul_comm]; exact Nat.mod_add_div u n1, ?_, ?_, by have := Nat.mod_lt u h0; omega⟩
  · rw [Nat.le_div_iff_mul_le h0]
    have h1 : (u * 4294967296 + u1) / (n1 * 4294967296 + n0) ≤ (u * 4294967296 + u1) / (n1 * 4294967296) := Nat.div_le_div_left (by omega) (by omega)
    have h2 : (u * 4294967296 + u1) / (n1 * 4294967296) = u / n1 := by
      have h3 : (u * 4294967296 + u1) / 4294967296 = u := by omega
      have h4 := Nat.div_div_eq_div_mul (u * 4294967296 + u1) 4294967296 n1
      rw [h3] at h4
      rw [Nat.mul_comm n1]; exact h4.symm
    rw [h2] at h1
    exact Nat.le_trans (Nat.mul_le_mul_right _ h1) (Nat.div_mul_le_self u n1)
  · have : u / n1 < 4294967298 := by
      rw [Nat.div_lt_iff_lt_mul h0]
      omega
    omega
variable {n1 n0 u u1 q r : Nat}
theorem Hf.mulb (h : Hf n1 n0 u u1 q r) : q * n0 < 18446744073709551616 := by
  have h1 : q * n0 ≤ 4294967297 * 4294967295 := Nat.mul_le_mul h.q2 (by have := h.n0b; omega)
  omega
theorem Hf.goal (h : Hf n1 n0 u u1 q r) : q * n0 ≤ 4294967296 * r + u1 ↔ q * (n1 * 4294967296 + n0) ≤ u * 4294967296 + u1 := by
  have h1 := h.eq
  rw [Nat.mul_add, ← Nat.mul_assoc]
  omega
theorem Hf.less (h : Hf n1 n0 u u1 q r) (hc : ¬ (q < 4294967296 ∧ q * n0 ≤ 4294967296 * r + u1)) : 1 ≤ q ∧ (u * 4294967296 + u1) / (n1 * 4294967296 + n0) ≤ q - 1 ∧ q - 1 ≤ 4294967296 ∧ (r + n1) + (q - 1) * n1 = u := by
  have h1 := h.n1a
  have hlt : (u * 4294967296 + u1) / (n1 * 4294967296 + n0) < q := by
    rw [Nat.div_lt_iff_lt_mul (by omega)]
    by_cases h2 : q < 4294967296
    · have h3 : ¬ q * (n1 * 4294967296 + n0) ≤ u * 4294967296 + u1 := fun h4 => hc ⟨h2, h.goal.2 h4⟩
      omega
    · have h3 : 4294967296 * (n1 * 4294967296 + n0) ≤ q * (n1 * 4294967296 + n0) := Nat.mul_le_mul_right _ (by omega)
      have := h.ub; have := h.u1b
      omega
  have hq : 1 ≤ q := Nat.lt_of_le_of_lt (Nat.zero_le _) hlt
  refine ⟨hq, Nat.le_sub_one_of_lt hlt, by have := h.q2; omega, ?_⟩
  have h5 := h.eq
  obtain ⟨m, rfl⟩ : ∃ m, q = m + 1 := ⟨q - 1, by omega⟩
  rw [Nat.add_mul] at h5
  simp only [Nat.add_sub_cancel]
  omega
theorem Hf.next (h : Hf n1 n0 u u1 q r) (hc : ¬ (q < 4294967296 ∧ q * n0 ≤ 4294967296 * r + u1)) (hr : r + n1 < 4294967296) : Hf n1 n0 u u1 (q - 1) (r + n1) := by
  obtain ⟨h1, h2, h3, h4⟩ := h.less hc
  exact ⟨h.n1a, h.n1b, h.n0b, h.u1b, h.ub, h4, h2, by omega, hr⟩
theorem Hf.done (h : Hf n1 n0 u u1 q r) (hc : q < 4294967296 ∧ q * n0 ≤ 4294967296 * r + u1) : q = (u * 4294967296 + u1) / (n1 * 4294967296 + n0) := by
  have h1 := h.goal.1 hc.2
  have := h.n1a
  exact Nat.le_antisymm ((Nat.le_div_iff_mul_le (by omega)).2 h1) h.q1
theorem Hf.brk (h : Hf n1 n0 u u1 q r) (hc : ¬ (q < 4294967296 ∧ q * n0 ≤ 4294967296 * r + u1)) (hr : ¬ r + n1 < 4294967296) : q - 1 = (u * 4294967296 + u1) / (n1 * 4294967296 + n0) := by
  obtain ⟨h1, h2, h3, h4⟩ := h.less hc
  have := h.n1a
  refine Nat.le_antisymm ((Nat.le_div_iff_mul_le (by omega)).2 ?_) h2
  have h5 : (q - 1) * n0 ≤ 4294967296 * 4294967295 := Nat.mul_le_mul h3 (by have := h.n0b; omega)
  rw [Nat.mul_add, ← Nat.mul_assoc]
  omega
theorem Hf.qlt (u1b : u1 < 4294967296) (ub : u < n1 * 4294967296 + n0) : (u * 4294967296 + u1) / (n1 * 4294967296 + n0) < 4294967296 := by
  rw [Nat.div_lt_iff_lt_mul (by omega)]
  omega
theorem div_one {V a u0 : Nat} (hV : 0 < V) : (a * 4294967296 + u0) / V = a / V * 4294967296 + (a % V * 4294967296 + u0) / V ∧ (a * 4294967296 + u0) % V = (a % V * 4294967296 + u0) % V := by
  have e : a * 4294967296 + u0 = V * (a / V * 4294967296) + (a % V * 4294967296 + u0) := by
    have h1 := Nat.div_add_mod a V
    rw [← Nat.mul_assoc, ← Nat.add_assoc, ← Nat.add_mul, h1]
  rw [e]
  exact ⟨Nat.mul_add_div hV _ _, Nat.mul_add_mod _ _ _⟩
theorem div_up {a y p : Nat} (hp : 0 < p) : a * p / (y * p) = a / y ∧ a * p % (y * p) = a % y * p := ⟨Nat.mul_div_mul_right _ _ hp, Nat.mul_mod_mul_right _ _ _⟩
end Go.Art
set_option linter.unusedSimpArgs false
set_option linter.unusedVariables false
namespace Go.Art
open Go Go.Proofs Go.RowKit
section
variable {P : Program} {E : Env P} {n : Sh} {X : Cx} {s : List K} {fr : Fr} {A A' G D : List Ch} {ops : Array Oper} {rest : List Oper} {d : Nat} {ty t t' T : TypeId} {pos : String} {after : Array Edge} {x y : Operand} {w : World} {p q : Int}
theorem res_a1 {fn : Func} {a : Act} (ha : Holds n a fr) {t : Nat} {ty T : TypeId} {dt : TypeDesc} {z : Value} {sz by_ b : Nat} {cs vs : List Value} (hr : fn.results = #[.cell t ty]) (ht : lk E.und ty = some dt) (hg : aggB dt = true) (hi : lk E.inf ty = some (z, sz, by_)) (h1 : get fr t = some (ptr b))
    (hb : w.heap[b]? = some (.cells cs.toArray T (0, 0))) (hv : cs.take sz = vs) (hl : vs.length = sz) : (results fn a.tmps).run P w = .ok (.agg vs.toArray) w := by
  obtain ⟨inf, g1, _, g2, _⟩ := E.info hi
  have h3 := run_loadCells_list (P := P) w ⟨b, 0, none⟩ vs (fun m u hm => by
    rw [Addr.add_lit]
    refine blk_cell hb ?_
    rw [← hv, List.getElem?_take] at hm
    split at hm
    · simpa using hm
    · cases hm)
  rw [hl] at h3
  have e1 : a.tmps[t]?.getD undef = ptr b := by have := ha.slot t _ h1; simpa using this
  simp only [results, hr]
  simp [e1, asAddr, loadVar, aggB_t (w := w) ht hg, sizeOf, typeInfo, g1, g2, h3]
theorem rca1 {w0 : World} {A0 : List Ch} {R' : Value → List Ch → Prop} {fn : Func} {t nn : Nat} {ty T : TypeId} {dt : TypeDesc} {z : Value} {sz by_ b : Nat} {cs vs : List Value} (h : R' (.agg vs.toArray) D) (hr : fn.results = #[.cell t ty] := by rfl) (ht : lk E.und ty = some dt := by rfl) (hg : aggB dt = true := by rfl) (hi : lk E.inf ty = some (z, sz, by_) := by rfl)
    (hv : get fr t = some (ptr b) := by rfl) (hm : pt b cs T ∈ A := by (repeat (first | apply List.Mem.head | apply List.Mem.tail)); first | done | fail) (hcs : cs.take sz = vs := by rfl) (hl : vs.length = sz := by rfl) (hf : Fit A D G := by first | apply Fit.all | ((repeat (first | (apply Fit.nilN; (repeat (first | apply nrm_nil | apply nrm_cons)); try apply nrm_rfl) | (apply Fit.cons; focus ((repeat (first | apply Tk.here | apply Tk.there)); first | done | fail)))); first | done | fail)) (nb : ∀ c ∈ D, ∀ b, ¬ c.bd b := by (repeat (first | exact nb0 | refine nb1 ?_)); first | done | fail) :
    TX E ⟨nn, [], none⟩ ⟨bodyPost P fn (RetP (PR w0 A0 R')), w0, A0⟩ [] .ret fr A := ⟨fun w hw => ⟨fun a ha =>
  bodyPost_ret (res_a1 (E := E) ha hr ht hg hi hv (hw.mem hm) hcs hl) (ha.defers.trans rfl) ⟨_, rfl, PR.mk h hw hf nb⟩⟩⟩
def clipV (v : Value) (n : Nat) : Value := match v with
  | .slice o _ _ => .slice o n n
  | v => v
theorem R_clip {el : TypeId} {z v : Value} {by_ : Nat} {xs : List Value} {y1 y2 : Operand} {k1 k2 : IntKind} (ht : lk E.und t = some (.slice el)) (he : lk E.inf el = some (z, 1, by_)) (hx : ev fr x = some v) (h1 : ev fr y1 = some (.int k1 (xs.length : Int))) (h2 : ev fr y2 = some (.int k2 (xs.length : Int))) (hs : Sl w v xs) :
    OpV P n fr (.slice t x none (some y1) (some y2)) ty w (clipV v xs.length) w := ⟨fun a ha _ _ _ _ => by
  obtain ⟨inf, hi, _, hsz, _⟩ := E.info he
  obtain ⟨o, c, rfl, g1, g2, g3⟩ := hs
  have b1 : ∀ (k : IntKind) (m : Nat) (cd : BoundsCode), xs.length ≤ m → (Instr.sliceBound (.int k (xs.length : Int)) m cd).run P w = .ok xs.length w := fun k m cd hm => by
    have : (0 : Int) ≤ (xs.length : Int) ∧ (xs.length : Int) ≤ (m : Int) := by omega
    simp [Instr.sliceBound, asIntOf, this]
  simp only [execOp, ha.ev hx]
  simp only [Option.map, ha.ev h1, ha.ev h2]
  cases o with
  | none => simp [Instr.sliceAt, Instr.slice, run_underlying (P := P) (E.un ht) w, Instr.sliceBounds, sizeOf, typeInfo, hi, hsz, b1 _ _ _ g1, b1 _ _ _ (Nat.le_refl _), clipV]
  | some ad =>
    have e : ad.add 0 = ad := by unfold Addr.add; simp
    simp [Instr.sliceAt, Instr.slice, run_underlying (P := P) (E.un ht) w, Instr.sliceBounds, sizeOf, typeInfo, hi, hsz, b1 _ _ _ g1, b1 _ _ _ (Nat.le_refl _), clipV, e]⟩
theorem im_clip (e : TypeId) (v : Value) (xs : List Value) : Im1 (own e v xs) (own e (clipV v xs.length) xs) := by
  have hb : (clipV v xs.length).ownBlock = v.ownBlock := by cases v <;> first | rfl | (rename_i a _ _; cases a <;> rfl)
  refine ⟨fun w h => ?_, fun b h => ?_, fun _ h => h.elim, fun b h => ?_⟩
  · rcases h with ⟨rfl, rfl⟩ | ⟨b, o, cap, cur, rfl, h1, h2, h3, h4, h5⟩
    · exact .inl ⟨rfl, rfl⟩
    · exact .inr ⟨b, o, xs.length, cur, rfl, h1, Nat.le_refl _, by omega, by omega, h5⟩
  · show v.ownBlock = some b; rw [← hb]; exact h
  · rcases h with h | h | h
    · exact .inl (by show v.ownBlock = some b; rw [← hb]; exact h)
    · exact h.elim
    · exact h.elim
theorem clpo {el e : TypeId} {z v : Value} {by_ : Nat} {xs : List Value} {y1 y2 : Operand} {k1 k2 : IntKind} (k : TO E n X s ops rest ((d, clipV v xs.length) :: fr) (own e (clipV v xs.length) xs :: A')) (hx : ev fr x = some v := by rfl) (hm : Tk (own e v xs) A A' := by (repeat (first | apply Tk.here | apply Tk.there)); first | done | fail) (h1 : ev fr y1 = some (.int k1 (xs.length : Int)) := by rfl) (h2 : ev fr y2 = some (.int k2 (xs.length : Int)) := by rfl)
    (ht : lk E.und t = some (.slice el) := by rfl) (he : lk E.inf el = some (z, 1, by_) := by rfl) (hd : Nat.blt d n.n = true := by rfl) : TO E n X s ops (⟨some d, .slice t x none (some y1) (some y2), ty, pos, after, none⟩ :: rest) fr A := by
  refine TO.im hm (TO.val (v := clipV v xs.length) (fun w hw => ?_) (TO.im (Im1.im (im_clip e v xs) A') k) hd)
  have h3 : OwnO w e v xs := hw.h (own e v xs) (List.Mem.head _)
  exact R_clip ht he hx h1 h2 h3.sl
end
def slCl (v : Value) (lo hi : Nat) : Value := clipV (slSub v lo hi) (hi - lo)
section
variable {P : Program} {E : Env P} {n : Sh} {X : Cx} {s : List K} {fr : Fr} {A A' : List Ch} {ops : Array Oper} {rest : List Oper} {d : Nat} {ty t t' : TypeId} {pos : String} {after : Array Edge} {x y y2 y3 : Operand} {v u z : Value} {by_ : Nat} {xs : List Value} {w : World} {lo hi : Int} {k1 k2 k3 : IntKind}
end
end Go.Art
set_option linter.unusedSimpArgs false
set_option linter.unusedVariables false
namespace Go.Art
open Go Go.Proofs Go.RowKit
section
variable {P : Program} {E : Env P} {n : Sh} {X : Cx} {s : List K} {fr : Fr} {A : List Ch} {ops : Array Oper} {fuel : Nat} {listed : Array Bool} {S : World → Prop} {a b : Code}
theorem sq_cutX {ι : Type} (p : ι → Prop) (fr' : ι → Fr) (B : ι → List Ch) (hb : ∀ i, p i → TC E n X s b (fr' i) (B i)) (ha : (∀ i, p i → ∀ fr2 A2, Sub (fr' i) fr2 → ∀ {G}, Fit A2 (B i) G → TC E n X s b fr2 A2) → TC E n X (.code b :: s) a fr A) : TC E n X s (.seq a b) fr A :=
  sq (ha fun i hp fr2 A2 hs _ hf => ⟨fun w hw => SC_sub (fr' i) hs ((hb i hp).run w ((hw.im hf).im (Im.drop _ _)))⟩)
theorem tkw (i : Nat) (c : Int) {m : Int} {d : Nat} {o : Op} {ty : TypeId} {pos : String} {after : Array Edge} (k : TS E n X s S ops fuel (listed.setIfInBounds i true) ((d, I c) :: fr) A) (hi : ops[i]? = some ⟨some d, o, ty, pos, after, none⟩ := by rfl) (hv : evOp E fr o = some (.int .i64 (IntKind.i64.wrap m)) := by rfl) (he : m = c := by first | rfl | assumption | omega) (hb : -9223372036854775808 ≤ c ∧ c ≤ 9223372036854775807 := by omega) (hs : Region.noSelect ops = true := by kernel_rfl) (hf : Region.free .any ops listed i = true := by kernel_rfl)
    (hr : (Region.ready .any ops listed).contains i = true := by kernel_rfl) (hrd : n.r = none := by rfl) (hd : Nat.blt d n.n = true := by rfl) (hab : ∀ w ρ, (⟨some d, o, ty, pos, after, none⟩ : Oper).about P w ρ = none := by exact fun _ _ => rfl) : TS E n X s S ops (fuel + 1) listed fr A :=
  tk i (fun _ _ => by subst he; exact R_wrap (R_auto hv) hb) k hi hs hf hr hrd hd hab
theorem res_at {fn : Func} {w : World} {a : Act} (ha : Holds n a fr) {t u : Nat} {ty T : TypeId} {dt : TypeDesc} {z : Value} {sz by_ b : Nat} {cs vs : List Value} {v2 : Value} (hr : fn.results = #[.cell t ty, .tmp u]) (ht : lk E.und ty = some dt) (hg : aggB dt = true) (hi : lk E.inf ty = some (z, sz, by_)) (h1 : get fr t = some (ptr b))
    (hb : w.heap[b]? = some (.cells cs.toArray T (0, 0))) (hv : cs.take sz = vs) (hl : vs.length = sz) (h2 : get fr u = some v2) : (results fn a.tmps).run P w = .ok (.tuple #[.agg vs.toArray, v2]) w := by
  obtain ⟨inf, g1, _, g2, _⟩ := E.info hi
  have h3 := run_loadCells_list (P := P) w ⟨b, 0, none⟩ vs (fun m u hm => by
    rw [Addr.add_lit]
    refine blk_cell hb ?_
    rw [← hv, List.getElem?_take] at hm
    split at hm
    · simpa using hm
    · cases hm)
  rw [hl] at h3
  have e1 : a.tmps[t]?.getD undef = ptr b := by have := ha.slot t _ h1; simpa using this
  have e2 : a.tmps[u]?.getD undef = v2 := by have := ha.slot u _ h2; simpa using this
  simp only [results, hr]
  simp [e1, e2, asAddr, loadVar, aggB_t (w := w) ht hg, sizeOf, typeInfo, g1, g2, h3]
theorem rca {w0 : World} {A0 D G : List Ch} {R' : Value → List Ch → Prop} {fn : Func} {t u nn : Nat} {ty T : TypeId} {dt : TypeDesc} {z : Value} {sz by_ b : Nat} {cs vs : List Value} {v2 : Value} (h : R' (.tuple #[.agg vs.toArray, v2]) D) (hr : fn.results = #[.cell t ty, .tmp u] := by rfl) (ht : lk E.und ty = some dt := by rfl) (hg : aggB dt = true := by rfl) (hi : lk E.inf ty = some (z, sz, by_) := by rfl)
    (hv : get fr t = some (ptr b) := by rfl) (hv2 : get fr u = some v2 := by rfl) (hm : pt b cs T ∈ A := by (repeat (first | apply List.Mem.head | apply List.Mem.tail)); first | done | fail) (hcs : cs.take sz = vs := by rfl) (hl : vs.length = sz := by rfl) (hf : Fit A D G := by first | apply Fit.all | ((repeat (first | (apply Fit.nilN; (repeat (first | apply nrm_nil | apply nrm_cons)); try apply nrm_rfl) | (apply Fit.cons; focus ((repeat (first | apply Tk.here | apply Tk.there)); first | done | fail)))); first | done | fail)) (nb : ∀ c ∈ D, ∀ b, ¬ c.bd b := by (repeat (first | exact nb0 | refine nb1 ?_)); first | done | fail) :
    TX E ⟨nn, [], none⟩ ⟨bodyPost P fn (RetP (PR w0 A0 R')), w0, A0⟩ [] .ret fr A := ⟨fun w hw => ⟨fun a ha =>
  bodyPost_ret (res_at (E := E) ha hr ht hg hi hv (hw.mem hm) hcs hl hv2) (ha.defers.trans rfl) ⟨_, rfl, PR.mk h hw hf nb⟩⟩⟩
end
section
variable {P : Program} {E : Env P} {n : Sh} {X : Cx} {s : List K} {fr : Fr} {A : List Ch} {a b : Code}
end
end Go.Art
namespace Go.Art
open Go Go.Proofs
def renMul : Shelf.Ren :=
{
  f := fun x =>
    match x with
    | 264 => 146
    | n => n,
  t := fun x =>
    match x with
    | 53 => 45
    | 46 => 72
    | n => n,
  g := fun x =>
    have n := x;
    n }
theorem laysMul : Lays.n264 Tryz.prog renMul :=
{ mixed := Eq.refl true, f264 := Eq.trans Tryz.func146 (congrArg some (Eq.refl (Body.n264 renMul))),
  t46 := Tryz.underlying72, a46 := Tryz.isAgg72, z46 := Tryz.sizeOf72, v46 := Tryz.zeroValue72,
  t53 := Tryz.underlying45, a53 := Tryz.isAgg45, z53 := Tryz.sizeOf45, v53 := Tryz.zeroValue45 }
end Go.Art
namespace Go.Art
open Go Go.Proofs
def renLen : Shelf.Ren :=
{
  f := fun x =>
    match x with
    | 129 => 124
    | n => n,
  t := fun x =>
    match x with
    | 53 => 45
    | 3 => 3
    | 4 => 4
    | 46 => 72
    | 5 => 5
    | 9 => 9
    | n => n,
  g := fun x =>
    have n := x;
    n }
theorem laysLen : Lays.n129 Tryz.prog renLen :=
{ mixed := Eq.refl true, f129 := Eq.trans Tryz.func124 (congrArg some (Eq.refl (Body.n129 renLen))),
  t3 := Tryz.underlying3, a3 := Tryz.isAgg3, z3 := Tryz.sizeOf3, v3 := Tryz.zeroValue3, t4 := Tryz.underlying4,
  a4 := Tryz.isAgg4, z4 := Tryz.sizeOf4, v4 := Tryz.zeroValue4, t5 := Tryz.underlying5, a5 := Tryz.isAgg5,
  z5 := Tryz.sizeOf5, v5 := Tryz.zeroValue5, t9 := Tryz.underlying9, a9 := Tryz.isAgg9, z9 := Tryz.sizeOf9,
  v9 := Tryz.zeroValue9, t46 := Tryz.underlying72, a46 := Tryz.isAgg72, z46 := Tryz.sizeOf72, v46 := Tryz.zeroValue72,
  t53 := Tryz.underlying45, a53 := Tryz.isAgg45, z53 := Tryz.sizeOf45, v53 := Tryz.zeroValue45 }
end Go.Art
namespace Go.Art
open Go Go.Proofs
def renLz : Shelf.Ren :=
{
  f := fun x =>
    match x with
    | 134 => 148
    | 129 => 124
    | n => n,
  t := fun x =>
    match x with
    | 53 => 45
    | 3 => 3
    | 4 => 4
    | 46 => 72
    | 5 => 5
    | 9 => 9
    | n => n,
  g := fun x =>
    have n := x;
    n }
theorem laysLz : Lays.n134 Tryz.prog renLz :=
{ mixed := Eq.refl true, f129 := Eq.trans Tryz.func124 (congrArg some (Eq.refl (Body.n129 renLz))),
  f134 := Eq.trans Tryz.func148 (congrArg some (Eq.refl (Body.n134 renLz))), t3 := Tryz.underlying3,
  a3 := Tryz.isAgg3, z3 := Tryz.sizeOf3, v3 := Tryz.zeroValue3, t4 := Tryz.underlying4, a4 := Tryz.isAgg4,
  z4 := Tryz.sizeOf4, v4 := Tryz.zeroValue4, t5 := Tryz.underlying5, a5 := Tryz.isAgg5, z5 := Tryz.sizeOf5,
  v5 := Tryz.zeroValue5, t9 := Tryz.underlying9, a9 := Tryz.isAgg9, z9 := Tryz.sizeOf9, v9 := Tryz.zeroValue9,
  t46 := Tryz.underlying72, a46 := Tryz.isAgg72, z46 := Tryz.sizeOf72, v46 := Tryz.zeroValue72,
  t53 := Tryz.underlying45, a53 := Tryz.isAgg45, z53 := Tryz.sizeOf45, v53 := Tryz.zeroValue45 }
end Go.Art
set_option linter.unusedSimpArgs false
set_option linter.unusedVariables false
namespace Go.Art
open Go Go.Proofs Go.RowKit

abbrev Un (n : Nat) : Value := .int .u64 (n : Int)
abbrev Us (l : List Nat) : List Value := l.map Un
theorem Us_len (l : List Nat) : (Us l).length = l.length := List.length_map ..
theorem Us_get (l : List Nat) (i : Nat) (h : i < l.length) : (Us l)[i]? = some (Un (l.getD i 0)) := by simp [List.getD_eq_getElem?_getD, h]
theorem Us_set (l : List Nat) (i : Nat) (c : Nat) : Us (l.set i c) = (Us l).set i (Un c) := by simp [List.map_set]
theorem Us_one (l : List Nat) : ∀ c ∈ Us l, c.oneCell' = true := fun c hc => by obtain ⟨x, _, rfl⟩ := List.mem_map.1 hc; rfl
theorem Us_app (l m : List Nat) : Us (l ++ m) = Us l ++ Us m := List.map_append ..
theorem Us_rep (n : Nat) (x : Nat) : List.replicate n (Un x) = Us (List.replicate n x) := by simp
theorem Us_sub (l : List Nat) (lo hi : Nat) : ((Us l).take hi).drop lo = Us ((l.take hi).drop lo) := by simp [List.map_take, List.map_drop]
theorem Us_take (l : List Nat) (i : Nat) : (Us l).take i = Us (l.take i) := by simp [List.map_take]
theorem Us_drop (l : List Nat) (i : Nat) : (Us l).drop i = Us (l.drop i) := by simp [List.map_drop]
section
variable {P : Program} {E : Env P} {n : Sh} {X : Cx} {s : List K} {fr : Fr} {A A' : List Ch} {ops : Array Oper} {rest : List Oper} {d : Nat} {ty t t' : TypeId} {pos : String} {after : Array Edge} {x y : Operand} {w : World} {a b c j by_ : Nat} {z v u : Value} {el : TypeId} {dt : TypeDesc} {l : List Nat} {c0 : Code}
theorem ev_lit (m : Nat) : ev fr (.const (.int .u64 (@OfNat.ofNat Int m instOfNat))) = some (Un (@OfNat.ofNat Nat m (instOfNatNat m))) := rfl
theorem wrapN (m : Int) (k : Nat) (h : m % 18446744073709551616 = (k : Int)) : (Value.int .u64 (IntKind.u64.wrap m)) = Un k := by rw [Go.IntKind.wrap_u64, h]
theorem R_nadd (hx : ev fr x = some (Un a)) (hy : ev fr y = some (Un b)) : OpV P n fr (.binOp .add t x y t') ty w (Un ((a + b) % 18446744073709551616)) w := R_bin hx hy (by
  show Result.ok (Value.int .u64 (IntKind.u64.wrap ((a : Int) + (b : Int)))) w = _
  rw [wrapN _ ((a + b) % 18446744073709551616) (by omega)])
theorem R_nsub (hx : ev fr x = some (Un a)) (hy : ev fr y = some (Un b)) (h : b < 18446744073709551616) : OpV P n fr (.binOp .sub t x y t') ty w (Un ((a + 18446744073709551616 - b) % 18446744073709551616)) w := R_bin hx hy (by
  show Result.ok (Value.int .u64 (IntKind.u64.wrap ((a : Int) - (b : Int)))) w = _
  rw [wrapN _ ((a + 18446744073709551616 - b) % 18446744073709551616) (by omega)])
theorem R_nmul (hx : ev fr x = some (Un a)) (hy : ev fr y = some (Un b)) : OpV P n fr (.binOp .mul t x y t') ty w (Un (a * b % 18446744073709551616)) w := R_bin hx hy (by
  show Result.ok (Value.int .u64 (IntKind.u64.wrap ((a : Int) * (b : Int)))) w = _
  rw [wrapN _ (a * b % 18446744073709551616) (by rw [← Int.natCast_mul]; omega)])
theorem bv64 {k : Nat} (h : k < 18446744073709551616) : (BitVec.ofInt 64 (k : Int)).toNat = k := by
  rw [BitVec.ofInt_natCast, BitVec.toNat_ofNat]; exact Nat.mod_eq_of_lt (by omega)
theorem R_nand (hx : ev fr x = some (Un a)) (hy : ev fr y = some (Un b)) (ha : a < 18446744073709551616) (hb : b < 18446744073709551616) : OpV P n fr (.binOp .and t x y t') ty w (Un (a &&& b)) w := R_bin hx hy (by
  show Result.ok (Value.int .u64 (IntKind.u64.wrap ((BitVec.ofInt 64 (a : Int) &&& BitVec.ofInt 64 (b : Int)).toNat : Int))) w = _
  have hx : a &&& b < 2 ^ 64 := Nat.and_lt_two_pow _ (by omega)
  rw [BitVec.toNat_and, bv64 ha, bv64 hb, wrapN _ (a &&& b) (by omega)])
theorem R_nor (hx : ev fr x = some (Un a)) (hy : ev fr y = some (Un b)) (ha : a < 18446744073709551616) (hb : b < 18446744073709551616) : OpV P n fr (.binOp .or t x y t') ty w (Un (a ||| b)) w := R_bin hx hy (by
  show Result.ok (Value.int .u64 (IntKind.u64.wrap ((BitVec.ofInt 64 (a : Int) ||| BitVec.ofInt 64 (b : Int)).toNat : Int))) w = _
  have hx : a ||| b < 2 ^ 64 := Nat.or_lt_two_pow (by omega) (by omega)
  rw [BitVec.toNat_or, bv64 ha, bv64 hb, wrapN _ (a ||| b) (by omega)])
theorem R_nshl {k' : IntKind} {c : Int} (hx : ev fr x = some (Un a)) (hy : ev fr y = some (.int k' c)) (hc : 0 ≤ c) : OpV P n fr (.binOp .shl t x y t') ty w (Un (a * 2 ^ (min c.toNat 64) % 18446744073709551616)) w := ⟨fun act ha _ _ _ _ => by
  have hg : (eqGuard .shl t x y (Un a) (.int k' c)).run P w = .ok () w := rfl
  have h1 : ¬ c < 0 := by omega
  simp only [execOp, ha.ev hx, ha.ev hy]
  simp only [hg, Sem.run_bind, Result.andThen_ok]
  show (Result.andThen ((binOp .shl t (Un a) (.int k' c)).run P w) _) = _
  simp only [binOp, Op.shift, h1, if_false]
  show Result.ok (Next.value (.int .u64 (IntKind.u64.wrap ((a : Int) * 2 ^ (min c.toNat 64))))) w = _
  rw [wrapN _ (a * 2 ^ (min c.toNat 64) % 18446744073709551616) (by
    have e : (a : Int) * 2 ^ (min c.toNat 64) = ((a * 2 ^ (min c.toNat 64) : Nat) : Int) := by rw [Int.natCast_mul, Int.natCast_pow]; rfl
    rw [e]; omega)]⟩
theorem R_nshr {k' : IntKind} {c : Int} (hx : ev fr x = some (Un a)) (hy : ev fr y = some (.int k' c)) (hc : 0 ≤ c) : OpV P n fr (.binOp .shr t x y t') ty w (Un (a / 2 ^ (min c.toNat 64))) w := ⟨fun act ha _ _ _ _ => by
  have hg : (eqGuard .shr t x y (Un a) (.int k' c)).run P w = .ok () w := rfl
  have h1 : ¬ c < 0 := by omega
  have h3 : (a : Int).fdiv (2 ^ (min c.toNat 64)) = ((a / 2 ^ (min c.toNat 64) : Nat) : Int) := by
    rw [Int.fdiv_eq_ediv_of_nonneg _ (Int.le_of_lt (Int.pow_pos (by decide))), Int.natCast_ediv, Int.natCast_pow]; rfl
  simp only [execOp, ha.ev hx, ha.ev hy]
  simp only [hg, Sem.run_bind, Result.andThen_ok]
  show (Result.andThen ((binOp .shr t (Un a) (.int k' c)).run P w) _) = _
  simp only [binOp, Op.shift, h1, if_false]
  show Result.ok (Next.value (.int .u64 ((a : Int).fdiv (2 ^ (min c.toNat 64))))) w = _
  rw [h3]⟩
theorem R_nquo (hx : ev fr x = some (Un a)) (hy : ev fr y = some (Un b)) (h : b ≠ 0) (ha : a < 18446744073709551616) : OpV P n fr (.binOp .quo t x y t') ty w (Un (a / b)) w := by
  have h1 := R_quo (P := P) (n := n) (w := w) (t := t) (t' := t') (ty := ty) hx hy (by omega)
  have h2 : a / b ≤ a := Nat.div_le_self _ _
  rw [Int.tdiv_eq_ediv_of_nonneg (by omega), ← Int.natCast_ediv, wrapN _ (a / b) (by generalize a / b = q at h2 ⊢; omega)] at h1
  exact h1
theorem R_nrem (hx : ev fr x = some (Un a)) (hy : ev fr y = some (Un b)) (h : b ≠ 0) : OpV P n fr (.binOp .rem t x y t') ty w (Un (a % b)) w := by
  have h1 := R_rem (P := P) (n := n) (w := w) (t := t) (t' := t') (ty := ty) hx hy (by omega)
  rw [Int.tmod_eq_emod_of_nonneg (by omega), ← Int.natCast_emod] at h1
  exact h1
/-! sums, with and without a carry out of the word -/
theorem nad (k : TO E n X s ops rest ((d, Un (a + b)) :: fr) A) (hx : ev fr x = some (Un a) := by first | with_reducible exact ev_lit _ | rfl) (hy : ev fr y = some (Un b) := by first | with_reducible exact ev_lit _ | rfl) (hb : a + b < 18446744073709551616 := by omega) (hd : Nat.blt d n.n = true := by rfl) : TO E n X s ops (⟨some d, .binOp .add t x y t', ty, pos, after, none⟩ :: rest) fr A :=
  TO.val (fun _ _ => by have := R_nadd (P := P) (n := n) (w := ‹World›) (t := t) (t' := t') (ty := ty) hx hy; rwa [Nat.mod_eq_of_lt hb] at this) k hd
theorem nsb (k : TO E n X s ops rest ((d, Un (a - b)) :: fr) A) (hx : ev fr x = some (Un a) := by first | with_reducible exact ev_lit _ | rfl) (hy : ev fr y = some (Un b) := by first | with_reducible exact ev_lit _ | rfl) (hb : b ≤ a ∧ a < 18446744073709551616 := by omega) (hd : Nat.blt d n.n = true := by rfl) : TO E n X s ops (⟨some d, .binOp .sub t x y t', ty, pos, after, none⟩ :: rest) fr A :=
  TO.val (fun _ _ => by have := R_nsub (P := P) (n := n) (w := ‹World›) (t := t) (t' := t') (ty := ty) hx hy (by omega); rwa [show (a + 18446744073709551616 - b) % 18446744073709551616 = a - b by omega] at this) k hd
theorem nsbm (k : TO E n X s ops rest ((d, Un ((a + 18446744073709551616 - b) % 18446744073709551616)) :: fr) A) (hx : ev fr x = some (Un a) := by first | with_reducible exact ev_lit _ | rfl) (hy : ev fr y = some (Un b) := by first | with_reducible exact ev_lit _ | rfl) (hb : b < 18446744073709551616 := by omega) (hd : Nat.blt d n.n = true := by rfl) : TO E n X s ops (⟨some d, .binOp .sub t x y t', ty, pos, after, none⟩ :: rest) fr A := TO.val (fun _ _ => R_nsub hx hy hb) k hd
theorem nml (k : TO E n X s ops rest ((d, Un (a * b)) :: fr) A) (hx : ev fr x = some (Un a) := by first | with_reducible exact ev_lit _ | rfl) (hy : ev fr y = some (Un b) := by first | with_reducible exact ev_lit _ | rfl) (hb : a * b < 18446744073709551616 := by first | assumption | omega) (hd : Nat.blt d n.n = true := by rfl) : TO E n X s ops (⟨some d, .binOp .mul t x y t', ty, pos, after, none⟩ :: rest) fr A :=
  TO.val (fun _ _ => by have := R_nmul (P := P) (n := n) (w := ‹World›) (t := t) (t' := t') (ty := ty) hx hy; rwa [Nat.mod_eq_of_lt hb] at this) k hd
theorem nmlm (k : TO E n X s ops rest ((d, Un (a * b % 18446744073709551616)) :: fr) A) (hx : ev fr x = some (Un a) := by first | with_reducible exact ev_lit _ | rfl) (hy : ev fr y = some (Un b) := by first | with_reducible exact ev_lit _ | rfl) (hd : Nat.blt d n.n = true := by rfl) : TO E n X s ops (⟨some d, .binOp .mul t x y t', ty, pos, after, none⟩ :: rest) fr A := TO.val (fun _ _ => R_nmul hx hy) k hd
theorem nmk (k : TO E n X s ops rest ((d, Un (a % 4294967296)) :: fr) A) (hx : ev fr x = some (Un a) := by first | with_reducible exact ev_lit _ | rfl) (hy : ev fr y = some (Un 4294967295) := by rfl) (ha : a < 18446744073709551616 := by omega) (hd : Nat.blt d n.n = true := by rfl) : TO E n X s ops (⟨some d, .binOp .and t x y t', ty, pos, after, none⟩ :: rest) fr A :=
  TO.val (fun _ _ => by have := R_nand (P := P) (n := n) (w := ‹World›) (t := t) (t' := t') (ty := ty) hx hy ha (by decide); rwa [show a &&& 4294967295 = a % 4294967296 from Nat.and_two_pow_sub_one_eq_mod a 32] at this) k hd
theorem nor (k : TO E n X s ops rest ((d, Un (a ||| b)) :: fr) A) (hx : ev fr x = some (Un a) := by first | with_reducible exact ev_lit _ | rfl) (hy : ev fr y = some (Un b) := by first | with_reducible exact ev_lit _ | rfl) (ha : a < 18446744073709551616 := by omega) (hb : b < 18446744073709551616 := by omega) (hd : Nat.blt d n.n = true := by rfl) : TO E n X s ops (⟨some d, .binOp .or t x y t', ty, pos, after, none⟩ :: rest) fr A := TO.val (fun _ _ => R_nor hx hy ha hb) k hd
theorem nsl {k' : IntKind} {c : Int} (k : TO E n X s ops rest ((d, Un (a * 2 ^ (min c.toNat 64) % 18446744073709551616)) :: fr) A) (hx : ev fr x = some (Un a) := by first | with_reducible exact ev_lit _ | rfl) (hy : ev fr y = some (.int k' c) := by rfl) (hc : 0 ≤ c := by omega) (hd : Nat.blt d n.n = true := by rfl) : TO E n X s ops (⟨some d, .binOp .shl t x y t', ty, pos, after, none⟩ :: rest) fr A := TO.val (fun _ _ => R_nshl hx hy hc) k hd
theorem nsr {k' : IntKind} {c : Int} (k : TO E n X s ops rest ((d, Un (a / 2 ^ (min c.toNat 64))) :: fr) A) (hx : ev fr x = some (Un a) := by first | with_reducible exact ev_lit _ | rfl) (hy : ev fr y = some (.int k' c) := by rfl) (hc : 0 ≤ c := by omega) (hd : Nat.blt d n.n = true := by rfl) : TO E n X s ops (⟨some d, .binOp .shr t x y t', ty, pos, after, none⟩ :: rest) fr A := TO.val (fun _ _ => R_nshr hx hy hc) k hd
theorem nqu (k : TO E n X s ops rest ((d, Un (a / b)) :: fr) A) (hx : ev fr x = some (Un a) := by first | with_reducible exact ev_lit _ | rfl) (hy : ev fr y = some (Un b) := by first | with_reducible exact ev_lit _ | rfl) (h : b ≠ 0 := by omega) (ha : a < 18446744073709551616 := by omega) (hd : Nat.blt d n.n = true := by rfl) : TO E n X s ops (⟨some d, .binOp .quo t x y t', ty, pos, after, none⟩ :: rest) fr A := TO.val (fun _ _ => R_nquo hx hy h ha) k hd
theorem ntu {k0 : IntKind} {m : Int} (k : TO E n X s ops rest ((d, Un m.toNat) :: fr) A) (hx : ev fr x = some (.int k0 m) := by rfl) (hs : (lk E.und t).isSome = true := by rfl) (ht : lk E.und t' = some (.int .u64) := by rfl) (hb : 0 ≤ m ∧ m < 18446744073709551616 := by omega) (hd : Nat.blt d n.n = true := by rfl) : TO E n X s ops (⟨some d, .convert t t' x, ty, pos, after, none⟩ :: rest) fr A :=
  TO.val (fun _ _ => by have := R_conv (P := P) (n := n) (w := ‹World›) (ty := ty) ht hs hx; rwa [wrapN m m.toNat (by omega)] at this) k hd
theorem qnqu (k : TQ E n X s ops rest ((d, Un (a / b)) :: fr) A) (hx : ev fr x = some (Un a) := by first | with_reducible exact ev_lit _ | rfl) (hy : ev fr y = some (Un b) := by first | with_reducible exact ev_lit _ | rfl) (h : b ≠ 0 := by omega) (ha : a < 18446744073709551616 := by omega) (hd : Nat.blt d n.n = true := by rfl) : TQ E n X s ops (⟨some d, .binOp .quo t x y t', ty, pos, after, none⟩ :: rest) fr A := TQ.val (fun _ _ => R_nquo hx hy h ha) k hd
theorem qnrm (k : TQ E n X s ops rest ((d, Un (a % b)) :: fr) A) (hx : ev fr x = some (Un a) := by first | with_reducible exact ev_lit _ | rfl) (hy : ev fr y = some (Un b) := by first | with_reducible exact ev_lit _ | rfl) (h : b ≠ 0 := by omega) (hd : Nat.blt d n.n = true := by rfl) : TQ E n X s ops (⟨some d, .binOp .rem t x y t', ty, pos, after, none⟩ :: rest) fr A := TQ.val (fun _ _ => R_nrem hx hy h) k hd
theorem qnsl {k' : IntKind} {c : Int} (k : TQ E n X s ops rest ((d, Un (a * 2 ^ (min c.toNat 64) % 18446744073709551616)) :: fr) A) (hx : ev fr x = some (Un a) := by first | with_reducible exact ev_lit _ | rfl) (hy : ev fr y = some (.int k' c) := by rfl) (hc : 0 ≤ c := by omega) (hd : Nat.blt d n.n = true := by rfl) : TQ E n X s ops (⟨some d, .binOp .shl t x y t', ty, pos, after, none⟩ :: rest) fr A := TQ.val (fun _ _ => R_nshl hx hy hc) k hd
theorem qnsr {k' : IntKind} {c : Int} (k : TQ E n X s ops rest ((d, Un (a / 2 ^ (min c.toNat 64))) :: fr) A) (hx : ev fr x = some (Un a) := by first | with_reducible exact ev_lit _ | rfl) (hy : ev fr y = some (.int k' c) := by rfl) (hc : 0 ≤ c := by omega) (hd : Nat.blt d n.n = true := by rfl) : TQ E n X s ops (⟨some d, .binOp .shr t x y t', ty, pos, after, none⟩ :: rest) fr A := TQ.val (fun _ _ => R_nshr hx hy hc) k hd
/-! digits in slices -/
theorem lu (k : TO E n X s ops rest ((d, Un (l.getD j 0)) :: fr) A) (hx : ev fr x = some (.pointer (some (addrAt v j))) := by rfl) (hh : Has A (vw v (Us l)) := by first | (apply has_vw; (repeat (first | apply List.Mem.head | apply List.Mem.tail)); first | done | fail) | (apply has_own; (repeat (first | apply List.Mem.head | apply List.Mem.tail)); first | done | fail) | (apply has_ro; (repeat (first | apply List.Mem.head | apply List.Mem.tail)); first | done | fail) | apply has_nil | ((with_reducible apply has_el); (focus (first | (apply has_vels; (repeat (first | apply List.Mem.head | apply List.Mem.tail)); first | done | fail) | (apply has_rels; (repeat (first | apply List.Mem.head | apply List.Mem.tail)); first | done | fail))); omega) | (apply has_pt; (repeat (first | apply List.Mem.head | apply List.Mem.tail)); first | done | fail) | (apply has_lpt; (repeat (first | apply List.Mem.head | apply List.Mem.tail)); first | done | fail) | (apply has_vels; (repeat (first | apply List.Mem.head | apply List.Mem.tail)); first | done | fail) | (apply has_rels; (repeat (first | apply List.Mem.head | apply List.Mem.tail)); first | done | fail) | with_reducible assumption | ((with_reducible apply has_elg); (focus (first | (apply has_velg; (repeat (first | apply List.Mem.head | apply List.Mem.tail)); first | done | fail) | (apply has_relg; (repeat (first | apply List.Mem.head | apply List.Mem.tail)); first | done | fail))); omega) | (apply has_velg; (repeat (first | apply List.Mem.head | apply List.Mem.tail)); first | done | fail) | (apply has_relg; (repeat (first | apply List.Mem.head | apply List.Mem.tail)); first | done | fail) | (apply has_vwf; (repeat (first | apply List.Mem.head | apply List.Mem.tail)); first | done | fail)) (hj : j < l.length := by omega)
    (ht : lk E.und t = some dt := by rfl) (hg : aggB dt = false := by rfl) (hd : Nat.blt d n.n = true := by rfl) : TO E n X s ops (⟨some d, .load t x, ty, pos, after, none⟩ :: rest) fr A := le k hx hh (Us_get l j hj) ht hg hd
theorem lue (he : l.getD j 0 = a) (k : TO E n X s ops rest ((d, Un a) :: fr) A) (hx : ev fr x = some (.pointer (some (addrAt v j))) := by rfl) (hh : Has A (vw v (Us l)) := by first | (apply has_vw; (repeat (first | apply List.Mem.head | apply List.Mem.tail)); first | done | fail) | (apply has_own; (repeat (first | apply List.Mem.head | apply List.Mem.tail)); first | done | fail) | (apply has_ro; (repeat (first | apply List.Mem.head | apply List.Mem.tail)); first | done | fail) | apply has_nil | ((with_reducible apply has_el); (focus (first | (apply has_vels; (repeat (first | apply List.Mem.head | apply List.Mem.tail)); first | done | fail) | (apply has_rels; (repeat (first | apply List.Mem.head | apply List.Mem.tail)); first | done | fail))); omega) | (apply has_pt; (repeat (first | apply List.Mem.head | apply List.Mem.tail)); first | done | fail) | (apply has_lpt; (repeat (first | apply List.Mem.head | apply List.Mem.tail)); first | done | fail) | (apply has_vels; (repeat (first | apply List.Mem.head | apply List.Mem.tail)); first | done | fail) | (apply has_rels; (repeat (first | apply List.Mem.head | apply List.Mem.tail)); first | done | fail) | with_reducible assumption | ((with_reducible apply has_elg); (focus (first | (apply has_velg; (repeat (first | apply List.Mem.head | apply List.Mem.tail)); first | done | fail) | (apply has_relg; (repeat (first | apply List.Mem.head | apply List.Mem.tail)); first | done | fail))); omega) | (apply has_velg; (repeat (first | apply List.Mem.head | apply List.Mem.tail)); first | done | fail) | (apply has_relg; (repeat (first | apply List.Mem.head | apply List.Mem.tail)); first | done | fail) | (apply has_vwf; (repeat (first | apply List.Mem.head | apply List.Mem.tail)); first | done | fail)) (hj : j < l.length := by omega)
    (ht : lk E.und t = some dt := by rfl) (hg : aggB dt = false := by rfl) (hd : Nat.blt d n.n = true := by rfl) : TO E n X s ops (⟨some d, .load t x, ty, pos, after, none⟩ :: rest) fr A := lu (l := l) (by rw [he]; exact k) hx hh hj ht hg hd
theorem qlu (k : TQ E n X s ops rest ((d, Un (l.getD j 0)) :: fr) A) (hx : ev fr x = some (.pointer (some (addrAt v j))) := by rfl) (hh : Has A (vw v (Us l)) := by first | (apply has_vw; (repeat (first | apply List.Mem.head | apply List.Mem.tail)); first | done | fail) | (apply has_own; (repeat (first | apply List.Mem.head | apply List.Mem.tail)); first | done | fail) | (apply has_ro; (repeat (first | apply List.Mem.head | apply List.Mem.tail)); first | done | fail) | apply has_nil | ((with_reducible apply has_el); (focus (first | (apply has_vels; (repeat (first | apply List.Mem.head | apply List.Mem.tail)); first | done | fail) | (apply has_rels; (repeat (first | apply List.Mem.head | apply List.Mem.tail)); first | done | fail))); omega) | (apply has_pt; (repeat (first | apply List.Mem.head | apply List.Mem.tail)); first | done | fail) | (apply has_lpt; (repeat (first | apply List.Mem.head | apply List.Mem.tail)); first | done | fail) | (apply has_vels; (repeat (first | apply List.Mem.head | apply List.Mem.tail)); first | done | fail) | (apply has_rels; (repeat (first | apply List.Mem.head | apply List.Mem.tail)); first | done | fail) | with_reducible assumption | ((with_reducible apply has_elg); (focus (first | (apply has_velg; (repeat (first | apply List.Mem.head | apply List.Mem.tail)); first | done | fail) | (apply has_relg; (repeat (first | apply List.Mem.head | apply List.Mem.tail)); first | done | fail))); omega) | (apply has_velg; (repeat (first | apply List.Mem.head | apply List.Mem.tail)); first | done | fail) | (apply has_relg; (repeat (first | apply List.Mem.head | apply List.Mem.tail)); first | done | fail) | (apply has_vwf; (repeat (first | apply List.Mem.head | apply List.Mem.tail)); first | done | fail)) (hj : j < l.length := by omega)
    (ht : lk E.und t = some dt := by rfl) (hg : aggB dt = false := by rfl) (hd : Nat.blt d n.n = true := by rfl) : TQ E n X s ops (⟨some d, .load t x, ty, pos, after, none⟩ :: rest) fr A := qle k hx hh (Us_get l j hj) ht hg hd
theorem sou (k : TO E n X s ops rest fr (own el v (Us (l.set j a)) :: A')) (hx : ev fr x = some (.pointer (some (addrAt v j))) := by rfl) (hm : Tk (own el v (Us l)) A A' := by (repeat (first | apply Tk.here | apply Tk.there)); first | done | fail) (hy : ev fr y = some (Un a) := by first | with_reducible exact ev_lit _ | rfl)
    (hj : j < l.length := by omega) (ht : lk E.inf t = some (z, 1, by_) := by rfl) : TO E n X s ops (⟨none, .store t x y, ty, pos, after, none⟩ :: rest) fr A := so k hx hm hy (by rw [Us_len]; exact hj) (Us_set l j a) rfl ht
theorem apu {news : List Nat} {e : TypeId} (k : ∀ v', TO E n X s ops rest ((d, v') :: fr) (own e v' (Us (l ++ news)) :: A')) (hx : ev fr x = some v := by rfl) (hy : ev fr y = some u := by rfl) (hm : Tk (own e v (Us l)) A A' := by (repeat (first | apply Tk.here | apply Tk.there)); first | done | fail) (hu : Has A' (vw u (Us news)) := by first | (apply has_vw; (repeat (first | apply List.Mem.head | apply List.Mem.tail)); first | done | fail) | (apply has_own; (repeat (first | apply List.Mem.head | apply List.Mem.tail)); first | done | fail) | (apply has_ro; (repeat (first | apply List.Mem.head | apply List.Mem.tail)); first | done | fail) | apply has_nil | ((with_reducible apply has_el); (focus (first | (apply has_vels; (repeat (first | apply List.Mem.head | apply List.Mem.tail)); first | done | fail) | (apply has_rels; (repeat (first | apply List.Mem.head | apply List.Mem.tail)); first | done | fail))); omega) | (apply has_pt; (repeat (first | apply List.Mem.head | apply List.Mem.tail)); first | done | fail) | (apply has_lpt; (repeat (first | apply List.Mem.head | apply List.Mem.tail)); first | done | fail) | (apply has_vels; (repeat (first | apply List.Mem.head | apply List.Mem.tail)); first | done | fail) | (apply has_rels; (repeat (first | apply List.Mem.head | apply List.Mem.tail)); first | done | fail) | with_reducible assumption | ((with_reducible apply has_elg); (focus (first | (apply has_velg; (repeat (first | apply List.Mem.head | apply List.Mem.tail)); first | done | fail) | (apply has_relg; (repeat (first | apply List.Mem.head | apply List.Mem.tail)); first | done | fail))); omega) | (apply has_velg; (repeat (first | apply List.Mem.head | apply List.Mem.tail)); first | done | fail) | (apply has_relg; (repeat (first | apply List.Mem.head | apply List.Mem.tail)); first | done | fail) | (apply has_vwf; (repeat (first | apply List.Mem.head | apply List.Mem.tail)); first | done | fail))
    (hl : l.length + news.length ≤ 17592186044416 := by first | omega | (simp only [List.length_append, List.length_cons, List.length_nil]; omega)) (ht : lk E.und t = some (.slice e) := by rfl) (he : lk E.inf e = some (z, 1, by_) := by rfl) (hz : z.cells.size = 1 := by rfl) (hb : by_ ≤ 8 := by decide)
    (hd : Nat.blt d n.n = true := by rfl) : TO E n X s ops (⟨some d, .call ⟨.builtin .append, #[x, y], #[t, t]⟩, ty, pos, after, none⟩ :: rest) fr A :=
  ap (fun v' => by have := k v'; rwa [Us_app] at this) hx hy hm hu (Us_one news) ht he hz (by rw [Us_len, Us_len]; have := Nat.mul_le_mul hl hb; omega) (by rw [Us_len, Us_len]; omega) hd
theorem mku {k1 : IntKind} {m : Int} {e : TypeId} (k : ∀ v', TO E n X s ops rest ((d, v') :: fr) (own e v' (Us (List.replicate m.toNat 0)) :: A)) (hx : ev fr x = some (.int k1 m) := by rfl) (hy : ev fr y = some (.int k1 m) := by rfl) (ht : lk E.und t = some (.slice e) := by rfl)
    (he : lk E.inf e = some (Un 0, 1, by_) := by rfl) (h0 : 0 ≤ m := by omega) (hby : by_ * m.toNat ≤ 281474976710656 := by omega) (h63 : m ≤ 9223372036854775807 := by omega) (hd : Nat.blt d n.n = true := by rfl) :
    TO E n X s ops (⟨some d, .makeSlice t x y, ty, pos, after, none⟩ :: rest) fr A := mk (fun v' => by have := k v'; rwa [← Us_rep] at this) hx hy ht he rfl h0 hby h63 hd
theorem slu {m : Nat} {parts : List (Nat × Operand)} {e : TypeId} (l : List Nat) (k : ∀ v', v'.oneCell' = true → TO E n X s ops rest ((d, v') :: fr) (own e v' (Us l) :: A)) (hp : parts = idxP 0 (parts.map (·.2)) := by rfl) (hv : evs fr (parts.map (·.2)) = some (Us l) := by rfl)
    (hk : l.length = m := by rfl) (hk0 : Nat.blt 0 m = true := by rfl) (hkm : Nat.ble m 16777216 = true := by rfl) (ht : lk E.und t = some (.slice e) := by rfl) (he : lk E.inf e = some (z, 1, by_) := by rfl) (hd : Nat.blt d n.n = true := by rfl) :
    TO E n X s ops (⟨some d, .buildSlice t m parts.toArray, ty, pos, after, none⟩ :: rest) fr A := sli (fun v => TO.one (v := v) (xs := Us l) (fun h => k v h) (by first | (apply has_vw; (repeat (first | apply List.Mem.head | apply List.Mem.tail)); first | done | fail) | (apply has_own; (repeat (first | apply List.Mem.head | apply List.Mem.tail)); first | done | fail) | (apply has_ro; (repeat (first | apply List.Mem.head | apply List.Mem.tail)); first | done | fail) | apply has_nil | ((with_reducible apply has_el); (focus (first | (apply has_vels; (repeat (first | apply List.Mem.head | apply List.Mem.tail)); first | done | fail) | (apply has_rels; (repeat (first | apply List.Mem.head | apply List.Mem.tail)); first | done | fail))); omega) | (apply has_pt; (repeat (first | apply List.Mem.head | apply List.Mem.tail)); first | done | fail) | (apply has_lpt; (repeat (first | apply List.Mem.head | apply List.Mem.tail)); first | done | fail) | (apply has_vels; (repeat (first | apply List.Mem.head | apply List.Mem.tail)); first | done | fail) | (apply has_rels; (repeat (first | apply List.Mem.head | apply List.Mem.tail)); first | done | fail) | with_reducible assumption | ((with_reducible apply has_elg); (focus (first | (apply has_velg; (repeat (first | apply List.Mem.head | apply List.Mem.tail)); first | done | fail) | (apply has_relg; (repeat (first | apply List.Mem.head | apply List.Mem.tail)); first | done | fail))); omega) | (apply has_velg; (repeat (first | apply List.Mem.head | apply List.Mem.tail)); first | done | fail) | (apply has_relg; (repeat (first | apply List.Mem.head | apply List.Mem.tail)); first | done | fail) | (apply has_vwf; (repeat (first | apply List.Mem.head | apply List.Mem.tail)); first | done | fail))) hp hv (Us_one l) (by rw [Us_len]; exact hk) hk0 hkm ht he hd
theorem TC.lenu (k : l.length ≤ 9223372036854775807 → TC E n X s c0 fr A) (hh : Has A (vw v (Us l)) := by first | (apply has_vw; (repeat (first | apply List.Mem.head | apply List.Mem.tail)); first | done | fail) | (apply has_own; (repeat (first | apply List.Mem.head | apply List.Mem.tail)); first | done | fail) | (apply has_ro; (repeat (first | apply List.Mem.head | apply List.Mem.tail)); first | done | fail) | apply has_nil | ((with_reducible apply has_el); (focus (first | (apply has_vels; (repeat (first | apply List.Mem.head | apply List.Mem.tail)); first | done | fail) | (apply has_rels; (repeat (first | apply List.Mem.head | apply List.Mem.tail)); first | done | fail))); omega) | (apply has_pt; (repeat (first | apply List.Mem.head | apply List.Mem.tail)); first | done | fail) | (apply has_lpt; (repeat (first | apply List.Mem.head | apply List.Mem.tail)); first | done | fail) | (apply has_vels; (repeat (first | apply List.Mem.head | apply List.Mem.tail)); first | done | fail) | (apply has_rels; (repeat (first | apply List.Mem.head | apply List.Mem.tail)); first | done | fail) | with_reducible assumption | ((with_reducible apply has_elg); (focus (first | (apply has_velg; (repeat (first | apply List.Mem.head | apply List.Mem.tail)); first | done | fail) | (apply has_relg; (repeat (first | apply List.Mem.head | apply List.Mem.tail)); first | done | fail))); omega) | (apply has_velg; (repeat (first | apply List.Mem.head | apply List.Mem.tail)); first | done | fail) | (apply has_relg; (repeat (first | apply List.Mem.head | apply List.Mem.tail)); first | done | fail) | (apply has_vwf; (repeat (first | apply List.Mem.head | apply List.Mem.tail)); first | done | fail)) : TC E n X s c0 fr A := TC.fact (vw_len hh) fun h => k (by rwa [Us_len] at h)
theorem R_cx {f : FuncId} {xs : List Operand} {ats : Array TypeId} {vs : List Value} (hf : ∀ w, (callFunc f vs.toArray).run P w = .ok (.value v) w) (hv : evs fr xs = some vs) : OpV P n fr (.call ⟨.value (.func f), xs.toArray, ats⟩) ty w v w := ⟨fun act ha _ _ _ _ => by
  have h1 := hf w
  have h2 : (Array.map act.eval xs.toArray) = vs.toArray := by simp [ha.evs hv]
  simp only [execOp, resolve, h2]
  show (Sem.run P ((Deferred.ofValue (.func (.func f) #[] #[]) vs.toArray).bind fun d => invoke d.target d.args) w) = _
  simp only [Deferred.ofValue]
  simp [invoke, h1, Sem.bind, bind, pure]⟩
theorem cx {f : FuncId} {xs : List Operand} {ats : Array TypeId} {vs : List Value} (hf : ∀ w, (callFunc f vs.toArray).run P w = .ok (.value v) w) (k : TO E n X s ops rest ((d, v) :: fr) A) (hv : evs fr xs = some vs := by rfl) (hd : Nat.blt d n.n = true := by rfl) : TO E n X s ops (⟨some d, .call ⟨.value (.func f), xs.toArray, ats⟩, ty, pos, after, none⟩ :: rest) fr A :=
  TO.val (fun _ _ => R_cx hf hv) k hd
end
/-! .. with the outcome named -/
section
variable {P : Program} {E : Env P} {n : Sh} {X : Cx} {s : List K} {fr : Fr} {A : List Ch} {ops : Array Oper} {rest : List Oper} {d : Nat} {ty t t' : TypeId} {pos : String} {after : Array Edge} {x y : Operand} {a b r : Nat} {k' : IntKind} {c : Int} {o : Op} {v u : Value}
theorem nsbe (he : (a + 18446744073709551616 - b) % 18446744073709551616 = r) (k : TO E n X s ops rest ((d, Un r) :: fr) A) (hx : ev fr x = some (Un a) := by first | with_reducible exact ev_lit _ | rfl) (hy : ev fr y = some (Un b) := by first | with_reducible exact ev_lit _ | rfl) (hb : b < 18446744073709551616 := by omega) (hd : Nat.blt d n.n = true := by rfl) : TO E n X s ops (⟨some d, .binOp .sub t x y t', ty, pos, after, none⟩ :: rest) fr A := nsbm (by rw [he]; exact k) hx hy hb hd
theorem nmle (he : a * b % 18446744073709551616 = r) (k : TO E n X s ops rest ((d, Un r) :: fr) A) (hx : ev fr x = some (Un a) := by first | with_reducible exact ev_lit _ | rfl) (hy : ev fr y = some (Un b) := by first | with_reducible exact ev_lit _ | rfl) (hd : Nat.blt d n.n = true := by rfl) : TO E n X s ops (⟨some d, .binOp .mul t x y t', ty, pos, after, none⟩ :: rest) fr A := nmlm (by rw [he]; exact k) hx hy hd
theorem nore (he : a ||| b = r) (k : TO E n X s ops rest ((d, Un r) :: fr) A) (hx : ev fr x = some (Un a) := by first | with_reducible exact ev_lit _ | rfl) (hy : ev fr y = some (Un b) := by first | with_reducible exact ev_lit _ | rfl) (ha : a < 18446744073709551616 := by omega) (hb : b < 18446744073709551616 := by omega) (hd : Nat.blt d n.n = true := by rfl) : TO E n X s ops (⟨some d, .binOp .or t x y t', ty, pos, after, none⟩ :: rest) fr A := nor (by rw [he]; exact k) hx hy ha hb hd
theorem nsle (he : a * 2 ^ (min c.toNat 64) % 18446744073709551616 = r) (k : TO E n X s ops rest ((d, Un r) :: fr) A) (hx : ev fr x = some (Un a) := by first | with_reducible exact ev_lit _ | rfl) (hy : ev fr y = some (.int k' c) := by rfl) (hc : 0 ≤ c := by omega) (hd : Nat.blt d n.n = true := by rfl) : TO E n X s ops (⟨some d, .binOp .shl t x y t', ty, pos, after, none⟩ :: rest) fr A := nsl (by rw [he]; exact k) hx hy hc hd
theorem nsre (he : a / 2 ^ (min c.toNat 64) = r) (k : TO E n X s ops rest ((d, Un r) :: fr) A) (hx : ev fr x = some (Un a) := by first | with_reducible exact ev_lit _ | rfl) (hy : ev fr y = some (.int k' c) := by rfl) (hc : 0 ≤ c := by omega) (hd : Nat.blt d n.n = true := by rfl) : TO E n X s ops (⟨some d, .binOp .shr t x y t', ty, pos, after, none⟩ :: rest) fr A := nsr (by rw [he]; exact k) hx hy hc hd
theorem nmke (he : a % 4294967296 = r) (k : TO E n X s ops rest ((d, Un r) :: fr) A) (hx : ev fr x = some (Un a) := by first | with_reducible exact ev_lit _ | rfl) (hy : ev fr y = some (Un 4294967295) := by rfl) (ha : a < 18446744073709551616 := by omega) (hd : Nat.blt d n.n = true := by rfl) : TO E n X s ops (⟨some d, .binOp .and t x y t', ty, pos, after, none⟩ :: rest) fr A := nmk (by rw [he]; exact k) hx hy ha hd
theorem nque (he : a / b = r) (k : TO E n X s ops rest ((d, Un r) :: fr) A) (hx : ev fr x = some (Un a) := by first | with_reducible exact ev_lit _ | rfl) (hy : ev fr y = some (Un b) := by first | with_reducible exact ev_lit _ | rfl) (h : b ≠ 0 := by omega) (ha : a < 18446744073709551616 := by omega) (hd : Nat.blt d n.n = true := by rfl) : TO E n X s ops (⟨some d, .binOp .quo t x y t', ty, pos, after, none⟩ :: rest) fr A := nqu (by rw [he]; exact k) hx hy h ha hd
end
theorem or_add {a b k : Nat} (hb : b < 2 ^ k) : 2 ^ k * a ||| b = 2 ^ k * a + b := (Nat.two_pow_add_eq_or_of_lt hb a).symm
/-! gates: words alone -/
section
variable {P : Program} {E : Env P} {n : Sh} {X : Cx} {s : List K} {fr : Fr} {A : List Ch} {ops : Array Oper} {rest : List Oper} {d : Nat} {ty t' : TypeId} {pos : String} {after : Array Edge} {x y : Operand} {op : BinOp}
theorem nao (h : TO E n X s ops (⟨some d, .binOp op 45 x y t', ty, pos, after, none⟩ :: rest) fr A) : TO E n X s ops (⟨some d, .binOp op 45 x y t', ty, pos, after, none⟩ :: rest) fr A := h
theorem naou (h : TO E n X s ops (⟨some d, .binOp op 72 x y t', ty, pos, after, none⟩ :: rest) fr A) : TO E n X s ops (⟨some d, .binOp op 72 x y t', ty, pos, after, none⟩ :: rest) fr A := h
theorem qnao (h : TQ E n X s ops (⟨some d, .binOp op 45 x y t', ty, pos, after, none⟩ :: rest) fr A) : TQ E n X s ops (⟨some d, .binOp op 45 x y t', ty, pos, after, none⟩ :: rest) fr A := h
end
/-! the library's functions of bits -/
def add64 (a b c : Nat) : Value := .tuple #[Un ((a + b + c) % 18446744073709551616), Un ((a + b + c) / 18446744073709551616)]
def sub64 (a b c : Nat) : Value := .tuple #[Un ((a + 18446744073709551616 - b - c) % 18446744073709551616), Un (if a < b + c then 1 else 0)]
theorem call_add64 (a b c : Nat) (hc : c ≤ 1) (w : World) : (callFunc 147 #[Un a, Un b, Un c]).run Tryz.prog w = .ok (.value (add64 a b c)) w := by
  rw [run_callFunc_extern Tryz.func147 (by kernel_rfl) (by kernel_rfl) (by kernel_rfl) (e := add64Entry) (by kernel_rfl), run_add64 a b c (by omega) (by omega) (by omega) (by omega)]
  simp only [Result.andThen, add64]
  congr 5 <;> omega
theorem call_sub64 (a b c : Nat) (hc : c ≤ 1) (w : World) : (callFunc 187 #[Un a, Un b, Un c]).run Tryz.prog w = .ok (.value (sub64 a b c)) w := by
  rw [run_callFunc_extern Tryz.func187 (by kernel_rfl) (by kernel_rfl) (by kernel_rfl) (e := sub64Entry) (by kernel_rfl), run_sub64 a b c hc]
  rfl
theorem Tr.of_calls {P : Program} {f : FuncId} {args : List Value} {v : Value} (hc : Callable P f) (h : ∀ w, Calls P f args.toArray w fun e w' => e = .returned v ∧ w' = w) : Tr P f args [] [] fun u D => u = v ∧ D = [] :=
  ⟨fun w _ => ⟨hc, (h w).mono fun e w' ⟨he, hw⟩ => ⟨v, he, by subst hw; exact ⟨[], ⟨rfl, rfl⟩, Sat.nil _, Mv.refl _ _, fun _ h => nomatch h⟩⟩⟩, fun _ h => nomatch h⟩
def mul64 (a b : Nat) : Value := .tuple #[Un (a * b / 18446744073709551616), Un (a * b % 18446744073709551616)]
theorem Mul64_tr (a b : Nat) (ha : a < 18446744073709551616) (hb : b < 18446744073709551616) : Tr Tryz.prog 146 [Un a, Un b] [] [] fun v D => v = mul64 a b ∧ D = [] :=
  Tr.of_calls ⟨_, Tryz.func146, rfl, rfl⟩ fun w => Any.bits_Mul64 laysMul a b ha hb w
theorem Len64_tr (a : Nat) (ha : a < 18446744073709551616) : Tr Tryz.prog 124 [Un a] [] [] fun v D => v = I (Lib.bitLen a) ∧ D = [] :=
  Tr.of_calls ⟨_, Tryz.func124, rfl, rfl⟩ fun w => by have := Any.bits_Len64 laysLen a w (by omega) (by omega); rwa [Int.toNat_natCast] at this
theorem LZ64_tr (a : Nat) (ha : a < 18446744073709551616) : Tr Tryz.prog 148 [Un a] [] [] fun v D => v = I (64 - (Lib.bitLen a : Int)) ∧ D = [] :=
  Tr.of_calls ⟨_, Tryz.func148, rfl, rfl⟩ fun w => by have := Any.bits_LeadingZeros64 laysLz a w (by omega) (by omega); rwa [Int.toNat_natCast] at this
section
variable {E : Env Tryz.prog} {n : Sh} {X : Cx} {s : List K} {fr : Fr} {A : List Ch} {ops : Array Oper} {rest : List Oper} {d : Nat} {ty : TypeId} {pos : String} {after : Array Edge} {xs : List Operand} {ats : Array TypeId} {a b c : Nat}
theorem cadd (hc : c ≤ 1) (k : TO E n X s ops rest ((d, add64 a b c) :: fr) A) (hv : evs fr xs = some [Un a, Un b, Un c] := by rfl) (hd : Nat.blt d n.n = true := by rfl) : TO E n X s ops (⟨some d, .call ⟨.value (.func 147), xs.toArray, ats⟩, ty, pos, after, none⟩ :: rest) fr A := cx (call_add64 a b c hc) k hv hd
theorem csub (hc : c ≤ 1) (k : TO E n X s ops rest ((d, sub64 a b c) :: fr) A) (hv : evs fr xs = some [Un a, Un b, Un c] := by rfl) (hd : Nat.blt d n.n = true := by rfl) : TO E n X s ops (⟨some d, .call ⟨.value (.func 187), xs.toArray, ats⟩, ty, pos, after, none⟩ :: rest) fr A := cx (call_sub64 a b c hc) k hv hd
end
end Go.Art
set_option linter.unusedSimpArgs false
set_option linter.unusedVariables false
namespace Go.Art
open Go Go.Proofs Go.RowKit
abbrev TN : TypeId := 31
abbrev T64 : TypeId := 45
theorem Addr_add0 (a : Addr) : a.add 0 = a := by unfold Addr.add; simp
theorem slSub_all {w : World} {v : Value} {xs : List Value} (h : Sl w v xs) : slSub v 0 xs.length = v := by
  obtain ⟨a, c, rfl, _⟩ := h
  simp only [slSub, Nat.sub_zero]
  cases a with
  | none => simp
  | some a => simp [Addr_add0]
theorem slSub_sub (v : Value) (m k : Nat) : slSub (slSub v 0 m) 0 k = slSub v 0 k := by
  cases v with
  | slice a l c =>
    simp only [slSub, Nat.sub_zero]
    cases a with
    | none => simp
    | some a => simp [Addr_add0]
  | _ => rfl
theorem has_subu {F : List Ch} {v : Value} {l : List Nat} (h : Has F (vw v (Us l))) {lo hi : Nat} (h1 : lo ≤ hi) (h2 : hi ≤ l.length) : Has F (vw (slSub v lo hi) (Us ((l.take hi).drop lo))) := by
  rw [← Us_sub]; exact has_sub h h1 (by simpa using h2)
theorem has_take {F : List Ch} {v : Value} {l : List Nat} (h : Has F (vw v (Us l))) {k : Nat} (h2 : k ≤ l.length) : Has F (vw (slSub v 0 k) (Us (l.take k))) := has_subu h (Nat.zero_le _) h2
theorem has_drop {F : List Ch} {v : Value} {l : List Nat} (h : Has F (vw v (Us l))) {k : Nat} (h2 : k ≤ l.length) : Has F (vw (slSub v k l.length) (Us (l.drop k))) := by
  have := has_subu h h2 (Nat.le_refl _); rwa [List.take_length] at this
theorem im_take (e : TypeId) (v : Value) (l : List Nat) {k : Nat} (h2 : k ≤ l.length) : Im1 (own e v (Us l)) (own e (slSub v 0 k) (Us (l.take k))) := by
  have := im_sub e v (Us l) (lo := 0) (hi := k) (Nat.zero_le _) (by simpa using h2)
  rwa [Us_sub] at this
theorem Has.mono {F G : List Ch} {c : Ch} (h : Has F c) (i : Im G F) : Has G c := ⟨fun w hw => h.P w (i.sat w hw), h.wr, h.rd, fun b hb => i.ft b (h.ft b hb)⟩
attribute [local irreducible] Fit pt own ro vw mpc lpt vels rels mow lrc dfr
theorem trimmed_tr (v : Value) (l : List Nat) : Tr Tryz.prog 123 [v] [vw v (Us l)] [] fun u D => (∃ k, k ≤ l.length ∧ u = slSub v 0 k ∧ nv (l.drop k) = 0 ∧ Tm (l.take k)) ∧ D = [] := by
  refine Tr.enter env _ Tryz.func123 (by kernel_rfl) rfl Tryz.ntmps123 rfl (by repeat (first | exact has00 | refine has01 ?_)) fun w0 => ?_
  refine TC.fact (p := slSub v 0 l.length = v) (fun w hw => by have := slSub_all (vw_sl (hw.h (vw v (Us l)) (List.Mem.head _))); rwa [Us_len] at this) fun hv => ?_
  refine TC.lenu (v := v) (l := l) fun hlen => ?_
  repeat' first|(refine wo ?_; first|refine oa ?_)|refine sq ?_|refine rg ?_|refine xc ?_|refine nl ?_|refine bk ?_
  refine TC.loop (ι := Nat × Value) (fun i => [(0, i.2)]) (fun _ => []) (fun i => i.1 ≤ l.length ∧ i.2 = slSub v 0 i.1 ∧ nv (l.drop i.1) = 0) (fun i => i.1) (l.length, v) [] ⟨Nat.le_refl _, hv.symm, by simp [nv]⟩ ?_
  rintro ⟨k, u⟩ ⟨h1, h2, h3⟩
  dsimp only at h1 h2 h3 ⊢
  obtain ⟨m, hm⟩ : ∃ m, m = l.take k := ⟨_, rfl⟩
  have hu : Has [vw v (Us l)] (vw u (Us m)) := by rw [h2, hm]; exact has_take (has_vw (List.Mem.head _)) h1
  have hkl : m.length = k := by rw [hm]; simp; omega
  have hge : ((m.length : Int) - 1).toNat = k - 1 := by omega
  have hT : m.length = 0 ∨ m.getD (((m.length : Int) - 1).toNat) 0 ≠ 0 → Tm (l.take k) := fun h => by
    rw [← hm]; refine Tm_of (h.imp List.eq_nil_of_length_eq_zero fun h => ?_)
    rwa [hge, ← hkl] at h
  have hZ : 0 < k → m.getD (((m.length : Int) - 1).toNat) 0 = 0 → nv (l.drop (k - 1)) = 0 := fun h0 h => by
    have := nv_step l (k - 1)
    rw [show k - 1 + 1 = k by omega, h3, Nat.mul_zero, Nat.add_zero] at this
    refine this.trans (Eq.trans ?_ h)
    rw [hge, hm, List.getD_eq_getElem?_getD, List.getD_eq_getElem?_getD, List.getElem?_take, if_pos (by omega)]
  have hN : ∀ m, slSub u 0 m = slSub v 0 m := fun m => by rw [h2, slSub_sub]
  refine TC.im (B := [vw v (Us l)]) (Im.refl _) ?_
  repeat' first|(refine wo ?_; first|(refine ao ?_; first|refine aw ?_|refine oa ?_)|refine lu ?_|refine oa ?_|refine lnm ?_|refine ixm ?_|refine schm ?_|refine gy ?_|refine gn ?_|(refine gsi (fun hB => ?_) (fun hB => ?_) <;> try (exfalso; omega)))|(refine gc ?_; first|refine cf ?_|(refine ci (fun hB => ?_) (fun hB => ?_) <;> try (exfalso; omega)))|refine sq ?_|refine rg ?_|refine xc ?_|refine nl ?_|refine sk ?_|refine bk ?_|refine xe ?_|refine rt ?_|refine xb ?_
  · exact lp (k - 1, slSub u 0 ((m.length : Int) - 1).toNat) ⟨by dsimp only; omega, by dsimp only; rw [hN, hge], hZ (by omega) (by omega)⟩
  · exact r1 ⟨⟨k, h1, h2, h3, hT (.inr (by omega))⟩, rfl⟩
  · exact r1 ⟨⟨k, h1, h2, h3, hT (.inl (by omega))⟩, rfl⟩
theorem digit_tr (v : Value) (l : List Nat) (i : Int) (hi : 0 ≤ i) : Tr Tryz.prog 184 [v, I i] [vw v (Us l)] [] fun u D => u = Un (l.getD i.toNat 0) ∧ D = [] := by
  have h0 : ¬ i < l.length → l.getD i.toNat 0 = 0 := fun h => by rw [List.getD_eq_getElem?_getD, List.getElem?_eq_none (by omega)]; rfl
  refine Tr.enter env _ Tryz.func184 (by kernel_rfl) rfl Tryz.ntmps184 rfl (by repeat (first | exact has00 | refine has01 ?_)) fun w0 => ?_
  refine TC.lenu (v := v) (l := l) fun hlen => ?_
  repeat' first|(refine wo ?_; first|(refine ao ?_; first|refine oa ?_)|refine lu ?_|refine oa ?_|refine lnm ?_|refine ixm ?_)|(refine gc ?_; first|(refine ci (fun hB => ?_) (fun hB => ?_) <;> try (exfalso; omega)))|refine sq ?_|refine rg ?_|refine xc ?_|refine nl ?_|refine sk ?_|refine rt ?_
  · exact r1 ⟨rfl, rfl⟩
  · exact r1 ⟨by rw [h0 (by omega)], rfl⟩
theorem NClone_tr (v : Value) (l : List Nat) (hl : l.length ≤ 17592186044416) : Tr Tryz.prog 127 [v] [vw v (Us l)] [] fun u D => u.oneCell' = true ∧ D = [own T64 u (Us l)] := by
  refine Tr.enter env _ Tryz.func127 (by kernel_rfl) rfl Tryz.ntmps127 rfl (by repeat (first | exact has00 | refine has01 ?_)) fun w0 => ?_
  refine TC.slf (v := v) (xs := Us l) fun a c hv hn => ?_
  cases a with
  | none =>
    have hl0 : l = [] := by have := hn rfl; simpa using this
    subst hl0 hv
    repeat' first|(refine wo ?_; first|(refine ao ?_; first|refine isl ?_)|refine oa ?_)|(refine gc ?_; first|refine ct ?_)|refine sq ?_|refine rg ?_|refine xc ?_|refine nl ?_|refine rt ?_
    refine TX.im (own_nil T64 _) ?_
    exact r1 ⟨rfl, rfl⟩
  | some a =>
    subst hv
    repeat' first|(refine sl0 fun o => ?_)|(refine apu (l := []) (news := l) (fun o => ?_); refine TO.one (v := o) (xs := Us ([] ++ l)) fun ho => ?_)|(refine wo ?_; first|(refine ao ?_; first|refine isl ?_)|refine oa ?_)|(refine gc ?_; first|refine cf ?_)|refine sq ?_|refine rg ?_|refine xc ?_|refine nl ?_|refine sk ?_|refine rt ?_
    exact r1 ⟨ho, rfl⟩
theorem NClip_tr (v : Value) (l : List Nat) : Tr Tryz.prog 186 [v] [] [own T64 v (Us l)] fun u D => u.oneCell' = true ∧ D = [own T64 u (Us l)] := by
  have hl := Us_len l
  refine Tr.enter env _ Tryz.func186 (by kernel_rfl) rfl Tryz.ntmps186 rfl (by repeat (first | exact has00 | refine has01 ?_)) fun w0 => ?_
  repeat' first|(refine ln (xs := Us l) ?_)|refine clpo (xs := Us l) ?_|(refine wo ?_; first|refine oa ?_)|refine sq ?_|refine rg ?_|refine xc ?_|refine nl ?_|refine rt ?_
  refine TX.one (v := clipV v (Us l).length) (xs := Us l) fun ho => ?_
  exact r1 ⟨ho, rfl⟩
theorem Trim_tr (v : Value) (l : List Nat) (hd : Dg l) (hl : l.length ≤ 17592186044416) : Tr Tryz.prog 90 [v] [vw v (Us l)] [] fun u D => u.oneCell' = true ∧ D = [own T64 u (Us (dg (nv l)))] := by
  refine Tr.enter env _ Tryz.func90 (by kernel_rfl) rfl Tryz.ntmps90 rfl (by repeat (first | exact has00 | refine has01 ?_)) fun w0 => ?_
  repeat' first|(refine gca ?_; first|(refine ca (trimmed_tr v l) ?_; rintro _ _ ⟨⟨k, h1, rfl, h2, h3⟩, rfl⟩; have hk : dg (nv l) = l.take k := (by rw [← dg_top hd h2, dg_nv (hd.take k) h3]); rw [hk]; have hh : Has [vw v (Us l)] (vw (slSub v 0 k) (Us (l.take k))) := has_take (has_vw (List.Mem.head _)) h1; refine TO.im (B := [vw v (Us l)]) (Im.refl _) ?_)|(refine ca (NClone_tr (slSub v 0 k) (l.take k) (by rw [List.length_take]; omega)) ?_; rintro o _ ⟨ho, rfl⟩))|(refine wo ?_; first|refine oa ?_)|refine sq ?_|refine rg ?_|refine xc ?_|refine nl ?_|refine rt ?_
  exact r1 ⟨ho, rfl⟩
theorem Check_tr (v : Value) (l : List Nat) : Tr Tryz.prog 122 [v] [vw v (Us l)] [] fun u D => u = I (if 0 < l.length ∧ l.getD (l.length - 1) 0 = 0 then 6 else 0) ∧ D = [] := by
  have hge : ((l.length : Int) - 1).toNat = l.length - 1 := by omega
  rw [← hge]
  refine Tr.enter env _ Tryz.func122 (by kernel_rfl) rfl Tryz.ntmps122 rfl (by repeat (first | exact has00 | refine has01 ?_)) fun w0 => ?_
  refine TC.lenu (v := v) (l := l) fun hlen => ?_
  repeat' first|(refine wo ?_; first|(refine ao ?_; first|refine aw ?_|refine oa ?_)|refine lu ?_|refine oa ?_|refine lnm ?_|refine ixm ?_|refine gy ?_|refine gn ?_|(refine gsi (fun hB => ?_) (fun hB => ?_) <;> try (exfalso; omega)))|(refine gc ?_; first|refine cf ?_|(refine ci (fun hB => ?_) (fun hB => ?_) <;> try (exfalso; omega)))|refine sq ?_|refine rg ?_|refine xc ?_|refine nl ?_|refine sk ?_|refine rt ?_
  · exact r1 ⟨by rw [if_pos (by omega)], rfl⟩
  · exact r1 ⟨by rw [if_neg (by omega)], rfl⟩
  · exact r1 ⟨by rw [if_neg (by omega)], rfl⟩
theorem Of_tr (x : Nat) (hx : x < 18446744073709551616) : Tr Tryz.prog 53 [Un x] [] [] fun u D => u.oneCell' = true ∧ D = [own T64 u (Us (dg x))] := by
  have e : nv [x] = x := by simp [nv]
  refine Tr.enter env _ Tryz.func53 (by kernel_rfl) rfl Tryz.ntmps53 rfl (by repeat (first | exact has00 | refine has01 ?_)) fun w0 => ?_
  repeat' first|(refine gca ?_; first|(refine ca (Trim_tr o [x] (Dg.one hx) (by simp)) ?_; rw [e]; rintro o2 _ ⟨ho2, rfl⟩))|(refine slu [x] fun o ho => ?_)|(refine wo ?_; first|refine oa ?_)|refine sq ?_|refine rg ?_|refine xc ?_|refine nl ?_|refine rt ?_
  exact r1 ⟨ho2, rfl⟩
end Go.Art
