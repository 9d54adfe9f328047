/- Regions that draw their order: plain operations are taken ahead; what is left then has one order. Conditions: none. -/
import Derived.Test.YthgghnaioddkcaaAuto
import Derived.OrdersIn
set_option linter.unusedSimpArgs false
set_option linter.unusedVariables false
namespace Go.Art
open Go Go.RowKit

def NP (P : Program) (r : Option Nat) (Q0 : Exit → Act → World → Prop) (s : List K) : Exit → Act → World → Prop := fun e a w => (∀ c, e ≠ .panic c) ∧ den P r Q0 s e a w

def forced (ops : Array Oper) : Nat → Array Bool → Option (List Nat)
  | 0, listed => match Region.ready .any ops listed with
    | [] => some []
    | _ => none
  | fuel + 1, listed => match Region.ready .any ops listed with
    | [] => some []
    | [i] => (forced ops fuel (listed.setIfInBounds i true)).map (i :: ·)
    | _ => none

theorem forced_sound {F : Fence} {m : Nat} {P : Program} {ops : Array Oper} {Q : Exit → Act → World → Prop} : ∀ (fuel : Nat) (listed : Array Bool) (is : List Nat) (a : Act) (w : World), forced ops fuel listed = some is →
    wpListIn F m P ops Q (is.filterMap (ops[·]?)) a w → wpAnyIn F m P .any ops Q fuel listed a w
  | 0, listed, is, a, w, hf, h => by
    simp only [forced] at hf
    split at hf
    · rename_i hr; cases hf; exact ⟨hr, h⟩
    · cases hf
  | fuel + 1, listed, is, a, w, hf, h => by
    simp only [forced] at hf
    split at hf
    · rename_i hr; cases hf; exact wpAnyIn_done hr h _
    · rename_i i hr
      cases hg : forced ops fuel (listed.setIfInBounds i true) with
      | none => rw [hg] at hf; cases hf
      | some js =>
        rw [hg] at hf
        simp only [Option.map_some, Option.some.injEq] at hf
        subst hf
        refine wpAnyIn_all hr (by simp) fun j hj => ?_
        obtain rfl : j = i := by simpa using hj
        obtain ⟨_, oj, hoj, _⟩ := mem_ready.1 (show j ∈ Region.ready .any ops listed by rw [hr]; simp)
        simp only [List.filterMap_cons, hoj] at h
        unfold wpOpIn
        simp only [hoj]
        unfold wpListIn at h
        split
        · rename_i hw
          simp only [hw, if_true] at h
          exact Oper.wpIn_mono (fun a w h => forced_sound fuel _ js a w hg h) h
        · rename_i hw
          simp only [hw] at h
          exact ⟨h.1, forced_sound fuel _ js _ w hg h.2⟩
    · cases hf

structure SA {P : Program} (_E : Env P) (n : Sh) (Q : Exit → Act → World → Prop) (ops : Array Oper) (fuel : Nat) (listed : Array Bool) (fr : Fr) (w : World) : Prop where
  run : ∀ a, Holds n a fr → wpAnyIn (FF n.r) 0 P .any ops Q fuel listed a w

section
variable {P : Program} {E : Env P} {n : Sh} {Q0 : Exit → Act → World → Prop} {s : List K} {fr : Fr} {w : World} {ops : Array Oper} {d : Nat} {o : Op} {ty : TypeId} {pos : String} {after : Array Edge} {v : Value} {fuel : Nat} {listed : Array Bool}

theorem SC_regionA {id : Nat} {l : List Oper} (h : SA E n (NP P n.r Q0 s) l.toArray l.length (Array.replicate l.length false) fr { w with drawn := w.drawn + 1 }) : SC E n Q0 s (.region id l.toArray true) fr w :=
  ⟨fun a ha => Code.wpIn_mono (fun (e : Exit) (a : Act) (w : World) (h : NP P n.r Q0 s e a w) => h.2) (wpIn_region_any E.mixed (by simpa using h.run a ha))⟩

theorem SA_take (i : Nat) {oi : Oper} (hi : ops[i]? = some oi) (ho : oi = ⟨some d, o, ty, pos, after, none⟩) (hs : Region.noSelect ops = true) (hf : Region.free .any ops listed i = true) (hr : (Region.ready .any ops listed).contains i = true)
    (hrd : n.r = none) (hd : Nat.blt d n.n = true) (hab : ∀ w ρ, (⟨some d, o, ty, pos, after, none⟩ : Oper).about P w ρ = none) (hv : ∀ w, OpV P n fr o ty w v w)
    (h : SA E n (NP P n.r Q0 s) ops fuel (listed.setIfInBounds i true) ((d, v) :: fr) w) : SA E n (NP P n.r Q0 s) ops (fuel + 1) listed fr w := ⟨fun a ha => by
  subst ho
  refine wpAnyIn_take (v := v) (by simp [FF, hrd]) hi hs hf hr (fun c a w h => absurd rfl (h.1 c)) ⟨.inl ⟨rfl, fun w => (hv w).run a ha _ _ _ _⟩, fun w => hab w _⟩ (h.run _ (ha.put hd v))⟩

theorem SA_list (is : List Nat) (hf : forced ops fuel listed = some is) (h : SO E n (NP P n.r Q0 s) [] ops (is.filterMap (ops[·]?)) fr w) : SA E n (NP P n.r Q0 s) ops fuel listed fr w :=
  ⟨fun a ha => forced_sound _ _ _ _ _ hf (h.run a ha)⟩

theorem R_idxA {t e : TypeId} {z : Value} {by_ : Nat} {k : IntKind} {i : Int} {xs : List Value} {x y : Operand} {w0 : World} (ht : lk E.und t = some (.slice e)) (he : lk E.inf e = some (z, 1, by_)) (hx : ev fr x = some v) (hy : ev fr y = some (.int k i)) (hS : Sl w0 v xs)
    (h : 0 ≤ i ∧ i < xs.length) (w : World) : OpV P n fr (.indexAddr t x y) ty w (.pointer (some (addrAt v i.toNat))) w := ⟨fun b hb _ _ _ _ => by
  obtain ⟨a, cap, rfl, h1, h2, hc⟩ := hS
  obtain ⟨inf, hi, _, hsz, _⟩ := E.info he
  have hlt : i.toNat < xs.length := by omega
  obtain ⟨ad, rfl, _⟩ := hc i.toNat xs[i.toNat] (List.getElem?_eq_getElem hlt)
  simp only [execOp, hb.ev hx, hb.ev hy]
  simp [Instr.indexAt, asIntOf, run_underlying (P := P) (E.un ht) w, h, sizeOf, typeInfo, hi, hsz, addrAt]⟩
theorem R_sliceHiA {t e : TypeId} {z : Value} {by_ : Nat} {xs : List Value} {hi : Int} {k2 : IntKind} {x : Operand} {w0 : World} (ht : lk E.und t = some (.slice e)) (he : lk E.inf e = some (z, 1, by_)) (hx : ev fr x = some v) {h : Operand} (hh : ev fr h = some (.int k2 hi))
    (hS : Sl w0 v xs) (hb : 0 ≤ hi ∧ hi ≤ xs.length) (w : World) : OpV P n fr (.slice t x none (some h) none) ty w (slSub v 0 hi.toNat) w := ⟨fun a ha _ _ _ _ => by
  obtain ⟨a, cap, rfl, hc1, hc2, hcell⟩ := hS
  obtain ⟨inf, hi', _, hs, _⟩ := E.info he
  have hu := run_underlying (P := P) (E.un ht) w
  obtain ⟨m, rfl⟩ : ∃ m : Nat, hi = (m : Int) := ⟨hi.toNat, by omega⟩
  have h2 : m ≤ cap := by omega
  simp only [execOp, ha.ev hx]
  simp [ha.ev hh, Instr.sliceAt, Instr.slice, hu, Instr.sliceBounds, Instr.sliceBound, asIntOf, sizeOf, typeInfo, hi', hs, slSub, h2, hc1]⟩
theorem Own.take {w : World} {e : TypeId} {g : Option Nat} {v : Value} {xs : List Value} (h : Own w e g v xs) {k : Nat} (hk : k ≤ xs.length) : Own w e g (slSub v 0 k) (xs.take k) := by
  rcases h with ⟨rfl, rfl, rfl⟩ | ⟨b, cap, cur, rfl, rfl, hb, h1, h2, h3, h4⟩
  · have : k = 0 := by simpa using hk
    subst this
    exact .inl ⟨rfl, rfl, rfl⟩
  · refine .inr ⟨b, cap, cur, rfl, ?_, hb, by simp; omega, h2, h3, ?_⟩
    · simp only [slSub]
      rw [List.length_take, Nat.min_eq_left hk]
      simp [Addr.add_lit]
    · conv => rhs; rw [← h4]
      rw [List.length_take, Nat.min_eq_left hk, List.take_take, Nat.min_eq_left hk]
theorem SX_np (h : SX E n Q0 s .normal fr w) : SX E n (NP P n.r Q0 s) [] .normal fr w := ⟨fun a ha => ⟨fun c e => (by cases e), h.run a ha⟩⟩
end
end Go.Art
