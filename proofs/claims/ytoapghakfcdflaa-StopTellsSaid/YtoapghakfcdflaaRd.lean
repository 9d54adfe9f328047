/- What came in: slices, slices of slices, as pieces that are lent. Conditions: none. -/
import Derived.Test.YtoapghakfcdflaaW
import Derived.Deep.Matrix
set_option linter.unusedSimpArgs false
set_option linter.unusedVariables false
namespace Go.Art
open Go Go.RowKit

/-- All of a list are lent. -/
structure SatL (A : List Ch) (w : World) : Prop where
  s : Sat A w
  l : ∀ c ∈ A, ∀ b, ¬ c.wr b
theorem SatL.nil (w : World) : SatL [] w := ⟨Sat.nil w, fun _ h => nomatch h⟩
theorem SatL.cons {c : Ch} {A : List Ch} {w : World} [hc : Lent c] (h : c.P w) (k : SatL A w) : SatL (c :: A) w :=
  ⟨Sat.cons.2 ⟨h, fun a ha => ⟨fun b hb => absurd hb (hc.lent b).1, fun b hb => absurd hb (k.l a ha b)⟩, k.s⟩, fun x hx b => by rcases List.mem_cons.1 hx with rfl | hx; exact (hc.lent b).1; exact k.l x hx b⟩

/-- What the walk is told of a slice of slices of integers that came in. -/
structure IsMat (k : IntKind) (w : World) (v : Value) (hs : List Value) (ls : List (List Int)) : Prop where
  sl : Sl w v hs
  len : hs.length = ls.length
  el : ∀ i, i < ls.length → Sl w (hs.getD i nS) ((ls.getD i []).map (.int k)) ∧ ∀ n ∈ ls.getD i [], (Lit.int k n).wf = true
theorem IsMat.els {w : World} {v : Value} {hs : List Value} {ls : List (List Int)} (h : IsMat .i64 w v hs ls) : elsP hs ls w := ⟨h.len, fun i hi => (h.el i hi).1⟩
theorem getD_map_range {α : Type} (f : Nat → α) (n i : Nat) (z : α) (h : i < n) : ((List.range n).map f).getD i z = f i := by simp [List.getD_eq_getElem?_getD, h]
theorem isMat_of {H : Type} {enc : TypeId × Value → H} {P : Program} {w : World} {base fuel : Nat} {t e q : TypeId} {k : IntKind} {a : Option Addr} {len cap : Nat} {x : DataW H × List MemPlace} (ht : P.underlying t = some (.slice e)) (he : P.underlying e = some (.slice q)) (hq : P.underlying q = some (.int k))
    (ce : P.cellsOf e = 1) (cq : P.cellsOf q = 1) (h : DataW.trod enc P w base (fun _ => true) true fuel t [.slice a len cap] = some x) : ∃ hs ls, IsMat k w (.slice a len cap) hs ls := by
  rcases Deep.open_int_rows ht he hq ce cq h with ⟨hcs, _⟩ | ⟨ad, l, c, A, L, C, Z, hcs, _, hl, hm, _, hr⟩
  · injection hcs with hcs; injection hcs with h1 h2 h3
    subst h1 h2 h3
    exact ⟨[], [], Sl.nil w, rfl, fun i hi => by simp at hi⟩
  · injection hcs with hcs; injection hcs with h1 h2 h3
    subst h1 h2 h3
    refine ⟨(List.range len).map fun r => .slice (A r) (L r) (C r), (List.range len).map fun r => (Z r).take (L r), ?_, by simp, fun i hi => ?_⟩
    · refine ⟨some ad, cap, by simp, by simpa using hl, hm, fun i u hi => ⟨ad, rfl, ?_⟩⟩
      simp only [List.getElem?_map, Option.map_eq_some_iff] at hi
      obtain ⟨r, hr1, rfl⟩ := hi
      have : i < len := by
        have := (List.getElem?_eq_some_iff.1 hr1).1
        simpa using this
      rw [List.getElem?_range this] at hr1; cases hr1
      exact (hr i (by omega)).1
    · have hi' : i < len := by simpa using hi
      obtain ⟨_, h4, h5, h6, h7, h8, h9⟩ := hr i (by omega)
      rw [getD_map_range _ _ _ _ hi', getD_map_range _ _ _ _ hi']
      refine ⟨?_, fun n hn => h7 n (List.mem_of_mem_take hn)⟩
      cases hA : A i with
      | none =>
        have hc := h8 hA
        have hz : Z i = [] := List.eq_nil_of_length_eq_zero (by omega)
        have h0 : L i = 0 := by omega
        rw [hz, hc, h0]; exact Sl.nil w
      | some a' =>
        refine ⟨some a', C i, by simp; omega, by simp; omega, h5, fun j u hj => ⟨a', rfl, ?_⟩⟩
        simp only [List.getElem?_map, Option.map_eq_some_iff] at hj
        obtain ⟨z, hz1, rfl⟩ := hj
        rw [List.getElem?_take] at hz1
        split at hz1
        · rw [(h9 a' hA).2 j (by omega)]
          simp [List.getD_eq_getElem?_getD, hz1]
        · cases hz1
end Go.Art
