/- More pieces: lent blocks, lists of slices; maps of integers. Conditions: none. -/
import Derived.Test.YthgghnaioddkcaaR
import Derived.Maps.RangeRun
set_option linter.unusedSimpArgs false
set_option linter.unusedVariables false
namespace Go.Art
open Go Go.RowKit

/-- A block that is lent. -/
def lpt (b : Nat) (cs : List Value) (T : TypeId) : Ch where
  wr := fun _ => False
  rd := fun _ => False
  bd := fun x => x = b
  P := fun w => w.heap[b]? = some (.cells cs.toArray T (0, 0))
  loc := fun h hb => (hb b (.inr (.inr rfl))).trans h
  lt := fun h hb => by rcases hb with hb | hb | rfl; exact hb.elim; exact hb.elim; exact lt_of_heap h
instance (b : Nat) (cs : List Value) (T : TypeId) : Lent (lpt b cs T) := ⟨fun _ => ⟨fun h => h, fun h => h⟩⟩
theorem has_pt {F : List Ch} {b : Nat} {cs : List Value} {T : TypeId} (h : pt b cs T ∈ F) : Has F (lpt b cs T) := ⟨fun _ hw => hw.h (pt b cs T) h, fun _ h => h, fun _ h => h, fun x hb => ⟨_, h, by rcases hb with hb | hb | hb; exact hb.elim; exact hb.elim; exact .inl hb⟩⟩
theorem has_lpt {F : List Ch} {b : Nat} {cs : List Value} {T : TypeId} (h : lpt b cs T ∈ F) : Has F (lpt b cs T) := ⟨fun _ hw => hw.h _ h, fun _ h => h, fun _ h => h, fun _ hb => ⟨_, h, hb⟩⟩

/-- No slice. -/
abbrev nS : Value := .slice none 0 0
/-- Slices, one by one: they read the lists ls; some block of theirs is x. -/
def elsP (hs : List Value) (ls : List (List Int)) (w : World) : Prop := hs.length = ls.length ∧ ∀ i, i < ls.length → Sl w (hs.getD i nS) (Is (ls.getD i []))
def elsF (hs : List Value) (ls : List (List Int)) (x : Nat) : Prop := ∃ i, i < ls.length ∧ Is (ls.getD i []) ≠ [] ∧ (hs.getD i nS).ownBlock = some x
theorem elsP.keep {w w' : World} {hs : List Value} {ls : List (List Int)} (h : elsP hs ls w) (hb : ∀ b, elsF hs ls b → w'.heap[b]? = w.heap[b]?) : elsP hs ls w' := ⟨h.1, fun i hi => (h.2 i hi).of_block fun b hx => hb b ⟨i, hi, hx⟩⟩
theorem elsP.lt {w : World} {hs : List Value} {ls : List (List Int)} (h : elsP hs ls w) {b : Nat} (hb : elsF hs ls b) : b < w.heap.size := by obtain ⟨i, hi, hx⟩ := hb; exact (h.2 i hi).blt hx
/-- .. lent; .. that stay as they are. -/
def vels (hs : List Value) (ls : List (List Int)) : Ch where
  wr := fun _ => False
  rd := fun _ => False
  bd := elsF hs ls
  P := elsP hs ls
  loc := fun h hb => h.keep fun b h => hb b (.inr (.inr h))
  lt := fun h hb => by rcases hb with hb | hb | hb; exact hb.elim; exact hb.elim; exact h.lt hb
def rels (hs : List Value) (ls : List (List Int)) : Ch where
  wr := fun _ => False
  rd := elsF hs ls
  bd := fun _ => False
  P := elsP hs ls
  loc := fun h hb => h.keep fun b h => hb b (.inr (.inl h))
  lt := fun h hb => by rcases hb with hb | hb | hb; exact hb.elim; exact h.lt hb; exact hb.elim
instance (hs : List Value) (ls : List (List Int)) : Lent (vels hs ls) := ⟨fun _ => ⟨fun h => h, fun h => h⟩⟩
instance (hs : List Value) (ls : List (List Int)) : NoB (rels hs ls) := ⟨fun _ h => h⟩
theorem has_vels {F : List Ch} {hs : List Value} {ls : List (List Int)} (h : vels hs ls ∈ F) : Has F (vels hs ls) := ⟨fun _ hw => hw.h _ h, fun _ h => h, fun _ h => h, fun _ hb => ⟨_, h, hb⟩⟩
theorem has_rels {F : List Ch} {hs : List Value} {ls : List (List Int)} (h : rels hs ls ∈ F) : Has F (vels hs ls) := ⟨fun _ hw => hw.h (rels hs ls) h, fun _ h => h, fun _ h => h, fun x hb => ⟨_, h, by rcases hb with hb | hb | hb; exact hb.elim; exact hb.elim; exact .inr (.inl hb)⟩⟩
theorem has_el {F : List Ch} {hs : List Value} {ls : List (List Int)} {i : Nat} (h : Has F (vels hs ls)) (hi : i < ls.length) : Has F (vw (hs.getD i nS) (Is (ls.getD i []))) :=
  ⟨fun w hw => (h.P w hw).2 i hi, fun _ h => h, fun _ h => h, fun b hb => h.ft b (by rcases hb with hb | hb | hb; exact hb.elim; exact hb.elim; exact .inr (.inr ⟨i, hi, hb⟩))⟩
theorem els_len {A : List Ch} {hs : List Value} {ls : List (List Int)} (h : Has A (vels hs ls)) (w : World) (hw : Sat A w) : hs.length = ls.length := (h.P w hw).1
theorem rels_nil (A : List Ch) : Im A (rels [] [] :: A) := by
  have h0 : ∀ b, ¬ (rels [] []).ft b := by rintro b (h | ⟨i, hi, _⟩ | h); exact h; simp at hi; exact h
  refine ⟨fun w hw => Sat.cons.2 ⟨⟨rfl, fun i hi => by simp at hi⟩, fun a _ => ⟨fun b hb => hb.elim, fun b _ hf => h0 b hf⟩, hw⟩, fun b hb => ?_, fun b hb => ?_, fun b hb => ?_⟩
  · obtain ⟨x, hx, hb⟩ := hb
    rcases List.mem_cons.1 hx with rfl | hx
    · exact hb.elim
    · exact ⟨x, hx, hb⟩
  · obtain ⟨x, hx, hb⟩ := hb
    rcases List.mem_cons.1 hx with rfl | hx
    · exact absurd (.inr (.inl hb)) (h0 b)
    · exact .inr ⟨x, hx, hb⟩
  · obtain ⟨x, hx, hb⟩ := hb
    rcases List.mem_cons.1 hx with rfl | hx
    · exact absurd hb (h0 b)
    · exact ⟨x, hx, hb⟩
theorem getD_snoc {α : Type} (l : List α) (x z : α) (i : Nat) : (l ++ [x]).getD i z = if i < l.length then l.getD i z else if i = l.length then x else z := by
  simp only [List.getD_eq_getElem?_getD, List.getElem?_append]
  split
  · rfl
  · rename_i h
    by_cases e : i = l.length
    · subst e; simp
    · rw [if_neg e]
      have : ¬ i - l.length = 0 := by omega
      cases hk : i - l.length with
      | zero => exact absurd hk this
      | succ n => simp
/-- One slice more. -/
theorem rels_snoc {hs : List Value} {ls : List (List Int)} (hl : hs.length = ls.length) (v : Value) (l : List Int) (A : List Ch) : Im (rels hs ls :: ro v (Is l) :: A) (rels (hs ++ [v]) (ls ++ [l]) :: A) := by
  have hF : ∀ b, elsF (hs ++ [v]) (ls ++ [l]) b → elsF hs ls b ∨ (Is l ≠ [] ∧ v.ownBlock = some b) := by
    rintro b ⟨i, hi, h1, h2⟩
    rw [getD_snoc] at h1 h2
    by_cases hlt : i < ls.length
    · rw [if_pos hlt] at h1; rw [if_pos (by omega)] at h2; exact .inl ⟨i, hlt, h1, h2⟩
    · have : i = ls.length := by simp at hi; omega
      rw [if_neg hlt, if_pos this] at h1; rw [if_neg (by omega), if_pos (by omega)] at h2; exact .inr ⟨h1, h2⟩
  have key : ∀ b, elsF (hs ++ [v]) (ls ++ [l]) b → rds [rels hs ls, ro v (Is l)] b := fun b hb => by
    rcases hF b hb with h | h
    · exact ⟨rels hs ls, by simp, h⟩
    · exact ⟨ro v (Is l), by simp, h⟩
  refine ⟨fun w hw => ?_, fun b hb => ?_, fun b hb => ?_, fun b hb => ?_⟩
  · obtain ⟨h1, h2, h3⟩ := Sat.cons.1 hw
    obtain ⟨h4, h5, h6⟩ := Sat.cons.1 h3
    refine Sat.cons.2 ⟨⟨by simp [hl], fun i hi => ?_⟩, fun a ha => ⟨fun b hb => hb.elim, fun b hb hf => ?_⟩, h6⟩
    · rw [getD_snoc, getD_snoc]
      by_cases hlt : i < ls.length
      · rw [if_pos (by omega), if_pos hlt]; exact h1.2 i hlt
      · have : i = ls.length := by simp at hi; omega
        rw [if_neg (by omega), if_pos (by omega), if_neg hlt, if_pos this]; exact h4
    · rcases hf with hf | hf | hf
      · exact hf
      · rcases hF b hf with h | h
        · exact (h2 a (by simp [ha])).2 b hb (.inr (.inl h))
        · exact (h5 a ha).2 b hb (.inr (.inl h))
      · exact hf
  · obtain ⟨x, hx, hb⟩ := hb
    rcases List.mem_cons.1 hx with rfl | hx
    · exact hb.elim
    · exact ⟨x, by simp [hx], hb⟩
  · obtain ⟨x, hx, hb⟩ := hb
    rcases List.mem_cons.1 hx with rfl | hx
    · obtain ⟨c, hc, h⟩ := key b hb
      simp only [List.mem_cons, List.not_mem_nil, or_false] at hc
      rcases hc with rfl | rfl
      · exact .inr ⟨rels hs ls, by simp, h⟩
      · exact .inr ⟨ro v (Is l), by simp, h⟩
    · exact .inr ⟨x, by simp [hx], hb⟩
  · obtain ⟨x, hx, hb⟩ := hb
    rcases List.mem_cons.1 hx with rfl | hx
    · rcases hb with hb | hb | hb
      · exact hb.elim
      · obtain ⟨c, hc, h⟩ := key b hb
        simp only [List.mem_cons, List.not_mem_nil, or_false] at hc
        rcases hc with rfl | rfl
        · exact ⟨rels hs ls, by simp, .inr (.inl h)⟩
        · exact ⟨ro v (Is l), by simp, .inr (.inl h)⟩
      · exact hb.elim
    · exact ⟨x, by simp [hx], hb⟩

section
variable {P : Program} {E : Env P} {n : Sh} {X : Cx} {s : List K} {fr : Fr} {A A' B F : List Ch} {ops : Array Oper} {rest : List Oper} {d : Nat} {ty : TypeId} {pos : String} {after : Array Edge} {v z : Value} {t : TypeId} {x y : Operand} {c0 : Code}
theorem ldl {b j : Nat} {cs : List Value} {T : TypeId} {dt : TypeDesc} (k : TO E n X s ops rest ((d, v) :: fr) A) (hx : ev fr x = some (.pointer (some ⟨b, j, none⟩)) := by rfl)
    (hm : lpt b cs T ∈ A := by (repeat (first | apply List.Mem.head | apply List.Mem.tail)); first | done | fail) (hj : cs[j]? = some v := by rfl) (ht : lk E.und t = some dt := by rfl) (hg : aggB dt = false := by rfl) (hd : Nat.blt d n.n = true := by rfl) :
    TO E n X s ops (⟨some d, .load t x, ty, pos, after, none⟩ :: rest) fr A := TO.val (fun _ h => R_load ht hg hx (blk_cell (h.h _ hm) (by simpa using hj))) k hd
theorem qldl {b j : Nat} {cs : List Value} {T : TypeId} {dt : TypeDesc} (k : TQ E n X s ops rest ((d, v) :: fr) A) (hx : ev fr x = some (.pointer (some ⟨b, j, none⟩)) := by rfl)
    (hm : lpt b cs T ∈ A := by (repeat (first | apply List.Mem.head | apply List.Mem.tail)); first | done | fail) (hj : cs[j]? = some v := by rfl) (ht : lk E.und t = some dt := by rfl) (hg : aggB dt = false := by rfl) (hd : Nat.blt d n.n = true := by rfl) :
    TQ E n X s ops (⟨some d, .load t x, ty, pos, after, none⟩ :: rest) fr A := TQ.val (fun _ h => R_load ht hg hx (blk_cell (h.h _ hm) (by simpa using hj))) k hd
theorem val_get {xs : List Value} {j : Nat} (h : j < xs.length) : xs[j]? = some (xs.getD j nS) := by simp [List.getD_eq_getElem?_getD, h]
/-- An element that is a value like any. -/
theorem lv {xs : List Value} {j : Nat} {dt : TypeDesc} (k : TO E n X s ops rest ((d, xs.getD j nS) :: fr) A) (hx : ev fr x = some (.pointer (some (addrAt v j))) := by rfl) (hh : Has A (vw v xs) := by first | (apply has_vw; (repeat (first | apply List.Mem.head | apply List.Mem.tail)); first | done | fail) | (apply has_own; (repeat (first | apply List.Mem.head | apply List.Mem.tail)); first | done | fail) | (apply has_ro; (repeat (first | apply List.Mem.head | apply List.Mem.tail)); first | done | fail) | apply has_nil | ((with_reducible apply has_el); (focus (first | (apply has_vels; (repeat (first | apply List.Mem.head | apply List.Mem.tail)); first | done | fail) | (apply has_rels; (repeat (first | apply List.Mem.head | apply List.Mem.tail)); first | done | fail))); omega) | (apply has_pt; (repeat (first | apply List.Mem.head | apply List.Mem.tail)); first | done | fail) | (apply has_lpt; (repeat (first | apply List.Mem.head | apply List.Mem.tail)); first | done | fail) | (apply has_vels; (repeat (first | apply List.Mem.head | apply List.Mem.tail)); first | done | fail) | (apply has_rels; (repeat (first | apply List.Mem.head | apply List.Mem.tail)); first | done | fail) | with_reducible assumption | ((with_reducible apply has_elg); (focus (first | (apply has_velg; (repeat (first | apply List.Mem.head | apply List.Mem.tail)); first | done | fail) | (apply has_relg; (repeat (first | apply List.Mem.head | apply List.Mem.tail)); first | done | fail))); omega) | (apply has_velg; (repeat (first | apply List.Mem.head | apply List.Mem.tail)); first | done | fail) | (apply has_relg; (repeat (first | apply List.Mem.head | apply List.Mem.tail)); first | done | fail)) (hj : j < xs.length := by omega)
    (ht : lk E.und t = some dt := by rfl) (hg : aggB dt = false := by rfl) (hd : Nat.blt d n.n = true := by rfl) : TO E n X s ops (⟨some d, .load t x, ty, pos, after, none⟩ :: rest) fr A := le k hx hh (val_get hj) ht hg hd
theorem qlv {xs : List Value} {j : Nat} {dt : TypeDesc} (k : TQ E n X s ops rest ((d, xs.getD j nS) :: fr) A) (hx : ev fr x = some (.pointer (some (addrAt v j))) := by rfl) (hh : Has A (vw v xs) := by first | (apply has_vw; (repeat (first | apply List.Mem.head | apply List.Mem.tail)); first | done | fail) | (apply has_own; (repeat (first | apply List.Mem.head | apply List.Mem.tail)); first | done | fail) | (apply has_ro; (repeat (first | apply List.Mem.head | apply List.Mem.tail)); first | done | fail) | apply has_nil | ((with_reducible apply has_el); (focus (first | (apply has_vels; (repeat (first | apply List.Mem.head | apply List.Mem.tail)); first | done | fail) | (apply has_rels; (repeat (first | apply List.Mem.head | apply List.Mem.tail)); first | done | fail))); omega) | (apply has_pt; (repeat (first | apply List.Mem.head | apply List.Mem.tail)); first | done | fail) | (apply has_lpt; (repeat (first | apply List.Mem.head | apply List.Mem.tail)); first | done | fail) | (apply has_vels; (repeat (first | apply List.Mem.head | apply List.Mem.tail)); first | done | fail) | (apply has_rels; (repeat (first | apply List.Mem.head | apply List.Mem.tail)); first | done | fail) | with_reducible assumption | ((with_reducible apply has_elg); (focus (first | (apply has_velg; (repeat (first | apply List.Mem.head | apply List.Mem.tail)); first | done | fail) | (apply has_relg; (repeat (first | apply List.Mem.head | apply List.Mem.tail)); first | done | fail))); omega) | (apply has_velg; (repeat (first | apply List.Mem.head | apply List.Mem.tail)); first | done | fail) | (apply has_relg; (repeat (first | apply List.Mem.head | apply List.Mem.tail)); first | done | fail)) (hj : j < xs.length := by omega)
    (ht : lk E.und t = some dt := by rfl) (hg : aggB dt = false := by rfl) (hd : Nat.blt d n.n = true := by rfl) : TQ E n X s ops (⟨some d, .load t x, ty, pos, after, none⟩ :: rest) fr A := qle k hx hh (val_get hj) ht hg hd
theorem TC.els {hs : List Value} {ls : List (List Int)} (k : hs.length = ls.length → TC E n X s c0 fr A) (hh : Has A (vels hs ls) := by first | exact has_vels (by (repeat (first | apply List.Mem.head | apply List.Mem.tail)); first | done | fail) | exact has_rels (by (repeat (first | apply List.Mem.head | apply List.Mem.tail)); first | done | fail)) : TC E n X s c0 fr A := TC.fact (fun w hw => els_len hh w hw) k

/-! ### Maps of integers -/
variable {b : Nat} {f : Int → Option Value} {k : Int} {kt et : TypeId} {sz by_ : Nat}
theorem mm (k : ∀ b, TO E n X s ops rest ((d, mp b) :: fr) (mpc b (fun _ => none) :: A)) (hd : Nat.blt d n.n = true := by rfl) : TO E n X s ops (⟨some d, .makeMap t none, ty, pos, after, none⟩ :: rest) fr A := ⟨fun w hw =>
  SO_makeMap hd fun w' hE hz hM => (k _).run w' (hw.new hE hM (by rintro y (rfl | h | h); exact Nat.le_refl _; exact h.elim; exact h.elim) (fun _ h => h))⟩
theorem mlS (kk : TO E n X s ops rest ((d, .tuple #[v, .bool true]) :: fr) A) (hf : f k = some v) (hx : ev fr x = some (mp b) := by rfl) (hy : ev fr y = some (I k) := by rfl) (hm : mpc b f ∈ A := by (repeat (first | apply List.Mem.head | apply List.Mem.tail)); first | done | fail)
    (ht : lk E.und t = some (.map kt et) := by rfl) (hk : lk E.und kt = some dI := by rfl) (hd : Nat.blt d n.n = true := by rfl) : TO E n X s ops (⟨some d, .lookup t x y true, ty, pos, after, none⟩ :: rest) fr A :=
  TO.val (fun _ h => R_lookS ht hk hx hy (h.h _ hm) hf) kk hd
theorem mlN (kk : TO E n X s ops rest ((d, .tuple #[z, .bool false]) :: fr) A) (hf : f k = none) (hx : ev fr x = some (mp b) := by rfl) (hy : ev fr y = some (I k) := by rfl) (hm : mpc b f ∈ A := by (repeat (first | apply List.Mem.head | apply List.Mem.tail)); first | done | fail)
    (ht : lk E.und t = some (.map kt et) := by rfl) (hk : lk E.und kt = some dI := by rfl) (he : lk E.inf et = some (z, sz, by_) := by rfl) (hd : Nat.blt d n.n = true := by rfl) : TO E n X s ops (⟨some d, .lookup t x y true, ty, pos, after, none⟩ :: rest) fr A :=
  TO.val (fun _ h => R_lookN ht hk he hx hy (h.h _ hm) hf) kk hd
theorem mu {u : Operand} (kk : TO E n X s ops rest fr (mpc b (updF f k v) :: A')) (hx : ev fr x = some (mp b) := by rfl) (hm : Tk (mpc b f) A A' := by (repeat (first | apply Tk.here | apply Tk.there)); first | done | fail) (hy : ev fr y = some (I k) := by rfl) (hu : ev fr u = some v := by rfl)
    (ht : lk E.und t = some (.map kt et) := by rfl) (hk : lk E.und kt = some dI := by rfl) : TO E n X s ops (⟨none, .mapUpdate t x y u, ty, pos, after, none⟩ :: rest) fr A := ⟨fun w hw => by
  have h1 := hw.im hm
  exact SO_mapUpdate ht hk hx hy hu (h1.mem (List.Mem.head _)) fun w' hU hM => kk.run w' (h1.set hU (fun x hb => .inl (List.mem_singleton.1 hb)) hM (by rintro x (rfl | h | h); exact .inl rfl; exact h.elim; exact h.elim) (fun _ h => h))⟩
end
end Go.Art
