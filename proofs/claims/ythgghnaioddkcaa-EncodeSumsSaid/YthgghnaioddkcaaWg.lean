/- Lists of slices of numbers of any kind: lent, frozen. Conditions: none. -/
import Derived.Test.YthgghnaioddkcaaKa
set_option linter.unusedSimpArgs false
set_option linter.unusedVariables false
namespace Go.Art
open Go Go.RowKit

/-- Slices, one by one: they read the lists ls; some block of theirs is x. -/
def elgP (g : Int → Value) (hs : List Value) (ls : List (List Int)) (w : World) : Prop := hs.length = ls.length ∧ ∀ i, i < ls.length → Sl w (hs.getD i nS) ((ls.getD i []).map g)
def elgF (g : Int → Value) (hs : List Value) (ls : List (List Int)) (x : Nat) : Prop := ∃ i, i < ls.length ∧ (ls.getD i []).map g ≠ [] ∧ (hs.getD i nS).ownBlock = some x
theorem elgP.keep {g : Int → Value} {w w' : World} {hs : List Value} {ls : List (List Int)} (h : elgP g hs ls w) (hb : ∀ b, elgF g hs ls b → w'.heap[b]? = w.heap[b]?) : elgP g hs ls w' := ⟨h.1, fun i hi => (h.2 i hi).of_block fun b hx => hb b ⟨i, hi, hx⟩⟩
theorem elgP.lt {g : Int → Value} {w : World} {hs : List Value} {ls : List (List Int)} (h : elgP g hs ls w) {b : Nat} (hb : elgF g hs ls b) : b < w.heap.size := by obtain ⟨i, hi, hx⟩ := hb; exact (h.2 i hi).blt hx
/-- .. lent; .. that stay as they are. -/
def velg (g : Int → Value) (hs : List Value) (ls : List (List Int)) : Ch where
  wr := fun _ => False
  rd := fun _ => False
  bd := elgF g hs ls
  P := elgP g hs ls
  loc := fun h hb => h.keep fun b h => hb b (.inr (.inr h))
  lt := fun h hb => by rcases hb with hb | hb | hb; exact hb.elim; exact hb.elim; exact h.lt hb
def relg (g : Int → Value) (hs : List Value) (ls : List (List Int)) : Ch where
  wr := fun _ => False
  rd := elgF g hs ls
  bd := fun _ => False
  P := elgP g hs ls
  loc := fun h hb => h.keep fun b h => hb b (.inr (.inl h))
  lt := fun h hb => by rcases hb with hb | hb | hb; exact hb.elim; exact h.lt hb; exact hb.elim
instance (g : Int → Value) (hs : List Value) (ls : List (List Int)) : Lent (velg g hs ls) := ⟨fun _ => ⟨fun h => h, fun h => h⟩⟩
instance (g : Int → Value) (hs : List Value) (ls : List (List Int)) : NoB (relg g hs ls) := ⟨fun _ h => h⟩
theorem has_velg {g : Int → Value} {F : List Ch} {hs : List Value} {ls : List (List Int)} (h : velg g hs ls ∈ F) : Has F (velg g hs ls) := ⟨fun _ hw => hw.h _ h, fun _ h => h, fun _ h => h, fun _ hb => ⟨_, h, hb⟩⟩
theorem has_relg {g : Int → Value} {F : List Ch} {hs : List Value} {ls : List (List Int)} (h : relg g hs ls ∈ F) : Has F (velg g hs ls) := ⟨fun _ hw => hw.h (relg g hs ls) h, fun _ h => h, fun _ h => h, fun x hb => ⟨_, h, by rcases hb with hb | hb | hb; exact hb.elim; exact hb.elim; exact .inr (.inl hb)⟩⟩
theorem has_elg {g : Int → Value} {F : List Ch} {hs : List Value} {ls : List (List Int)} {i : Nat} (h : Has F (velg g hs ls)) (hi : i < ls.length) : Has F (vw (hs.getD i nS) ((ls.getD i []).map g)) :=
  ⟨fun w hw => (h.P w hw).2 i hi, fun _ h => h, fun _ h => h, fun b hb => h.ft b (by rcases hb with hb | hb | hb; exact hb.elim; exact hb.elim; exact .inr (.inr ⟨i, hi, hb⟩))⟩
theorem elg_len {g : Int → Value} {A : List Ch} {hs : List Value} {ls : List (List Int)} (h : Has A (velg g hs ls)) (w : World) (hw : Sat A w) : hs.length = ls.length := (h.P w hw).1
theorem relg_nil {g : Int → Value} (A : List Ch) : Im A (relg g [] [] :: A) := by
  have h0 : ∀ b, ¬ (relg g [] []).ft b := by rintro b (h | ⟨i, hi, _⟩ | h); exact h; simp at hi; exact h
  refine ⟨fun w hw => Sat.cons.2 ⟨⟨rfl, fun i hi => by simp at hi⟩, fun a _ => ⟨fun b hb => hb.elim, fun b _ hf => h0 b hf⟩, hw⟩, fun b hb => ?_, fun b hb => ?_, fun b hb => ?_⟩
  · obtain ⟨x, hx, hb⟩ := hb
    rcases List.mem_cons.1 hx with rfl | hx
    · exact hb.elim
    · exact ⟨x, hx, hb⟩
  · obtain ⟨x, hx, hb⟩ := hb
    rcases List.mem_cons.1 hx with rfl | hx
    · exact absurd (.inr (.inl hb)) (h0 b)
    · exact .inr ⟨x, hx, hb⟩
  · obtain ⟨x, hx, hb⟩ := hb
    rcases List.mem_cons.1 hx with rfl | hx
    · exact absurd hb (h0 b)
    · exact ⟨x, hx, hb⟩
/-- One slice more. -/
theorem relg_snoc {g : Int → Value} {hs : List Value} {ls : List (List Int)} (hl : hs.length = ls.length) (v : Value) (l : List Int) (A : List Ch) : Im (relg g hs ls :: ro v (l.map g) :: A) (relg g (hs ++ [v]) (ls ++ [l]) :: A) := by
  have hF : ∀ b, elgF g (hs ++ [v]) (ls ++ [l]) b → elgF g hs ls b ∨ (l.map g ≠ [] ∧ v.ownBlock = some b) := by
    rintro b ⟨i, hi, h1, h2⟩
    rw [getD_snoc] at h1 h2
    by_cases hlt : i < ls.length
    · rw [if_pos hlt] at h1; rw [if_pos (by omega)] at h2; exact .inl ⟨i, hlt, h1, h2⟩
    · have : i = ls.length := by simp at hi; omega
      rw [if_neg hlt, if_pos this] at h1; rw [if_neg (by omega), if_pos (by omega)] at h2; exact .inr ⟨h1, h2⟩
  have key : ∀ b, elgF g (hs ++ [v]) (ls ++ [l]) b → rds [relg g hs ls, ro v (l.map g)] b := fun b hb => by
    rcases hF b hb with h | h
    · exact ⟨relg g hs ls, by simp, h⟩
    · exact ⟨ro v (l.map g), by simp, h⟩
  refine ⟨fun w hw => ?_, fun b hb => ?_, fun b hb => ?_, fun b hb => ?_⟩
  · obtain ⟨h1, h2, h3⟩ := Sat.cons.1 hw
    obtain ⟨h4, h5, h6⟩ := Sat.cons.1 h3
    refine Sat.cons.2 ⟨⟨by simp [hl], fun i hi => ?_⟩, fun a ha => ⟨fun b hb => hb.elim, fun b hb hf => ?_⟩, h6⟩
    · rw [getD_snoc, getD_snoc]
      by_cases hlt : i < ls.length
      · rw [if_pos (by omega), if_pos hlt]; exact h1.2 i hlt
      · have : i = ls.length := by simp at hi; omega
        rw [if_neg (by omega), if_pos (by omega), if_neg hlt, if_pos this]; exact h4
    · rcases hf with hf | hf | hf
      · exact hf
      · rcases hF b hf with h | h
        · exact (h2 a (by simp [ha])).2 b hb (.inr (.inl h))
        · exact (h5 a ha).2 b hb (.inr (.inl h))
      · exact hf
  · obtain ⟨x, hx, hb⟩ := hb
    rcases List.mem_cons.1 hx with rfl | hx
    · exact hb.elim
    · exact ⟨x, by simp [hx], hb⟩
  · obtain ⟨x, hx, hb⟩ := hb
    rcases List.mem_cons.1 hx with rfl | hx
    · obtain ⟨c, hc, h⟩ := key b hb
      simp only [List.mem_cons, List.not_mem_nil, or_false] at hc
      rcases hc with rfl | rfl
      · exact .inr ⟨relg g hs ls, by simp, h⟩
      · exact .inr ⟨ro v (l.map g), by simp, h⟩
    · exact .inr ⟨x, by simp [hx], hb⟩
  · obtain ⟨x, hx, hb⟩ := hb
    rcases List.mem_cons.1 hx with rfl | hx
    · rcases hb with hb | hb | hb
      · exact hb.elim
      · obtain ⟨c, hc, h⟩ := key b hb
        simp only [List.mem_cons, List.not_mem_nil, or_false] at hc
        rcases hc with rfl | rfl
        · exact ⟨relg g hs ls, by simp, .inr (.inl h)⟩
        · exact ⟨ro v (l.map g), by simp, .inr (.inl h)⟩
      · exact hb.elim
    · exact ⟨x, by simp [hx], hb⟩

section
variable {P : Program} {E : Env P} {n : Sh} {X : Cx} {s : List K} {fr : Fr} {A : List Ch} {c0 : Code} {g : Int → Value}
theorem TC.elg {g : Int → Value} {hs : List Value} {ls : List (List Int)} (k : hs.length = ls.length → TC E n X s c0 fr A) (hh : Has A (velg g hs ls) := by first | exact has_velg (by (repeat (first | apply List.Mem.head | apply List.Mem.tail)); first | done | fail) | exact has_relg (by (repeat (first | apply List.Mem.head | apply List.Mem.tail)); first | done | fail)) : TC E n X s c0 fr A := TC.fact (fun w hw => elg_len hh w hw) k
end
end Go.Art
