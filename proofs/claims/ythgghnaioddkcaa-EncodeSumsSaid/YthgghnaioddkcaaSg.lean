/- Drawn regions that write: guarded operations taken ahead. Conditions: none. -/
import Derived.Test.YthgghnaioddkcaaS
set_option linter.unusedSimpArgs false
set_option linter.unusedVariables false
namespace Go.Art
open Go Go.RowKit

section
variable {F : Fence} {m : Nat} {P : Program} {md : Region.Mode} {ops : Array Oper} {Q : Exit → Act → World → Prop} {S : World → Prop}
/-- In every world of S the operation, guarded or not, yields v and leaves the world; or its guard bars it. -/
def YSg (P : Program) (ops : Array Oper) (S : World → Prop) (o : Oper) (v : Value) (a : Act) : Prop :=
  (Region.wanted o (yielded ops a.tmps) = true ∧ ∀ w, S w → (execOp a.eval o).run P w = .ok (.value v) w ∧ o.about P w a.eval = none) ∨ (Region.wanted o (yielded ops a.tmps) = false ∧ v = undef ∧ ∀ w, S w → o.about P w a.eval = none)
theorem wpAnyS_takeG {i d : Nat} {o : Op} {ty : TypeId} {pos : String} {after : Array Edge} {g : Option (Nat × Bool)} {v : Value} (hro : F.round = none) (hi : ops[i]? = some ⟨some d, o, ty, pos, after, g⟩) (hs : Region.noSelect ops = true) (hQ : ∀ c a w, ¬ Q (.panic c) a w) :
    ∀ (fuel : Nat) (listed : Array Bool) (a : Act) (w : World), Region.free md ops listed i = true → (Region.ready md ops listed).contains i = true → YSg P ops S ⟨some d, o, ty, pos, after, g⟩ v a → S w →
      wpAnyS F m P md ops Q S fuel (listed.setIfInBounds i true) (a.put (some d) v) w → wpAnyS F m P md ops Q S (fuel + 1) listed a w := by
  have hsel := fun j oj cs b (h : ops[j]? = some oj) => Region.noSelect_spec hs j oj cs b h
  have now : ∀ (K : Act → World → Prop) (a : Act) (w : World), YSg P ops S ⟨some d, o, ty, pos, after, g⟩ v a → S w → K (a.put (some d) v) w → wpOpIn F m P ops Q i K a w := fun K a w hy hS h => by
    unfold wpOpIn
    simp only [hi]
    rcases hy with ⟨hw, hy⟩ | ⟨hw, rfl, hy⟩
    · rw [if_pos hw]
      simp only [Oper.wpIn, hro, Oper.semAt_none, (hy w hS).1, Oper.uponIn]
      exact ⟨fun f hf => (by rw [(hy w hS).2] at hf; cases hf), h⟩
    · rw [if_neg (by rw [hw]; decide)]
      exact ⟨fun f hf => (by rw [hy w hS] at hf; cases hf), h⟩
  have gen : ∀ (fuel : Nat) (listed : Array Bool) (a : Act) (w : World), (∀ j oj, ops[j]? = some oj → j ≠ i → listed.getD j true = false → (∀ e ∈ oj.after, Region.binds md e = true → e.on ≠ i) → Oper.apart ops ⟨some d, o, ty, pos, after, g⟩ oj = true) →
      i ∈ Region.ready md ops listed → YSg P ops S ⟨some d, o, ty, pos, after, g⟩ v a → S w → wpAnyS F m P md ops Q S fuel (listed.setIfInBounds i true) (a.put (some d) v) w → wpAnyS F m P md ops Q S (fuel + 1) listed a w := by
    intro fuel
    induction fuel with
    | zero =>
      intro listed a w _ hr hy hS H
      refine ⟨fun h => (by rw [h] at hr; cases hr), fun j hj => ?_⟩
      by_cases hji : j = i
      · subst hji; exact now _ a w hy hS ⟨hS, H⟩
      · have := ready_mono hj hji
        rw [H.1] at this
        cases this
    | succ fuel ih =>
      intro listed a w hfree hr hy hS H
      refine ⟨fun h => (by rw [h] at hr; cases hr), fun j hj => ?_⟩
      by_cases hji : j = i
      · subst hji; exact now _ a w hy hS ⟨hS, H⟩
      · obtain ⟨hjun, oj, hoj, hall⟩ := mem_ready.1 hj
        have hnot : ∀ e ∈ oj.after, Region.binds md e = true → e.on ≠ i := fun e he hb heq => by
          have h1 := hall e he hb
          have h0 := (mem_ready.1 hr).1
          rw [heq] at h1
          rcases Nat.lt_or_ge i listed.size with h' | h'
          · simp [h'] at h0 h1; rw [h0] at h1; cases h1
          · simp [Array.getElem?_eq_none h'] at h1
        have hap := hfree j oj hoj hji hjun hnot
        obtain ⟨p1, p2, p3⟩ := Oper.apart_spec hap
        have hap2 : Oper.apart ops ⟨some d, .assign (.const v), ty, pos, after, none⟩ oj = true := by
          have q1 := p1 d rfl
          have q2 := p2 d rfl
          have q3 : Oper.looksAt ops ⟨some d, .assign (.const v), ty, pos, after, none⟩ = [] := rfl
          simp only [Oper.apart, q3]
          have r1 : (oj.looksAt ops).contains d = false := by simpa using q1
          have r2 : (oj.dst != some d) = true := by simpa using q2
          rw [r1, r2]
          cases oj.dst <;> rfl
        have hyf : YieldsFenced P ops ⟨some d, .assign (.const v), ty, pos, after, none⟩ v a := ⟨.inl ⟨rfl, fun w => rfl⟩, fun w => rfl⟩
        have h2 := wpOpIn_put hro hoj hap2 (fun cs b e => by cases e) (fun cs b => hsel j oj cs b hoj) (fun c a w h => absurd h (hQ c _ w)) hyf (H.2 j (ready_mono hj hji))
        have h3 := wpOpIn_own hro hoj h2
        refine wpOpIn_mono (fun a' w' h4 => ?_) h3
        obtain ⟨⟨u, df, rfl⟩, _, hS', h5⟩ := h4
        have hy' : YSg P ops S ⟨some d, o, ty, pos, after, g⟩ v (({ a with defers := df } : Act).put oj.dst u) := by
          have e1 := wanted_put ⟨some d, o, ty, pos, after, g⟩ ({ a with defers := df } : Act) oj.dst u p3
          rcases hy with ⟨hw, hy⟩ | ⟨hw, hv, hy⟩
          · refine .inl ⟨by rw [e1]; exact hw, fun w hw => ?_⟩
            rw [execOp_put _ (fun cs b => hsel i _ cs b hi) ({ a with defers := df } : Act) oj.dst u p3, about_put _ w ({ a with defers := df } : Act) oj.dst u p3]
            exact hy w hw
          · refine .inr ⟨by rw [e1]; exact hw, hv, fun w hw => ?_⟩
            rw [about_put _ w ({ a with defers := df } : Act) oj.dst u p3]
            exact hy w hw
        have hfree' : ∀ k ok, ops[k]? = some ok → k ≠ i → (listed.setIfInBounds j true).getD k true = false → (∀ e ∈ ok.after, Region.binds md e = true → e.on ≠ i) → Oper.apart ops ⟨some d, o, ty, pos, after, g⟩ ok = true := fun k ok hk hki hun hno => by
          refine hfree k ok hk hki ?_ hno
          by_cases hjk : j = k
          · subst hjk; exact hjun
          · rw [getD_set_ne true hjk] at hun; exact hun
        refine ⟨hS', ih (listed.setIfInBounds j true) _ w' hfree' (ready_mono hr (Ne.symm hji)) hy' hS' ?_⟩
        rw [Array.setIfInBounds_comm _ _ hji]
        exact h5
  intro fuel listed a w hf hr hy hS H
  exact gen fuel listed a w (Region.free_spec hi hf) (by simpa using hr) hy hS H
end

section
variable {P : Program} {E : Env P} {n : Sh} {X : Cx} {s : List K} {fr : Fr} {A : List Ch} {ops : Array Oper} {d j dj : Nat} {o : Op} {ty : TypeId} {pos : String} {after : Array Edge} {v : Value} {fuel : Nat} {listed : Array Bool} {S : World → Prop} {b b' : Bool}
/-- One whose guard says yes. -/
theorem tkg (i : Nat) (hv : ∀ w, S w → OpV P n fr o ty w v w) (k : TS E n X s S ops fuel (listed.setIfInBounds i true) ((d, v) :: fr) A) (hi : ops[i]? = some ⟨some d, o, ty, pos, after, some (j, b)⟩ := by rfl) (hj : (ops[j]?).bind (·.dst) = some dj := by rfl) (hg : get fr dj = some (.bool b) := by rfl) (hlt : Nat.blt dj n.n = true := by rfl)
    (hs : Region.noSelect ops = true := by kernel_rfl) (hf : Region.free .any ops listed i = true := by kernel_rfl) (hr : (Region.ready .any ops listed).contains i = true := by kernel_rfl) (hrd : n.r = none := by rfl) (hd : Nat.blt d n.n = true := by rfl)
    (hab : ∀ w ρ, (⟨some d, o, ty, pos, after, some (j, b)⟩ : Oper).about P w ρ = none := by exact fun _ _ => rfl) : TS E n X s S ops (fuel + 1) listed fr A :=
  ⟨fun w hw hS a ha => wpAnyS_takeG (by simp [FF, hrd]) hi hs (fun c a w h => h.1 c rfl) fuel listed a w hf hr (.inl ⟨by simp only [Region.wanted, yielded_of ha hj hg hlt, beq_self_eq_true], fun w' hw' => ⟨(hv w' hw').run a ha _ _ _ _, hab _ _⟩⟩) hS (k.run w hw hS _ (ha.put hd v))⟩
/-- One whose guard says no. -/
theorem tkn (i : Nat) (k : TS E n X s S ops fuel (listed.setIfInBounds i true) ((d, undef) :: fr) A) (hi : ops[i]? = some ⟨some d, o, ty, pos, after, some (j, b')⟩ := by rfl) (hj : (ops[j]?).bind (·.dst) = some dj := by rfl) (hg : get fr dj = some (.bool b) := by rfl) (hb : b = !b' := by rfl) (hlt : Nat.blt dj n.n = true := by rfl)
    (hs : Region.noSelect ops = true := by kernel_rfl) (hf : Region.free .any ops listed i = true := by kernel_rfl) (hr : (Region.ready .any ops listed).contains i = true := by kernel_rfl) (hrd : n.r = none := by rfl) (hd : Nat.blt d n.n = true := by rfl)
    (hab : ∀ w ρ, (⟨some d, o, ty, pos, after, some (j, b')⟩ : Oper).about P w ρ = none := by exact fun _ _ => rfl) : TS E n X s S ops (fuel + 1) listed fr A :=
  ⟨fun w hw hS a ha => wpAnyS_takeG (by simp [FF, hrd]) hi hs (fun c a w h => h.1 c rfl) fuel listed a w hf hr (.inr ⟨by subst hb; simp only [Region.wanted, yielded_of ha hj hg hlt]; cases b' <;> rfl, rfl, fun w' _ => hab _ _⟩) hS (k.run w hw hS _ (ha.put hd undef))⟩
theorem tkga (i : Nat) (k : TS E n X s S ops fuel (listed.setIfInBounds i true) ((d, v) :: fr) A) (hi : ops[i]? = some ⟨some d, o, ty, pos, after, some (j, b)⟩ := by rfl) (hv : evOp E fr o = some v := by rfl) (hj : (ops[j]?).bind (·.dst) = some dj := by rfl) (hg : get fr dj = some (.bool b) := by rfl) (hlt : Nat.blt dj n.n = true := by rfl)
    (hs : Region.noSelect ops = true := by kernel_rfl) (hf : Region.free .any ops listed i = true := by kernel_rfl) (hr : (Region.ready .any ops listed).contains i = true := by kernel_rfl) (hrd : n.r = none := by rfl) (hd : Nat.blt d n.n = true := by rfl)
    (hab : ∀ w ρ, (⟨some d, o, ty, pos, after, some (j, b)⟩ : Oper).about P w ρ = none := by exact fun _ _ => rfl) : TS E n X s S ops (fuel + 1) listed fr A := tkg i (fun _ _ => R_auto hv) k hi hj hg hlt hs hf hr hrd hd hab
theorem Holds.dup {a : Act} (ha : Holds n a fr) {t : Nat} {v : Value} (hg : get fr t = some v) : Holds n a ((t, v) :: fr) := ⟨ha.size, ha.defers, fun u x hx => by
  simp only [get] at hx
  by_cases htu : t = u
  · subst htu; simp at hx; subst hx; exact ha.slot _ _ hg
  · have : (Nat.beq t u) = false := nbeq_f htu
    simp only [this, cond_false] at hx
    exact ha.slot _ _ hx⟩
/-- Either way. -/
theorem TS.split {t : Nat} (h1 : b = true → TS E n X s S ops fuel listed ((t, .bool true) :: fr) A) (h2 : b = false → TS E n X s S ops fuel listed ((t, .bool false) :: fr) A) (hg : get fr t = some (.bool b)) : TS E n X s S ops fuel listed fr A := by
  cases b with
  | true => exact ⟨fun w hw hS a ha => (h1 rfl).run w hw hS a (ha.dup hg)⟩
  | false => exact ⟨fun w hw hS a ha => (h2 rfl).run w hw hS a (ha.dup hg)⟩
end
end Go.Art
