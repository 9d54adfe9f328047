/- Drawn regions that write: what only reads pieces that stay as they are is taken ahead; the rest one by one. Conditions: none. -/
import Derived.Test.YthgghnaioddkcaaW
set_option linter.unusedSimpArgs false
set_option linter.unusedVariables false
namespace Go.Art
open Go Go.RowKit

section
variable {F : Fence} {m : Nat} {P : Program} {md : Region.Mode} {ops : Array Oper} {Q : Exit → Act → World → Prop} {S : World → Prop}
/-- Whatever order is drawn; S holds behind every operation. -/
def wpAnyS (F : Fence) (m : Nat) (P : Program) (md : Region.Mode) (ops : Array Oper) (Q : Exit → Act → World → Prop) (S : World → Prop) : Nat → Array Bool → Act → World → Prop
  | 0, listed, a, w => Region.ready md ops listed = [] ∧ Q .normal a w
  | fuel + 1, listed, a, w => (Region.ready md ops listed = [] → Q .normal a w) ∧ ∀ i ∈ Region.ready md ops listed, wpOpIn F m P ops Q i (fun a' w' => S w' ∧ wpAnyS F m P md ops Q S fuel (listed.setIfInBounds i true) a' w') a w
theorem wpAnyS_sound : ∀ {fuel : Nat} {listed : Array Bool} {a : Act} {w : World}, wpAnyS F m P md ops Q S fuel listed a w → wpAnyIn F m P md ops Q fuel listed a w
  | 0, _, _, _, h => h
  | _ + 1, _, _, _, h => ⟨h.1, fun i hi => wpOpIn_mono (fun _ _ h' => wpAnyS_sound h'.2) (h.2 i hi)⟩
/-- An operation changes its own slot alone. -/
theorem wpOpIn_own {j : Nat} {oj : Oper} {K : Act → World → Prop} {a : Act} {w : World} (hro : F.round = none) (hj : ops[j]? = some oj) (h : wpOpIn F m P ops Q j K a w) :
    wpOpIn F m P ops Q j (fun a' w' => (∃ u df, a' = ({ a with defers := df } : Act).put oj.dst u) ∧ K a' w') a w := by
  unfold wpOpIn at *
  simp only [hj] at *
  split
  · rename_i hw
    simp only [hw, if_true] at h
    refine ⟨h.1, ?_⟩
    have h := h.2
    generalize (oj.semAt F.round a.eval).run P w = r at *
    cases r with
    | ok x w' =>
      cases x <;> simp only [Oper.uponIn] at h ⊢
      case value u => exact ⟨⟨u, a.defers, rfl⟩, h⟩
      case skip => exact ⟨⟨undef, a.defers, rfl⟩, h⟩
      case defer d => exact ⟨⟨undef, _, rfl⟩, h⟩
      case enter f args => exact ⟨h.1, CallsIn.mono h.2 fun e w'' he => by cases e <;> first | exact ⟨⟨_, a.defers, rfl⟩, he⟩ | exact he⟩
      case row row args => exact ⟨h.1, RowsIn.mono h.2 fun u w'' he => ⟨⟨u, a.defers, rfl⟩, he⟩⟩
      case round l f tmps assign body => exact ⟨h.1, RoundIn.mono h.2 fun e w'' he => by cases e <;> first | exact ⟨⟨_, a.defers, rfl⟩, he⟩ | exact he⟩
    | halt x w' => cases x <;> simp only [Oper.uponIn] at h ⊢; exact h
  · rename_i hw
    simp only [hw] at h
    exact ⟨h.1, ⟨_, a.defers, rfl⟩, h.2⟩
/-- In every world of S the operation yields v and leaves the world. -/
def YS (P : Program) (S : World → Prop) (o : Oper) (v : Value) (a : Act) : Prop := ∀ w, S w → (execOp a.eval o).run P w = .ok (.value v) w ∧ o.about P w a.eval = none
theorem wpAnyS_take {i d : Nat} {o : Op} {ty : TypeId} {pos : String} {after : Array Edge} {v : Value} (hro : F.round = none) (hi : ops[i]? = some ⟨some d, o, ty, pos, after, none⟩) (hs : Region.noSelect ops = true) (hQ : ∀ c a w, ¬ Q (.panic c) a w) :
    ∀ (fuel : Nat) (listed : Array Bool) (a : Act) (w : World), Region.free md ops listed i = true → (Region.ready md ops listed).contains i = true → YS P S ⟨some d, o, ty, pos, after, none⟩ v a → S w →
      wpAnyS F m P md ops Q S fuel (listed.setIfInBounds i true) (a.put (some d) v) w → wpAnyS F m P md ops Q S (fuel + 1) listed a w := by
  have hsel := fun j oj cs b (h : ops[j]? = some oj) => Region.noSelect_spec hs j oj cs b h
  have now : ∀ (K : Act → World → Prop) (a : Act) (w : World), YS P S ⟨some d, o, ty, pos, after, none⟩ v a → S w → K (a.put (some d) v) w → wpOpIn F m P ops Q i K a w := fun K a w hy hS h => by
    unfold wpOpIn
    simp only [hi, Region.wanted, if_true, Oper.wpIn, hro, Oper.semAt_none, (hy w hS).1, Oper.uponIn]
    exact ⟨fun f hf => (by rw [(hy w hS).2] at hf; cases hf), h⟩
  have gen : ∀ (fuel : Nat) (listed : Array Bool) (a : Act) (w : World), (∀ j oj, ops[j]? = some oj → j ≠ i → listed.getD j true = false → (∀ e ∈ oj.after, Region.binds md e = true → e.on ≠ i) → Oper.apart ops ⟨some d, o, ty, pos, after, none⟩ oj = true) →
      i ∈ Region.ready md ops listed → YS P S ⟨some d, o, ty, pos, after, none⟩ v a → S w → wpAnyS F m P md ops Q S fuel (listed.setIfInBounds i true) (a.put (some d) v) w → wpAnyS F m P md ops Q S (fuel + 1) listed a w := by
    intro fuel
    induction fuel with
    | zero =>
      intro listed a w _ hr hy hS H
      refine ⟨fun h => (by rw [h] at hr; cases hr), fun j hj => ?_⟩
      by_cases hji : j = i
      · subst hji; exact now _ a w hy hS ⟨hS, H⟩
      · have := ready_mono hj hji
        rw [H.1] at this
        cases this
    | succ fuel ih =>
      intro listed a w hfree hr hy hS H
      refine ⟨fun h => (by rw [h] at hr; cases hr), fun j hj => ?_⟩
      by_cases hji : j = i
      · subst hji; exact now _ a w hy hS ⟨hS, H⟩
      · obtain ⟨hjun, oj, hoj, hall⟩ := mem_ready.1 hj
        have hnot : ∀ e ∈ oj.after, Region.binds md e = true → e.on ≠ i := fun e he hb heq => by
          have h1 := hall e he hb
          have h0 := (mem_ready.1 hr).1
          rw [heq] at h1
          rcases Nat.lt_or_ge i listed.size with h' | h'
          · simp [h'] at h0 h1; rw [h0] at h1; cases h1
          · simp [Array.getElem?_eq_none h'] at h1
        have hap := hfree j oj hoj hji hjun hnot
        obtain ⟨p1, p2, p3⟩ := Oper.apart_spec hap
        have hap2 : Oper.apart ops ⟨some d, .assign (.const v), ty, pos, after, none⟩ oj = true := by
          have q1 := p1 d rfl
          have q2 := p2 d rfl
          have q3 : Oper.looksAt ops ⟨some d, .assign (.const v), ty, pos, after, none⟩ = [] := rfl
          simp only [Oper.apart, q3]
          have r1 : (oj.looksAt ops).contains d = false := by simpa using q1
          have r2 : (oj.dst != some d) = true := by simpa using q2
          rw [r1, r2]
          cases oj.dst <;> rfl
        have hyf : YieldsFenced P ops ⟨some d, .assign (.const v), ty, pos, after, none⟩ v a := ⟨.inl ⟨rfl, fun w => rfl⟩, fun w => rfl⟩
        have h2 := wpOpIn_put hro hoj hap2 (fun cs b e => by cases e) (fun cs b => hsel j oj cs b hoj) (fun c a w h => absurd h (hQ c _ w)) hyf (H.2 j (ready_mono hj hji))
        have h3 := wpOpIn_own hro hoj h2
        refine wpOpIn_mono (fun a' w' h4 => ?_) h3
        obtain ⟨⟨u, df, rfl⟩, _, hS', h5⟩ := h4
        have hy' : YS P S ⟨some d, o, ty, pos, after, none⟩ v (({ a with defers := df } : Act).put oj.dst u) := fun w hw => by
          rw [execOp_put _ (fun cs b => hsel i _ cs b hi) ({ a with defers := df } : Act) oj.dst u p3, about_put _ w ({ a with defers := df } : Act) oj.dst u p3]
          exact hy w hw
        have hfree' : ∀ k ok, ops[k]? = some ok → k ≠ i → (listed.setIfInBounds j true).getD k true = false → (∀ e ∈ ok.after, Region.binds md e = true → e.on ≠ i) → Oper.apart ops ⟨some d, o, ty, pos, after, none⟩ ok = true := fun k ok hk hki hun hno => by
          refine hfree k ok hk hki ?_ hno
          by_cases hjk : j = k
          · subst hjk; exact hjun
          · rw [getD_set_ne true hjk] at hun; exact hun
        refine ⟨hS', ih (listed.setIfInBounds j true) _ w' hfree' (ready_mono hr (Ne.symm hji)) hy' hS' ?_⟩
        rw [Array.setIfInBounds_comm _ _ hji]
        exact h5
  intro fuel listed a w hf hr hy hS H
  exact gen fuel listed a w (Region.free_spec hi hf) (by simpa using hr) hy hS H
end

/-- Behind an operation: the rest, or the panic. -/
def RQ (P : Program) (ops : Array Oper) (r : Option Nat) (Q : Exit → Act → World → Prop) (S : World → Prop) (fuel : Nat) (listed : Array Bool) : Exit → Act → World → Prop := fun e a w =>
  match e with
  | .normal => S w ∧ wpAnyS (FF r) 0 P .any ops Q S fuel listed a w
  | e => Q e a w
structure TS {P : Program} (E : Env P) (n : Sh) (X : Cx) (s : List K) (S : World → Prop) (ops : Array Oper) (fuel : Nat) (listed : Array Bool) (fr : Fr) (A : List Ch) : Prop where
  run : ∀ w, St X A w → S w → ∀ a, Holds n a fr → wpAnyS (FF n.r) 0 P .any ops (NP P n.r X.Q s) S fuel listed a w

section
variable {P : Program} {E : Env P} {n : Sh} {X : Cx} {s : List K} {fr : Fr} {A A' B : List Ch} {ops : Array Oper} {d : Nat} {o : Op} {ty : TypeId} {pos : String} {after : Array Edge} {v : Value} {fuel : Nat} {listed : Array Bool} {S : World → Prop}
theorem rs {id : Nat} {l : List Oper} (S : World → Prop) (h : TS E n X s S l.toArray l.length (Array.replicate l.length false) fr A) (hS : ∀ w, Sat A w → S w) : TC E n X s (.region id l.toArray true) fr A :=
  ⟨fun w hw => ⟨fun a ha => Code.wpIn_mono (fun (e : Exit) (a : Act) (w : World) (h : NP P n.r X.Q s e a w) => h.2) (wpIn_region_any E.mixed (by
    have h1 := hw.ext (Upd.draw w)
    have := wpAnyS_sound (h.run _ h1 (hS _ h1.sat) a ha)
    simpa using this))⟩⟩
/-- One that reads, taken ahead. -/
theorem tk (i : Nat) (hv : ∀ w, S w → OpV P n fr o ty w v w) (k : TS E n X s S ops fuel (listed.setIfInBounds i true) ((d, v) :: fr) A) (hi : ops[i]? = some ⟨some d, o, ty, pos, after, none⟩ := by rfl) (hs : Region.noSelect ops = true := by kernel_rfl) (hf : Region.free .any ops listed i = true := by kernel_rfl)
    (hr : (Region.ready .any ops listed).contains i = true := by kernel_rfl) (hrd : n.r = none := by rfl) (hd : Nat.blt d n.n = true := by rfl) (hab : ∀ w ρ, (⟨some d, o, ty, pos, after, none⟩ : Oper).about P w ρ = none := by exact fun _ _ => rfl) : TS E n X s S ops (fuel + 1) listed fr A :=
  ⟨fun w hw hS a ha => wpAnyS_take (by simp [FF, hrd]) hi hs (fun c a w h => h.1 c rfl) fuel listed a w hf hr (fun w' hw' => ⟨(hv w' hw').run a ha _ _ _ _, hab _ _⟩) hS (k.run w hw hS _ (ha.put hd v))⟩
theorem tka (i : Nat) (k : TS E n X s S ops fuel (listed.setIfInBounds i true) ((d, v) :: fr) A) (hi : ops[i]? = some ⟨some d, o, ty, pos, after, none⟩ := by rfl) (hv : evOp E fr o = some v := by rfl) (hs : Region.noSelect ops = true := by kernel_rfl) (hf : Region.free .any ops listed i = true := by kernel_rfl)
    (hr : (Region.ready .any ops listed).contains i = true := by kernel_rfl) (hrd : n.r = none := by rfl) (hd : Nat.blt d n.n = true := by rfl) (hab : ∀ w ρ, (⟨some d, o, ty, pos, after, none⟩ : Oper).about P w ρ = none := by exact fun _ _ => rfl) : TS E n X s S ops (fuel + 1) listed fr A :=
  tk i (fun _ _ => R_auto hv) k hi hs hf hr hrd hd hab
theorem tkl (i : Nat) {t : TypeId} {x : Operand} {b j : Nat} {cs : List Value} {T : TypeId} {dt : TypeDesc} (hm : ∀ w, S w → w.heap[b]? = some (.cells cs.toArray T (0, 0))) (k : TS E n X s S ops fuel (listed.setIfInBounds i true) ((d, v) :: fr) A) (hi : ops[i]? = some ⟨some d, .load t x, ty, pos, after, none⟩ := by rfl) (hx : ev fr x = some (.pointer (some ⟨b, j, none⟩)) := by rfl)
    (hj : cs[j]? = some v := by rfl) (ht : lk E.und t = some dt := by rfl) (hg : aggB dt = false := by rfl) (hs : Region.noSelect ops = true := by kernel_rfl) (hf : Region.free .any ops listed i = true := by kernel_rfl)
    (hr : (Region.ready .any ops listed).contains i = true := by kernel_rfl) (hrd : n.r = none := by rfl) (hd : Nat.blt d n.n = true := by rfl) : TS E n X s S ops (fuel + 1) listed fr A :=
  tk i (fun w hw => R_load ht hg hx (blk_cell (hm w hw) (by simpa using hj))) k hi hs hf hr hrd hd
/-- Any of those that may come. -/
theorem tn (is : List Nat) (hr : Region.ready .any ops listed = is) (hne : is ≠ []) (k : ∀ i ∈ is, ∃ oi, ops[i]? = some oi ∧ TO E n ⟨RQ P ops n.r (NP P n.r X.Q s) S fuel (listed.setIfInBounds i true), X.w0, X.A0⟩ [] ops [oi] fr A) : TS E n X s S ops (fuel + 1) listed fr A := ⟨fun w hw hS a ha => by
  refine ⟨fun h => absurd (hr ▸ h) hne, fun i hi0 => ?_⟩
  rw [hr] at hi0
  obtain ⟨oi, hi, k⟩ := k i hi0
  have h := (k.run w ⟨hw.sat, hw.mv⟩).run a ha
  simp only [den] at h
  unfold wpOpIn
  simp only [hi]
  unfold wpListIn at h
  split
  · rename_i hwt
    simp only [hwt, if_true] at h
    unfold Oper.wpIn at *
    refine ⟨h.1, ?_⟩
    have h := h.2
    generalize (oi.semAt (FF n.r).round a.eval).run P w = r at *
    cases r with
    | ok x w' =>
      cases x <;> simp only [Oper.uponIn] at h ⊢
      case value u => exact h
      case skip => exact h
      case defer d => exact h
      case enter f args => exact ⟨h.1, CallsIn.mono h.2 fun e w'' he => by cases e <;> first | exact he | (exact absurd rfl (he.1 _)) | exact he⟩
      case row row args => exact ⟨h.1, RowsIn.mono h.2 fun u w'' he => he⟩
      case round l f tmps assign body => exact ⟨h.1, RoundIn.mono h.2 fun e w'' he => by cases e <;> first | exact he | (exact absurd rfl (he.1 _)) | exact he⟩
    | halt x w' => cases x <;> simp only [Oper.uponIn] at h ⊢; exact h
  · rename_i hwt
    simp only [hwt] at h
    exact h⟩
/-- The only one that may come; one of two. -/
theorem t1 (i : Nat) {oi : Oper} (k : TO E n ⟨RQ P ops n.r (NP P n.r X.Q s) S fuel (listed.setIfInBounds i true), X.w0, X.A0⟩ [] ops [oi] fr A) (hi : ops[i]? = some oi := by rfl) (hr : Region.ready .any ops listed = [i] := by kernel_rfl) : TS E n X s S ops (fuel + 1) listed fr A :=
  tn [i] hr (by simp) fun j hj => by obtain rfl : j = i := by simpa using hj
                                     exact ⟨oi, hi, k⟩
theorem t2 (i j : Nat) {oi oj : Oper} (k : TO E n ⟨RQ P ops n.r (NP P n.r X.Q s) S fuel (listed.setIfInBounds i true), X.w0, X.A0⟩ [] ops [oi] fr A) (k2 : TO E n ⟨RQ P ops n.r (NP P n.r X.Q s) S fuel (listed.setIfInBounds j true), X.w0, X.A0⟩ [] ops [oj] fr A) (hi : ops[i]? = some oi := by rfl) (hj : ops[j]? = some oj := by rfl)
    (hr : Region.ready .any ops listed = [i, j] := by kernel_rfl) : TS E n X s S ops (fuel + 1) listed fr A :=
  tn [i, j] hr (by simp) fun m hm => by
    simp only [List.mem_cons, List.not_mem_nil, or_false] at hm
    rcases hm with rfl | rfl
    · exact ⟨oi, hi, k⟩
    · exact ⟨oj, hj, k2⟩
theorem te (hS : ∀ w, Sat A w → S w) (k : TS E n X s S ops fuel listed fr A) : TX E n ⟨RQ P ops n.r (NP P n.r X.Q s) S fuel listed, X.w0, X.A0⟩ [] .normal fr A :=
  ⟨fun w hw => ⟨fun a ha => ⟨hS w hw.sat, k.run w ⟨hw.sat, hw.mv⟩ (hS w hw.sat) a ha⟩⟩⟩
/-- The end. -/
theorem t0 (k : TX E n X s .normal fr A) (hr : Region.ready .any ops listed = [] := by kernel_rfl) : TS E n X s S ops fuel listed fr A := ⟨fun w hw _ a ha => by
  have h := (k.run w hw).run a ha
  cases fuel with
  | zero => exact ⟨hr, fun c e => (by cases e), h⟩
  | succ fuel => exact ⟨fun _ => ⟨fun c e => (by cases e), h⟩, fun i hi => (by rw [hr] at hi; cases hi)⟩⟩
end
end Go.Art
