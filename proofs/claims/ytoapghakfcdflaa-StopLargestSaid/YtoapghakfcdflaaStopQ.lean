/- What is not known is the largest stopping set: the law. Conditions: none. -/
import Derived.Test.YtoapghakfcdflaaStopP
import Derived.Test.YtoapghakfcdflaaStopL
set_option linter.unusedSimpArgs false
set_option linter.unusedVariables false
namespace Go.Art
open Go Go.Proofs Go.RowKit
attribute [local irreducible] Fit pt own ro vw mpc lpt vels rels mow lrc dfr
attribute [local irreducible] lmp lme mit

theorem R_shl {P : Program} {n : Sh} {fr : Fr} {x y : Operand} {t t' ty : TypeId} {k k' : IntKind} {m c : Int} {w : World} (hx : ev fr x = some (.int k m)) (hy : ev fr y = some (.int k' c)) (hc : 0 ≤ c ∧ c ≤ k.bits) : OpV P n fr (.binOp .shl t x y t') ty w (.int k (k.wrap (m * 2 ^ c.toNat))) w := ⟨fun a ha _ _ _ _ => by
  have hg : (eqGuard .shl t x y (.int k m) (.int k' c)).run P w = .ok () w := rfl
  have h1 : ¬ c < 0 := by omega
  have h2 : min c.toNat k.bits = c.toNat := by omega
  simp only [execOp, ha.ev hx, ha.ev hy]
  simp only [hg, Sem.run_bind, Result.andThen_ok]
  show (Result.andThen ((binOp .shl t (.int k m) (.int k' c)).run P w) _) = _
  simp only [binOp, Op.shift, h1, if_false]
  show Result.ok (Next.value (.int k (k.wrap (m * (2 ^ (min c.toNat k.bits)))))) w = _
  rw [h2]⟩
section
variable {P : Program} {E : Env P} {n : Sh} {X : Cx} {s : List K} {fr : Fr} {A : List Ch} {ops : Array Oper} {rest : List Oper} {d : Nat} {ty t t' : TypeId} {pos : String} {after : Array Edge} {x y : Operand}
/-- 1 << c. -/
theorem shl1 {k' : IntKind} {c : Int} (kk : TO E n X s ops rest ((d, W64 (2 ^ c.toNat)) :: fr) A) (hx : ev fr x = some (W64 1) := by rfl) (hy : ev fr y = some (.int k' c) := by rfl) (hc : 0 ≤ c ∧ c < 64 := by omega) (hd : Nat.blt d n.n = true := by rfl) :
    TO E n X s ops (⟨some d, .binOp .shl t x y t', ty, pos, after, none⟩ :: rest) fr A := TO.val (fun w _ => by
  have h1 := R_shl (P := P) (n := n) (t := t) (t' := t') (ty := ty) (w := w) hx hy ⟨hc.1, show c ≤ 64 by omega⟩
  have h2 : (2 : Int) ^ c.toNat < 2 ^ 64 := Int.pow_lt_pow_of_lt (by decide) (by omega)
  have h3 : (0 : Int) < 2 ^ c.toNat := Int.pow_pos (by decide)
  have e : IntKind.u64.wrap (1 * 2 ^ c.toNat) = 2 ^ c.toNat := by
    rw [Int.one_mul, show ∀ m, IntKind.u64.wrap m = m % 18446744073709551616 from fun m => by simp [IntKind.wrap, IntKind.bits, IntKind.signed]]
    exact Int.emod_eq_of_lt (Int.le_of_lt h3) (by simpa using h2)
  rwa [e] at h1) kk hd
end

section
variable {P : Program} {E : Env P} {n : Sh} {X : Cx} {s : List K} {fr : Fr} {A : List Ch} {ops : Array Oper} {d : Nat} {ty t el : TypeId} {pos : String} {after : Array Edge} {v z : Value} {fuel by_ : Nat} {listed : Array Bool} {S : World → Prop} {x y : Operand} {k1 : IntKind}
theorem tkx (i : Nat) {m : Int} {len : Nat} (hS : ∀ w, S w → ∃ xs, Sl w v xs ∧ xs.length = len) (k : TS E n X s S ops fuel (listed.setIfInBounds i true) ((d, .pointer (some (addrAt v m.toNat))) :: fr) A) (hi : ops[i]? = some ⟨some d, .indexAddr t x y, ty, pos, after, none⟩ := by rfl)
    (hx : ev fr x = some v := by rfl) (hy : ev fr y = some (.int k1 m) := by rfl) (hb : 0 ≤ m ∧ m < len := by omega) (ht : lk E.und t = some (.slice el) := by rfl) (he : lk E.inf el = some (z, 1, by_) := by rfl)
    (hs : Region.noSelect ops = true := by kernel_rfl) (hf : Region.free .any ops listed i = true := by kernel_rfl) (hr : (Region.ready .any ops listed).contains i = true := by kernel_rfl) (hrd : n.r = none := by rfl) (hd : Nat.blt d n.n = true := by rfl) : TS E n X s S ops (fuel + 1) listed fr A :=
  tk i (fun w hw => by obtain ⟨xs, h1, h2⟩ := hS w hw; exact R_idx ht he hx hy h1 (by omega)) k hi hs hf hr hrd hd
theorem tkli (i : Nat) {l : List Int} {j : Nat} {c : Int} {dt : TypeDesc} (hS : ∀ w, S w → Sl w v (Is l)) (hc : l.getD j 0 = c) (k : TS E n X s S ops fuel (listed.setIfInBounds i true) ((d, I c) :: fr) A) (hi : ops[i]? = some ⟨some d, .load t x, ty, pos, after, none⟩ := by rfl)
    (hx : ev fr x = some (.pointer (some (addrAt v j))) := by rfl) (hj : j < l.length := by omega) (ht : lk E.und t = some dt := by rfl) (hg : aggB dt = false := by rfl)
    (hs : Region.noSelect ops = true := by kernel_rfl) (hf : Region.free .any ops listed i = true := by kernel_rfl) (hr : (Region.ready .any ops listed).contains i = true := by kernel_rfl) (hrd : n.r = none := by rfl) (hd : Nat.blt d n.n = true := by rfl) : TS E n X s S ops (fuel + 1) listed fr A :=
  tk i (fun w hw => by subst hc; exact R_load ht hg hx ((hS w hw).geti hj)) k hi hs hf hr hrd hd
end

theorem filter_both (p : Int → Bool) (l : List Int) : (l.filter p).length + (l.filter fun x => !p x).length = l.length := by
  induction l with
  | nil => rfl
  | cons a r ih => simp only [List.filter_cons]; cases p a <;> simp <;> omega
open Classical in
theorem known_large_len (k : Int) (ls : List (List Int)) : (knownL k ls).length + (largeL k ls).length = k.toNat := by
  have := filter_both (fun s => decide (Kn ls s)) (belowI k)
  rw [belowI_len] at this; exact this
theorem large_stops {k : Int} {ls : List (List Int)} (h : ∀ l ∈ ls, isSet k l = true) : isStop ls (largeL k ls) = true := by
  unfold isStop
  rw [Bool.not_eq_true', List.any_eq_false]
  intro l hl hc
  have hc : meetN l (largeL k ls) = 1 := by have : (meetN l (largeL k ls) : Int) = 1 := by simpa using hc
                                            omega
  obtain ⟨s, h1, h2, h3⟩ := cnt_one (p := fun x => decide (x ∈ largeL k ls)) hc
  have h2 : s ∈ largeL k ls := by simpa using h2
  refine (mem_large.1 h2).2 (.mk l s hl h1 fun x hx hne => Classical.byContradiction fun hn => hne (h3 x hx ?_))
  exact decide_eq_true (mem_large.2 ⟨(isSet_iff.1 (h l hl)).2.2 x hx, hn⟩)
theorem stops_large {k : Int} {ls : List (List Int)} {t : List Int} (h : ∀ l ∈ ls, isSet k l = true) (ht : isStop ls t = true) (x : Int) (hx : x ∈ t) : ¬ Kn ls x := fun hk => by
  unfold isStop at ht
  rw [Bool.not_eq_true', List.any_eq_false] at ht
  have := hk.not (p := fun x => decide (x ∈ t)) (fun l hl => isSet_nodup (h l hl)) fun l hl hc => ht l hl (by
    have : meetN l t = 1 := hc
    simp [this])
  simp [hx] at this
theorem bits_pos {k n : Int} (h1 : 1 ≤ n) (h2 : n < 2 ^ k.toNat) (hk : 0 ≤ k) : 0 < (bitsL k n).length := by
  refine Nat.pos_of_ne_zero fun h0 => ?_
  have hz : ∀ i : Nat, (i : Int) < k → n.toNat / 2 ^ i % 2 = 0 := fun i hi => by
    have hm : (i : Int) ∉ bitsL k n := by rw [List.length_eq_zero_iff.1 h0]; simp
    rw [mem_bits] at hm
    have h3 : ¬ n / 2 ^ i % 2 = 1 := fun e => hm ⟨⟨by omega, hi⟩, by simpa using e⟩
    have h4 : ((n.toNat / 2 ^ i % 2 : Nat) : Int) = n / 2 ^ i % 2 := by
      rw [Int.natCast_emod, Int.natCast_ediv, Int.natCast_pow]; simp [Int.toNat_of_nonneg (show 0 ≤ n by omega)]
    omega
  have hmod : ∀ j : Nat, (j : Int) ≤ k → n.toNat % 2 ^ j = 0 := fun j => by
    induction j with
    | zero => intro _; simp [Nat.mod_one]
    | succ j ih =>
      intro hj
      rw [Nat.mod_pow_succ, ih (by omega), hz j (by omega)]; rfl
  have h5 := hmod k.toNat (by omega)
  have h6 : n.toNat < 2 ^ k.toNat := by
    have : ((2 ^ k.toNat : Nat) : Int) = 2 ^ k.toNat := by rw [Int.natCast_pow]; rfl
    omega
  rw [Nat.mod_eq_of_lt h6] at h5
  omega

/-- How often each symbol stands in two lists, the second one's twice. -/
def thereL (k : Int) (a b : List Int) : List Int := (belowI k).map fun s => (if s ∈ a then 1 else 0) + if s ∈ b then 2 else 0
theorem there_len (k : Int) (a b : List Int) : (thereL k a b).length = k.toNat := by unfold thereL; rw [List.length_map, belowI_len]
theorem there_get {k s : Int} (h : 0 ≤ s ∧ s < k) (a b : List Int) : (thereL k a b).getD s.toNat 0 = (if s ∈ a then 1 else 0) + if s ∈ b then 2 else 0 := by
  have h1 : s.toNat < (belowI k).length := by rw [belowI_len]; omega
  have h2 := belowI_get (k := k) (i := s.toNat) (by omega)
  have h3 : (belowI k)[s.toNat] = s := by
    have : (belowI k).getD s.toNat 0 = (belowI k)[s.toNat] := by simp [List.getD_eq_getElem?_getD, h1]
    rw [← this, h2]; omega
  unfold thereL
  simp only [List.getD_eq_getElem?_getD, List.getElem?_map, List.getElem?_eq_getElem h1, Option.map_some, Option.getD_some, h3]
theorem there_ext {k : Int} {l m : List Int} (hl : l.length = k.toNat) (hm : m.length = k.toNat) (h : ∀ s, 0 ≤ s → s < k → l.getD s.toNat 0 = m.getD s.toNat 0) : l = m :=
  eq_of_getD (by omega) fun j hj => by have := h j (by omega) (by omega); simpa using this
theorem there_set {k x : Int} (a b a' b' : List Int) (hx : 0 ≤ x ∧ x < k) (h : ∀ s, 0 ≤ s → s < k → s ≠ x → (s ∈ a' ↔ s ∈ a) ∧ (s ∈ b' ↔ s ∈ b)) {v : Int} (hv : v = (if x ∈ a' then 1 else 0) + if x ∈ b' then 2 else 0) : (thereL k a b).set x.toNat v = thereL k a' b' := by
  have hl := there_len k a b
  refine there_ext (k := k) (by simp [hl]) (there_len _ _ _) fun s h0 hk => ?_
  rw [there_get ⟨h0, hk⟩]
  by_cases e : s = x
  · subst e; rw [getD_set _ _ _ _ (by omega), if_pos rfl, hv]
  · rw [getD_set _ _ _ _ (by omega), if_neg (by omega), there_get ⟨h0, hk⟩]
    have := h s h0 hk e
    simp only [this.1, this.2]
theorem there_nil (k : Int) : List.replicate k.toNat 0 = thereL k [] [] := there_ext (k := k) (by simp) (there_len _ _ _) fun s h0 hk => by
  rw [there_get ⟨h0, hk⟩]; simp only [List.getD_eq_getElem?_getD, List.getElem?_replicate]; rw [if_pos (by omega)]; simp
end Go.Art
