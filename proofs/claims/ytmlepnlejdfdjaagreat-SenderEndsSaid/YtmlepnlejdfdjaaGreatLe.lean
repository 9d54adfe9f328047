/- Texts put together: Xo Xi Bs Er En. Conditions: none. -/
import Derived.Test.YtmlepnlejdfdjaaGreatLd
set_option linter.unusedSimpArgs false
set_option linter.unusedVariables false
namespace Go.Art
open Go Go.Proofs Go.RowKit
theorem By_len (l : List Int) : (By l).length = l.length := List.length_map ..
theorem By_get (l : List Int) (i : Nat) (h : i < l.length) : (By l)[i]? = some (y8 (l.getD i 0)) := by simp [List.getD_eq_getElem?_getD, h]
theorem By_set (l : List Int) (i : Nat) (c : Int) : By (l.set i c) = (By l).set i (y8 c) := by simp [List.map_set]
theorem By_one (l : List Int) : ∀ c ∈ By l, c.oneCell' = true := fun c hc => by obtain ⟨x, _, rfl⟩ := List.mem_map.1 hc; rfl
/-- The sum, of the first i. -/
def xorL (l m : List Int) : List Int := List.zipWith bxr l m
def mid (l m : List Int) (i : Nat) : List Int := (xorL l m).take i ++ l.drop i
theorem xorL_len {l m : List Int} (h : l.length = m.length) : (xorL l m).length = l.length := by unfold xorL; simp; omega
theorem mid_len {l m : List Int} (h : l.length = m.length) (i : Nat) : (mid l m i).length = l.length := by unfold mid; simp [xorL_len h]; omega
theorem xorL_get {l m : List Int} (h : l.length = m.length) {i : Nat} (hi : i < l.length) : (xorL l m).getD i 0 = bxr (l.getD i 0) (m.getD i 0) := by
  unfold xorL
  simp [List.getD_eq_getElem?_getD, List.getElem?_zipWith, hi, show i < m.length by omega]
theorem mid_get {l m : List Int} (h : l.length = m.length) (i j : Nat) (hj : j < l.length) : (mid l m i).getD j 0 = if j < i then bxr (l.getD j 0) (m.getD j 0) else l.getD j 0 := by
  have hx := xorL_len h
  unfold mid
  by_cases c : j < i
  · rw [if_pos c, ← xorL_get h hj]
    simp only [List.getD_eq_getElem?_getD]
    rw [List.getElem?_append_left (by simp; omega), List.getElem?_take, if_pos c]
  · rw [if_neg c]
    simp only [List.getD_eq_getElem?_getD]
    rw [List.getElem?_append_right (by simp; omega), List.getElem?_drop]
    congr 2; simp; omega
theorem ext_getD {l m : List Int} (h : l.length = m.length) (hg : ∀ i, i < l.length → l.getD i 0 = m.getD i 0) : l = m := by
  refine List.ext_getElem h fun i h1 h2 => ?_
  have := hg i h1
  simpa [List.getD_eq_getElem?_getD, h1, h2] using this
theorem mid_set {l m : List Int} (h : l.length = m.length) (i : Nat) (hi : i < l.length) : (mid l m i).set i (bxr (l.getD i 0) (m.getD i 0)) = mid l m (i + 1) := by
  refine ext_getD (by rw [List.length_set, mid_len h, mid_len h]) fun j hj => ?_
  rw [List.length_set, mid_len h] at hj
  rw [getD_set _ _ _ _ (by rw [mid_len h]; exact hi), mid_get h _ _ hj, mid_get h _ _ hj]
  by_cases c : j = i
  · subst c; rw [if_pos rfl, if_pos (by omega)]
  · rw [if_neg (by omega)]; by_cases c2 : j < i
    · rw [if_pos c2, if_pos (by omega)]
    · rw [if_neg c2, if_neg (by omega)]
theorem mid_zero (l m : List Int) : mid l m 0 = l := by simp [mid]
theorem mid_all {l m : List Int} (h : l.length = m.length) : mid l m l.length = xorL l m := by
  unfold mid; rw [List.drop_length, List.append_nil, List.take_of_length_le (by rw [xorL_len h]; omega)]
/-- Eight from k on. -/
def e8 (l : List Int) (k : Nat) : List Int := (l.drop k).take 8
theorem e8_len {l : List Int} {k : Nat} (h : k + 8 ≤ l.length) : (e8 l k).length = 8 := by unfold e8; simp; omega
theorem e8_get {l : List Int} {k : Nat} (h : k + 8 ≤ l.length) {i : Nat} (hi : i < 8) : (e8 l k).getD i 0 = l.getD (k + i) 0 := by
  unfold e8; simp only [List.getD_eq_getElem?_getD]; rw [List.getElem?_take, if_pos hi, List.getElem?_drop]
theorem mid_lay {l m : List Int} (h : l.length = m.length) {k : Nat} (hk : k + 8 ≤ l.length) : lay (mid l m k) k (xorL (e8 (mid l m k) k) (e8 m k)) = mid l m (k + 8) := by
  have hm := mid_len h k
  have h8 : (e8 (mid l m k) k).length = (e8 m k).length := by rw [e8_len (by omega), e8_len (by omega)]
  have hx : (xorL (e8 (mid l m k) k) (e8 m k)).length = 8 := by rw [xorL_len h8, e8_len (by omega)]
  refine ext_getD (by rw [lay_len (by omega), hm, mid_len h]) fun j hj => ?_
  rw [lay_len (by omega), hm] at hj
  rw [mid_get h _ _ hj]
  unfold lay
  rw [hx]
  simp only [List.getD_eq_getElem?_getD, List.getElem?_append, List.length_append, List.length_take]
  rw [hx, show min k (mid l m k).length = k by omega]
  by_cases c1 : j < k
  · rw [if_pos (by omega), if_pos c1, if_pos (by omega), List.getElem?_take, if_pos c1]
    have := mid_get h k j hj
    rw [if_pos c1, List.getD_eq_getElem?_getD] at this
    simpa [List.getD_eq_getElem?_getD] using this
  · by_cases c2 : j < k + 8
    · rw [if_pos c2, if_neg c1, if_pos c2]
      have h2 := xorL_get h8 (i := j - k) (by rw [e8_len (by omega)]; omega)
      rw [e8_get (by omega) (by omega), e8_get (by omega) (by omega), show k + (j - k) = j by omega, mid_get h _ _ hj, if_neg c1] at h2
      simpa [List.getD_eq_getElem?_getD] using h2
    · rw [if_neg c2, if_neg c2, List.getElem?_drop, show k + 8 + (j - (k + 8)) = j by omega]
      have := mid_get h k j hj
      rw [if_neg c1, List.getD_eq_getElem?_getD] at this
      simpa [List.getD_eq_getElem?_getD] using this
theorem cells8 {w : World} {a : Value} {l : List Int} {k : Nat} (h : Sl w a (By l)) (hk : k + 8 ≤ l.length) : ∀ m u, (By (e8 l k))[m]? = some u → w.cell? ((addrAt a k).add m) = some u := by
  intro m u hu
  have hm : m < 8 := by
    have := (List.getElem?_eq_some_iff.1 hu).1
    rw [By_len, e8_len hk] at this; exact this
  have hc : (By l)[k + m]? = some u := by
    rw [By_get _ _ (by rw [e8_len hk]; exact hm), e8_get hk hm] at hu
    rw [By_get _ _ (by omega)]; exact hu
  have := h.cell hc
  obtain ⟨o, c, rfl, h1, h2, h3⟩ := h
  obtain ⟨x, rfl, _⟩ := h3 _ _ hc
  show w.cell? ((x.add k).add m) = some u
  rw [Addr_add_add _ _ _ (.inr trivial)]; exact this
theorem By_lay (l : List Int) (k : Nat) (m : List Int) : (By l).take k ++ By m ++ (By l).drop (k + (By m).length) = By (lay l k m) := by
  unfold lay; rw [By_len]; simp only [By, List.map_append, List.map_take, List.map_drop]
theorem rfl0 {cs : List Value} (l : List Value) (h : cs.length ≤ 8 := by decide) : cs.take 0 ++ l ++ cs.drop (0 + 8) = l := by rw [List.take_zero, List.nil_append, Nat.zero_add, List.drop_eq_nil_of_le h, List.append_nil]
theorem SetAt.of (v : Value) : ∀ (cs : List Value) (j : Nat), j < cs.length → SetAt v cs j (cs.set j v)
  | [], j, h => by simp at h
  | c :: r, 0, _ => SetAt.z _ _
  | c :: r, j + 1, h => SetAt.s _ (SetAt.of v r j (by simpa using h))
section
variable {P : Program} {E : Env P} {n : Sh} {X : Cx} {s : List K} {fr : Fr} {A A' : List Ch} {ops : Array Oper} {rest : List Oper} {d : Nat} {ty t t' el : TypeId} {pos : String} {after : Array Edge} {z v a u : Value} {x y : Operand} {k by_ N : Nat} {xs : List Value} {m : Nat}
/-- The length of a piece. -/
theorem lnt (hn : xs.length = N) (tl : Tl a v N k) (kk : TO E n X s ops rest ((d, I ((N - k : Nat) : Int)) :: fr) A) (hx : ev fr x = some v := by rfl) (hh : Has A (vw a xs) := by first | (apply has_vw; (repeat (first | apply List.Mem.head | apply List.Mem.tail)); first | done | fail) | (apply has_own; (repeat (first | apply List.Mem.head | apply List.Mem.tail)); first | done | fail) | (apply has_ro; (repeat (first | apply List.Mem.head | apply List.Mem.tail)); first | done | fail) | apply has_nil | ((with_reducible apply has_el); (focus (first | (apply has_vels; (repeat (first | apply List.Mem.head | apply List.Mem.tail)); first | done | fail) | (apply has_rels; (repeat (first | apply List.Mem.head | apply List.Mem.tail)); first | done | fail))); omega) | (apply has_pt; (repeat (first | apply List.Mem.head | apply List.Mem.tail)); first | done | fail) | (apply has_lpt; (repeat (first | apply List.Mem.head | apply List.Mem.tail)); first | done | fail) | (apply has_vels; (repeat (first | apply List.Mem.head | apply List.Mem.tail)); first | done | fail) | (apply has_rels; (repeat (first | apply List.Mem.head | apply List.Mem.tail)); first | done | fail) | with_reducible assumption | ((with_reducible apply has_elg); (focus (first | (apply has_velg; (repeat (first | apply List.Mem.head | apply List.Mem.tail)); first | done | fail) | (apply has_relg; (repeat (first | apply List.Mem.head | apply List.Mem.tail)); first | done | fail))); omega) | (apply has_velg; (repeat (first | apply List.Mem.head | apply List.Mem.tail)); first | done | fail) | (apply has_relg; (repeat (first | apply List.Mem.head | apply List.Mem.tail)); first | done | fail) | (apply has_vwf; (repeat (first | apply List.Mem.head | apply List.Mem.tail)); first | done | fail)) (ht : lk E.und t = some (.slice el) := by rfl) (hd : Nat.blt d n.n = true := by rfl) :
    TO E n X s ops (⟨some d, .call ⟨.builtin .len, #[x], #[t]⟩, ty, pos, after, none⟩ :: rest) fr A := ln (xs := xs.drop k) (by rw [List.length_drop, hn]; exact kk) hx ((hn.symm ▸ tl : Tl a v xs.length k).has hh) ht hd
/-- A piece of a piece, read in a drawn region. -/
theorem qst {lo : Int} {k1 : IntKind} {zo : Operand} (hn : xs.length = N) (tl : Tl a v N k) (kk : TQ E n X s ops rest ((d, slSub v lo.toNat (N - k)) :: fr) A) (hx : ev fr x = some v := by rfl) (hl : ev fr zo = some (.int k1 lo) := by rfl) (hb : 0 ≤ lo ∧ lo ≤ ((N - k : Nat) : Int) := by omega) (hh : Has A (vw a xs) := by first | (apply has_vw; (repeat (first | apply List.Mem.head | apply List.Mem.tail)); first | done | fail) | (apply has_own; (repeat (first | apply List.Mem.head | apply List.Mem.tail)); first | done | fail) | (apply has_ro; (repeat (first | apply List.Mem.head | apply List.Mem.tail)); first | done | fail) | apply has_nil | ((with_reducible apply has_el); (focus (first | (apply has_vels; (repeat (first | apply List.Mem.head | apply List.Mem.tail)); first | done | fail) | (apply has_rels; (repeat (first | apply List.Mem.head | apply List.Mem.tail)); first | done | fail))); omega) | (apply has_pt; (repeat (first | apply List.Mem.head | apply List.Mem.tail)); first | done | fail) | (apply has_lpt; (repeat (first | apply List.Mem.head | apply List.Mem.tail)); first | done | fail) | (apply has_vels; (repeat (first | apply List.Mem.head | apply List.Mem.tail)); first | done | fail) | (apply has_rels; (repeat (first | apply List.Mem.head | apply List.Mem.tail)); first | done | fail) | with_reducible assumption | ((with_reducible apply has_elg); (focus (first | (apply has_velg; (repeat (first | apply List.Mem.head | apply List.Mem.tail)); first | done | fail) | (apply has_relg; (repeat (first | apply List.Mem.head | apply List.Mem.tail)); first | done | fail))); omega) | (apply has_velg; (repeat (first | apply List.Mem.head | apply List.Mem.tail)); first | done | fail) | (apply has_relg; (repeat (first | apply List.Mem.head | apply List.Mem.tail)); first | done | fail) | (apply has_vwf; (repeat (first | apply List.Mem.head | apply List.Mem.tail)); first | done | fail))
    (ht : lk E.und t = some (.slice el) := by rfl) (he : lk E.inf el = some (z, 1, by_) := by rfl) (hd : Nat.blt d n.n = true := by rfl) : TQ E n X s ops (⟨some d, .slice t x (some zo) none none, ty, pos, after, none⟩ :: rest) fr A :=
  TQ.val (fun w h => by
    subst hn
    have := R_sliceLo (P := P) (E := E) (n := n) (fr := fr) (ty := ty) ht he hx hl (tl.sl (has_sl h hh)) (by rw [List.length_drop]; exact hb)
    rw [List.length_drop] at this; exact this) kk hd
/-- copy into a piece of an own slice. -/
theorem cpo {e : TypeId} {cs ys : List Value} {ad : Addr} {c q : Nat} (hn : xs.length = N) (tl : Tl a v N k) (hl : cs.length = q) (kk : TO E n X s ops rest ((d, I q) :: fr) (own e a ys :: A')) (hx : ev fr x = some v := by rfl) (hy : ev fr y = some (.slice (some ad) q c) := by rfl) (hm : Tk (own e a xs) A A' := by (repeat (first | apply Tk.here | apply Tk.there)); first | done | fail) (hk : k + q ≤ N := by omega) (h0 : 0 < q := by omega)
    (hsrc : ∀ w, Sat A' w → ∀ j u, cs[j]? = some u → w.cell? (ad.add j) = some u) (h1 : ∀ c ∈ cs, c.oneCell' = true) (hs : xs.take k ++ cs ++ xs.drop (k + cs.length) = ys) (ht : lk E.und t = some (.slice e) := by rfl) (he : lk E.inf e = some (z, 1, by_) := by rfl) (hd : Nat.blt d n.n = true := by rfl) :
    TO E n X s ops (⟨some d, .call ⟨.builtin .copy, #[x, y], #[t, t']⟩, ty, pos, after, none⟩ :: rest) fr A := ⟨fun w hw => by
  subst hs; subst hn; subst hl
  have h2 := hw.im hm
  have h3 : OwnO w e a xs := h2.mem (List.Mem.head _)
  refine SO_copyO hd ht he h3 tl hk h0 hx hy (hsrc w (Sat.cons.1 h2.sat).2.2) h1 fun w' hU hO => kk.run w' (h2.set hU (fun b hb => .inl (by show a.ownBlock = some b; simpa using hb)) hO ?_ (fun _ h => h))
  rintro b (hb | hb | hb); exact .inl hb; exact hb.elim; exact hb.elim⟩
end
theorem R_idxZ {P : Program} {E : Env P} {n : Sh} {fr : Fr} {t ty el : TypeId} {z : Value} {x y : Operand} {b m by_ i : Nat} {w : World} {k1 : IntKind} (ht : lk E.und t = some (.array m el)) (he : lk E.inf el = some (z, 1, by_)) (hx : ev fr x = some (.pointer (some ⟨b, 0, none⟩))) (hy : ev fr y = some (.int k1 (i : Int))) (h : i < m) :
    OpV P n fr (.indexAddr t x y) ty w (.pointer (some ⟨b, i, none⟩)) w := by
  have := R_idxP (P := P) (E := E) (n := n) (fr := fr) (ty := ty) (w := w) (j := 0) ht he hx hy (by omega)
  rwa [Int.toNat_natCast, Nat.zero_add] at this
attribute [local irreducible] Fit pt own ro vw mpc lpt vels rels mow lrc dfr
attribute [local irreducible] lmp lme mit velg relg
abbrev TyB : TypeId := 5
abbrev TyE : TypeId := 143
structure XoG where
  k : Nat
  va : Value
  vb : Value
theorem add_tr (a b : Value) (l m : List Int) (hl : l.length = m.length) : Tr Tryz.prog 110 [a, b] [vw b (By m)] [own TyB a (By l)] fun _ D => D = [own TyB a (By (xorL l m))] := by
  have hmz := mid_zero l m
  have hma := mid_all hl
  refine Tr.enter env _ Tryz.func110 (by kernel_rfl) rfl Tryz.ntmps110 rfl (by repeat (first | exact has00 | refine has01 ?_)) fun w0 => ?_
  refine TC.fact (p := Tl a a (By l).length 0) (fun w hw => Tl.zero (has_sl hw (by first | (apply has_vw; (repeat (first | apply List.Mem.head | apply List.Mem.tail)); first | done | fail) | (apply has_own; (repeat (first | apply List.Mem.head | apply List.Mem.tail)); first | done | fail) | (apply has_ro; (repeat (first | apply List.Mem.head | apply List.Mem.tail)); first | done | fail) | apply has_nil | ((with_reducible apply has_el); (focus (first | (apply has_vels; (repeat (first | apply List.Mem.head | apply List.Mem.tail)); first | done | fail) | (apply has_rels; (repeat (first | apply List.Mem.head | apply List.Mem.tail)); first | done | fail))); omega) | (apply has_pt; (repeat (first | apply List.Mem.head | apply List.Mem.tail)); first | done | fail) | (apply has_lpt; (repeat (first | apply List.Mem.head | apply List.Mem.tail)); first | done | fail) | (apply has_vels; (repeat (first | apply List.Mem.head | apply List.Mem.tail)); first | done | fail) | (apply has_rels; (repeat (first | apply List.Mem.head | apply List.Mem.tail)); first | done | fail) | with_reducible assumption | ((with_reducible apply has_elg); (focus (first | (apply has_velg; (repeat (first | apply List.Mem.head | apply List.Mem.tail)); first | done | fail) | (apply has_relg; (repeat (first | apply List.Mem.head | apply List.Mem.tail)); first | done | fail))); omega) | (apply has_velg; (repeat (first | apply List.Mem.head | apply List.Mem.tail)); first | done | fail) | (apply has_relg; (repeat (first | apply List.Mem.head | apply List.Mem.tail)); first | done | fail) | (apply has_vwf; (repeat (first | apply List.Mem.head | apply List.Mem.tail)); first | done | fail)))) fun ta => ?_
  refine TC.fact (p := Tl b b (By m).length 0) (fun w hw => Tl.zero (has_sl hw (by first | (apply has_vw; (repeat (first | apply List.Mem.head | apply List.Mem.tail)); first | done | fail) | (apply has_own; (repeat (first | apply List.Mem.head | apply List.Mem.tail)); first | done | fail) | (apply has_ro; (repeat (first | apply List.Mem.head | apply List.Mem.tail)); first | done | fail) | apply has_nil | ((with_reducible apply has_el); (focus (first | (apply has_vels; (repeat (first | apply List.Mem.head | apply List.Mem.tail)); first | done | fail) | (apply has_rels; (repeat (first | apply List.Mem.head | apply List.Mem.tail)); first | done | fail))); omega) | (apply has_pt; (repeat (first | apply List.Mem.head | apply List.Mem.tail)); first | done | fail) | (apply has_lpt; (repeat (first | apply List.Mem.head | apply List.Mem.tail)); first | done | fail) | (apply has_vels; (repeat (first | apply List.Mem.head | apply List.Mem.tail)); first | done | fail) | (apply has_rels; (repeat (first | apply List.Mem.head | apply List.Mem.tail)); first | done | fail) | with_reducible assumption | ((with_reducible apply has_elg); (focus (first | (apply has_velg; (repeat (first | apply List.Mem.head | apply List.Mem.tail)); first | done | fail) | (apply has_relg; (repeat (first | apply List.Mem.head | apply List.Mem.tail)); first | done | fail))); omega) | (apply has_velg; (repeat (first | apply List.Mem.head | apply List.Mem.tail)); first | done | fail) | (apply has_relg; (repeat (first | apply List.Mem.head | apply List.Mem.tail)); first | done | fail) | (apply has_vwf; (repeat (first | apply List.Mem.head | apply List.Mem.tail)); first | done | fail)))) fun tb => ?_
  rw [By_len] at ta tb
  rw [← hl] at tb
  refine TC.fact (p := l.length ≤ 9223372036854775807) (fun w hw => by have := (has_sl hw (v := a) (xs := By l) (by first | (apply has_vw; (repeat (first | apply List.Mem.head | apply List.Mem.tail)); first | done | fail) | (apply has_own; (repeat (first | apply List.Mem.head | apply List.Mem.tail)); first | done | fail) | (apply has_ro; (repeat (first | apply List.Mem.head | apply List.Mem.tail)); first | done | fail) | apply has_nil | ((with_reducible apply has_el); (focus (first | (apply has_vels; (repeat (first | apply List.Mem.head | apply List.Mem.tail)); first | done | fail) | (apply has_rels; (repeat (first | apply List.Mem.head | apply List.Mem.tail)); first | done | fail))); omega) | (apply has_pt; (repeat (first | apply List.Mem.head | apply List.Mem.tail)); first | done | fail) | (apply has_lpt; (repeat (first | apply List.Mem.head | apply List.Mem.tail)); first | done | fail) | (apply has_vels; (repeat (first | apply List.Mem.head | apply List.Mem.tail)); first | done | fail) | (apply has_rels; (repeat (first | apply List.Mem.head | apply List.Mem.tail)); first | done | fail) | with_reducible assumption | ((with_reducible apply has_elg); (focus (first | (apply has_velg; (repeat (first | apply List.Mem.head | apply List.Mem.tail)); first | done | fail) | (apply has_relg; (repeat (first | apply List.Mem.head | apply List.Mem.tail)); first | done | fail))); omega) | (apply has_velg; (repeat (first | apply List.Mem.head | apply List.Mem.tail)); first | done | fail) | (apply has_relg; (repeat (first | apply List.Mem.head | apply List.Mem.tail)); first | done | fail) | (apply has_vwf; (repeat (first | apply List.Mem.head | apply List.Mem.tail)); first | done | fail))).len; rwa [By_len] at this) fun hln => ?_
  repeat' first|refine sq ?_|refine bk ?_
  refine TC.loop (ι := XoG) (fun g => [(0, g.va), (1, g.vb)]) (fun g => [own TyB a (By (mid l m g.k))]) (fun g => Tl a g.va l.length g.k ∧ Tl b g.vb l.length g.k) (fun g => l.length - g.k) ⟨0, a, b⟩ [] ⟨ta, tb⟩ ?_ (hs := by dsimp only; (repeat (refine Sub.cons rfl (by first | rfl | go_num) ?_)); exact Sub.nil) (hf := by dsimp only; rw [hmz]; first | apply Fit.all | ((repeat (first | (apply Fit.nilN; (repeat (first | apply nrm_nil | apply nrm_cons)); try apply nrm_rfl) | (apply Fit.cons; focus ((repeat (first | apply Tk.here | apply Tk.there)); first | done | fail)))); first | done | fail))
  clear ta tb
  rintro ⟨k, va, vb⟩ ⟨ta, tb⟩
  dsimp only at ta tb ⊢
  have hk := ta.le
  have hL := mid_len hl k
  have hBL : (By (mid l m k)).length = l.length := by rw [By_len, hL]
  have hBm : (By m).length = l.length := by rw [By_len, hl]
  by_cases h8 : k + 8 ≤ l.length
  · obtain ⟨ca, hca, hca8⟩ := ta.head h8 (by decide)
    obtain ⟨cb, hcb, hcb8⟩ := tb.head h8 (by decide)
    have hea : (e8 (mid l m k) k).length = 8 := e8_len (by omega)
    have heb : (e8 m k).length = 8 := e8_len (by omega)
    have hlay := mid_lay hl h8
    have hnx : l.length - (k + 8) < l.length - k := by omega
    have ta' := ta.next h8
    have tb' := tb.next h8
    generalize hL' : mid l m (k + 8) = L' at *
    generalize hLe : mid l m k = L at *
    repeat' first|refine lnt hBL ta ?_|refine sq_cutX (a := .region 1 _ _) (ι := Nat × Nat) (fun _ => True) (fun i => [(0, va), (1, vb), (4, ptr i.1), (5, ptr i.2)]) (fun i => [own TyB a (By L), vw b (By m), pt i.1 (By (e8 L k)) TyE, pt i.2 (By (e8 m k)) TyE]) ?_ (fun kb => ?_)|refine rs (id := 1) (fun w => Sl w a (By L) ∧ Sl w b (By m)) ?_ (fun w hw => ⟨has_sl hw (by first | (apply has_vw; (repeat (first | apply List.Mem.head | apply List.Mem.tail)); first | done | fail) | (apply has_own; (repeat (first | apply List.Mem.head | apply List.Mem.tail)); first | done | fail) | (apply has_ro; (repeat (first | apply List.Mem.head | apply List.Mem.tail)); first | done | fail) | apply has_nil | ((with_reducible apply has_el); (focus (first | (apply has_vels; (repeat (first | apply List.Mem.head | apply List.Mem.tail)); first | done | fail) | (apply has_rels; (repeat (first | apply List.Mem.head | apply List.Mem.tail)); first | done | fail))); omega) | (apply has_pt; (repeat (first | apply List.Mem.head | apply List.Mem.tail)); first | done | fail) | (apply has_lpt; (repeat (first | apply List.Mem.head | apply List.Mem.tail)); first | done | fail) | (apply has_vels; (repeat (first | apply List.Mem.head | apply List.Mem.tail)); first | done | fail) | (apply has_rels; (repeat (first | apply List.Mem.head | apply List.Mem.tail)); first | done | fail) | with_reducible assumption | ((with_reducible apply has_elg); (focus (first | (apply has_velg; (repeat (first | apply List.Mem.head | apply List.Mem.tail)); first | done | fail) | (apply has_relg; (repeat (first | apply List.Mem.head | apply List.Mem.tail)); first | done | fail))); omega) | (apply has_velg; (repeat (first | apply List.Mem.head | apply List.Mem.tail)); first | done | fail) | (apply has_relg; (repeat (first | apply List.Mem.head | apply List.Mem.tail)); first | done | fail) | (apply has_vwf; (repeat (first | apply List.Mem.head | apply List.Mem.tail)); first | done | fail)), has_sl hw (by first | (apply has_vw; (repeat (first | apply List.Mem.head | apply List.Mem.tail)); first | done | fail) | (apply has_own; (repeat (first | apply List.Mem.head | apply List.Mem.tail)); first | done | fail) | (apply has_ro; (repeat (first | apply List.Mem.head | apply List.Mem.tail)); first | done | fail) | apply has_nil | ((with_reducible apply has_el); (focus (first | (apply has_vels; (repeat (first | apply List.Mem.head | apply List.Mem.tail)); first | done | fail) | (apply has_rels; (repeat (first | apply List.Mem.head | apply List.Mem.tail)); first | done | fail))); omega) | (apply has_pt; (repeat (first | apply List.Mem.head | apply List.Mem.tail)); first | done | fail) | (apply has_lpt; (repeat (first | apply List.Mem.head | apply List.Mem.tail)); first | done | fail) | (apply has_vels; (repeat (first | apply List.Mem.head | apply List.Mem.tail)); first | done | fail) | (apply has_rels; (repeat (first | apply List.Mem.head | apply List.Mem.tail)); first | done | fail) | with_reducible assumption | ((with_reducible apply has_elg); (focus (first | (apply has_velg; (repeat (first | apply List.Mem.head | apply List.Mem.tail)); first | done | fail) | (apply has_relg; (repeat (first | apply List.Mem.head | apply List.Mem.tail)); first | done | fail))); omega) | (apply has_velg; (repeat (first | apply List.Mem.head | apply List.Mem.tail)); first | done | fail) | (apply has_relg; (repeat (first | apply List.Mem.head | apply List.Mem.tail)); first | done | fail) | (apply has_vwf; (repeat (first | apply List.Mem.head | apply List.Mem.tail)); first | done | fail))⟩)|(refine wo ?_; first|(refine ao ?_; first|refine oa ?_)|refine oa ?_)|(refine gc ?_; first|(refine ci (fun hB => ?_) (fun hB => ?_) <;> try (exfalso; omega)))|refine sq ?_|refine rg ?_|refine xc ?_|refine nl ?_|refine sk ?_|refine bk ?_
    rotate_left
    · refine tka 0 ?_
      refine tk 1 (v := .slice (some (addrAt a k)) 8 ca) (hi := rfl) (fun w h => by rw [← hca]; exact R_sliceHi (E := env) (hi := 8) rfl rfl rfl rfl ((hBL.symm ▸ ta : Tl a va (By L).length k).sl h.1) (by rw [List.length_drop, hBL]; omega)) ?_
      refine tk 2 (v := .pointer (some (addrAt a k))) (hi := rfl) (fun w h => by exact R_arr (E := env) rfl rfl) ?_
      refine tk 3 (v := .agg (By (e8 L k)).toArray) (hi := rfl) (fun w h => by exact R_loadArr (E := env) rfl rfl rfl rfl (cells8 h.1 (by omega)) (by rw [By_len, hea])) ?_
      refine tka 4 ?_
      refine tk 5 (v := .slice (some (addrAt b k)) 8 cb) (hi := rfl) (fun w h => by rw [← hcb]; exact R_sliceHi (E := env) (hi := 8) rfl rfl rfl rfl ((hBm.symm ▸ tb : Tl b vb (By m).length k).sl h.2) (by rw [List.length_drop, hBm]; omega)) ?_
      refine tk 6 (v := .pointer (some (addrAt b k))) (hi := rfl) (fun w h => by exact R_arr (E := env) rfl rfl) ?_
      refine tk 7 (v := .agg (By (e8 m k)).toArray) (hi := rfl) (fun w h => by exact R_loadArr (E := env) rfl rfl rfl rfl (cells8 h.2 (by omega)) (by rw [By_len, heb])) ?_
      refine t2 8 9 ?_ ?_
      · refine al fun p4 => ?_
        repeat' first|refine nl ?_
        refine te (fun w hw => ⟨has_sl hw (by first | (apply has_vw; (repeat (first | apply List.Mem.head | apply List.Mem.tail)); first | done | fail) | (apply has_own; (repeat (first | apply List.Mem.head | apply List.Mem.tail)); first | done | fail) | (apply has_ro; (repeat (first | apply List.Mem.head | apply List.Mem.tail)); first | done | fail) | apply has_nil | ((with_reducible apply has_el); (focus (first | (apply has_vels; (repeat (first | apply List.Mem.head | apply List.Mem.tail)); first | done | fail) | (apply has_rels; (repeat (first | apply List.Mem.head | apply List.Mem.tail)); first | done | fail))); omega) | (apply has_pt; (repeat (first | apply List.Mem.head | apply List.Mem.tail)); first | done | fail) | (apply has_lpt; (repeat (first | apply List.Mem.head | apply List.Mem.tail)); first | done | fail) | (apply has_vels; (repeat (first | apply List.Mem.head | apply List.Mem.tail)); first | done | fail) | (apply has_rels; (repeat (first | apply List.Mem.head | apply List.Mem.tail)); first | done | fail) | with_reducible assumption | ((with_reducible apply has_elg); (focus (first | (apply has_velg; (repeat (first | apply List.Mem.head | apply List.Mem.tail)); first | done | fail) | (apply has_relg; (repeat (first | apply List.Mem.head | apply List.Mem.tail)); first | done | fail))); omega) | (apply has_velg; (repeat (first | apply List.Mem.head | apply List.Mem.tail)); first | done | fail) | (apply has_relg; (repeat (first | apply List.Mem.head | apply List.Mem.tail)); first | done | fail) | (apply has_vwf; (repeat (first | apply List.Mem.head | apply List.Mem.tail)); first | done | fail)), has_sl hw (by first | (apply has_vw; (repeat (first | apply List.Mem.head | apply List.Mem.tail)); first | done | fail) | (apply has_own; (repeat (first | apply List.Mem.head | apply List.Mem.tail)); first | done | fail) | (apply has_ro; (repeat (first | apply List.Mem.head | apply List.Mem.tail)); first | done | fail) | apply has_nil | ((with_reducible apply has_el); (focus (first | (apply has_vels; (repeat (first | apply List.Mem.head | apply List.Mem.tail)); first | done | fail) | (apply has_rels; (repeat (first | apply List.Mem.head | apply List.Mem.tail)); first | done | fail))); omega) | (apply has_pt; (repeat (first | apply List.Mem.head | apply List.Mem.tail)); first | done | fail) | (apply has_lpt; (repeat (first | apply List.Mem.head | apply List.Mem.tail)); first | done | fail) | (apply has_vels; (repeat (first | apply List.Mem.head | apply List.Mem.tail)); first | done | fail) | (apply has_rels; (repeat (first | apply List.Mem.head | apply List.Mem.tail)); first | done | fail) | with_reducible assumption | ((with_reducible apply has_elg); (focus (first | (apply has_velg; (repeat (first | apply List.Mem.head | apply List.Mem.tail)); first | done | fail) | (apply has_relg; (repeat (first | apply List.Mem.head | apply List.Mem.tail)); first | done | fail))); omega) | (apply has_velg; (repeat (first | apply List.Mem.head | apply List.Mem.tail)); first | done | fail) | (apply has_relg; (repeat (first | apply List.Mem.head | apply List.Mem.tail)); first | done | fail) | (apply has_vwf; (repeat (first | apply List.Mem.head | apply List.Mem.tail)); first | done | fail))⟩) ?_
        refine t1 9 ?_
        refine al fun p5 => ?_
        repeat' first|refine nl ?_
        refine te (fun w hw => ⟨has_sl hw (by first | (apply has_vw; (repeat (first | apply List.Mem.head | apply List.Mem.tail)); first | done | fail) | (apply has_own; (repeat (first | apply List.Mem.head | apply List.Mem.tail)); first | done | fail) | (apply has_ro; (repeat (first | apply List.Mem.head | apply List.Mem.tail)); first | done | fail) | apply has_nil | ((with_reducible apply has_el); (focus (first | (apply has_vels; (repeat (first | apply List.Mem.head | apply List.Mem.tail)); first | done | fail) | (apply has_rels; (repeat (first | apply List.Mem.head | apply List.Mem.tail)); first | done | fail))); omega) | (apply has_pt; (repeat (first | apply List.Mem.head | apply List.Mem.tail)); first | done | fail) | (apply has_lpt; (repeat (first | apply List.Mem.head | apply List.Mem.tail)); first | done | fail) | (apply has_vels; (repeat (first | apply List.Mem.head | apply List.Mem.tail)); first | done | fail) | (apply has_rels; (repeat (first | apply List.Mem.head | apply List.Mem.tail)); first | done | fail) | with_reducible assumption | ((with_reducible apply has_elg); (focus (first | (apply has_velg; (repeat (first | apply List.Mem.head | apply List.Mem.tail)); first | done | fail) | (apply has_relg; (repeat (first | apply List.Mem.head | apply List.Mem.tail)); first | done | fail))); omega) | (apply has_velg; (repeat (first | apply List.Mem.head | apply List.Mem.tail)); first | done | fail) | (apply has_relg; (repeat (first | apply List.Mem.head | apply List.Mem.tail)); first | done | fail) | (apply has_vwf; (repeat (first | apply List.Mem.head | apply List.Mem.tail)); first | done | fail)), has_sl hw (by first | (apply has_vw; (repeat (first | apply List.Mem.head | apply List.Mem.tail)); first | done | fail) | (apply has_own; (repeat (first | apply List.Mem.head | apply List.Mem.tail)); first | done | fail) | (apply has_ro; (repeat (first | apply List.Mem.head | apply List.Mem.tail)); first | done | fail) | apply has_nil | ((with_reducible apply has_el); (focus (first | (apply has_vels; (repeat (first | apply List.Mem.head | apply List.Mem.tail)); first | done | fail) | (apply has_rels; (repeat (first | apply List.Mem.head | apply List.Mem.tail)); first | done | fail))); omega) | (apply has_pt; (repeat (first | apply List.Mem.head | apply List.Mem.tail)); first | done | fail) | (apply has_lpt; (repeat (first | apply List.Mem.head | apply List.Mem.tail)); first | done | fail) | (apply has_vels; (repeat (first | apply List.Mem.head | apply List.Mem.tail)); first | done | fail) | (apply has_rels; (repeat (first | apply List.Mem.head | apply List.Mem.tail)); first | done | fail) | with_reducible assumption | ((with_reducible apply has_elg); (focus (first | (apply has_velg; (repeat (first | apply List.Mem.head | apply List.Mem.tail)); first | done | fail) | (apply has_relg; (repeat (first | apply List.Mem.head | apply List.Mem.tail)); first | done | fail))); omega) | (apply has_velg; (repeat (first | apply List.Mem.head | apply List.Mem.tail)); first | done | fail) | (apply has_relg; (repeat (first | apply List.Mem.head | apply List.Mem.tail)); first | done | fail) | (apply has_vwf; (repeat (first | apply List.Mem.head | apply List.Mem.tail)); first | done | fail))⟩) ?_

        refine t1 10 ?_
        refine srz (vs := By (e8 L k)) (cs' := By (e8 L k)) ?_ (hl := by rw [By_len, hea]) (h1 := By_one _) (hs := rfl0 _)
        repeat' first|refine nl ?_
        refine te (fun w hw => ⟨has_sl hw (by first | (apply has_vw; (repeat (first | apply List.Mem.head | apply List.Mem.tail)); first | done | fail) | (apply has_own; (repeat (first | apply List.Mem.head | apply List.Mem.tail)); first | done | fail) | (apply has_ro; (repeat (first | apply List.Mem.head | apply List.Mem.tail)); first | done | fail) | apply has_nil | ((with_reducible apply has_el); (focus (first | (apply has_vels; (repeat (first | apply List.Mem.head | apply List.Mem.tail)); first | done | fail) | (apply has_rels; (repeat (first | apply List.Mem.head | apply List.Mem.tail)); first | done | fail))); omega) | (apply has_pt; (repeat (first | apply List.Mem.head | apply List.Mem.tail)); first | done | fail) | (apply has_lpt; (repeat (first | apply List.Mem.head | apply List.Mem.tail)); first | done | fail) | (apply has_vels; (repeat (first | apply List.Mem.head | apply List.Mem.tail)); first | done | fail) | (apply has_rels; (repeat (first | apply List.Mem.head | apply List.Mem.tail)); first | done | fail) | with_reducible assumption | ((with_reducible apply has_elg); (focus (first | (apply has_velg; (repeat (first | apply List.Mem.head | apply List.Mem.tail)); first | done | fail) | (apply has_relg; (repeat (first | apply List.Mem.head | apply List.Mem.tail)); first | done | fail))); omega) | (apply has_velg; (repeat (first | apply List.Mem.head | apply List.Mem.tail)); first | done | fail) | (apply has_relg; (repeat (first | apply List.Mem.head | apply List.Mem.tail)); first | done | fail) | (apply has_vwf; (repeat (first | apply List.Mem.head | apply List.Mem.tail)); first | done | fail)), has_sl hw (by first | (apply has_vw; (repeat (first | apply List.Mem.head | apply List.Mem.tail)); first | done | fail) | (apply has_own; (repeat (first | apply List.Mem.head | apply List.Mem.tail)); first | done | fail) | (apply has_ro; (repeat (first | apply List.Mem.head | apply List.Mem.tail)); first | done | fail) | apply has_nil | ((with_reducible apply has_el); (focus (first | (apply has_vels; (repeat (first | apply List.Mem.head | apply List.Mem.tail)); first | done | fail) | (apply has_rels; (repeat (first | apply List.Mem.head | apply List.Mem.tail)); first | done | fail))); omega) | (apply has_pt; (repeat (first | apply List.Mem.head | apply List.Mem.tail)); first | done | fail) | (apply has_lpt; (repeat (first | apply List.Mem.head | apply List.Mem.tail)); first | done | fail) | (apply has_vels; (repeat (first | apply List.Mem.head | apply List.Mem.tail)); first | done | fail) | (apply has_rels; (repeat (first | apply List.Mem.head | apply List.Mem.tail)); first | done | fail) | with_reducible assumption | ((with_reducible apply has_elg); (focus (first | (apply has_velg; (repeat (first | apply List.Mem.head | apply List.Mem.tail)); first | done | fail) | (apply has_relg; (repeat (first | apply List.Mem.head | apply List.Mem.tail)); first | done | fail))); omega) | (apply has_velg; (repeat (first | apply List.Mem.head | apply List.Mem.tail)); first | done | fail) | (apply has_relg; (repeat (first | apply List.Mem.head | apply List.Mem.tail)); first | done | fail) | (apply has_vwf; (repeat (first | apply List.Mem.head | apply List.Mem.tail)); first | done | fail))⟩) ?_
        refine t1 11 ?_
        refine srz (vs := By (e8 m k)) (cs' := By (e8 m k)) ?_ (hl := by rw [By_len, heb]) (h1 := By_one _) (hs := rfl0 _)
        repeat' first|refine nl ?_
        refine te (fun w hw => ⟨has_sl hw (by first | (apply has_vw; (repeat (first | apply List.Mem.head | apply List.Mem.tail)); first | done | fail) | (apply has_own; (repeat (first | apply List.Mem.head | apply List.Mem.tail)); first | done | fail) | (apply has_ro; (repeat (first | apply List.Mem.head | apply List.Mem.tail)); first | done | fail) | apply has_nil | ((with_reducible apply has_el); (focus (first | (apply has_vels; (repeat (first | apply List.Mem.head | apply List.Mem.tail)); first | done | fail) | (apply has_rels; (repeat (first | apply List.Mem.head | apply List.Mem.tail)); first | done | fail))); omega) | (apply has_pt; (repeat (first | apply List.Mem.head | apply List.Mem.tail)); first | done | fail) | (apply has_lpt; (repeat (first | apply List.Mem.head | apply List.Mem.tail)); first | done | fail) | (apply has_vels; (repeat (first | apply List.Mem.head | apply List.Mem.tail)); first | done | fail) | (apply has_rels; (repeat (first | apply List.Mem.head | apply List.Mem.tail)); first | done | fail) | with_reducible assumption | ((with_reducible apply has_elg); (focus (first | (apply has_velg; (repeat (first | apply List.Mem.head | apply List.Mem.tail)); first | done | fail) | (apply has_relg; (repeat (first | apply List.Mem.head | apply List.Mem.tail)); first | done | fail))); omega) | (apply has_velg; (repeat (first | apply List.Mem.head | apply List.Mem.tail)); first | done | fail) | (apply has_relg; (repeat (first | apply List.Mem.head | apply List.Mem.tail)); first | done | fail) | (apply has_vwf; (repeat (first | apply List.Mem.head | apply List.Mem.tail)); first | done | fail)), has_sl hw (by first | (apply has_vw; (repeat (first | apply List.Mem.head | apply List.Mem.tail)); first | done | fail) | (apply has_own; (repeat (first | apply List.Mem.head | apply List.Mem.tail)); first | done | fail) | (apply has_ro; (repeat (first | apply List.Mem.head | apply List.Mem.tail)); first | done | fail) | apply has_nil | ((with_reducible apply has_el); (focus (first | (apply has_vels; (repeat (first | apply List.Mem.head | apply List.Mem.tail)); first | done | fail) | (apply has_rels; (repeat (first | apply List.Mem.head | apply List.Mem.tail)); first | done | fail))); omega) | (apply has_pt; (repeat (first | apply List.Mem.head | apply List.Mem.tail)); first | done | fail) | (apply has_lpt; (repeat (first | apply List.Mem.head | apply List.Mem.tail)); first | done | fail) | (apply has_vels; (repeat (first | apply List.Mem.head | apply List.Mem.tail)); first | done | fail) | (apply has_rels; (repeat (first | apply List.Mem.head | apply List.Mem.tail)); first | done | fail) | with_reducible assumption | ((with_reducible apply has_elg); (focus (first | (apply has_velg; (repeat (first | apply List.Mem.head | apply List.Mem.tail)); first | done | fail) | (apply has_relg; (repeat (first | apply List.Mem.head | apply List.Mem.tail)); first | done | fail))); omega) | (apply has_velg; (repeat (first | apply List.Mem.head | apply List.Mem.tail)); first | done | fail) | (apply has_relg; (repeat (first | apply List.Mem.head | apply List.Mem.tail)); first | done | fail) | (apply has_vwf; (repeat (first | apply List.Mem.head | apply List.Mem.tail)); first | done | fail))⟩) ?_
        refine t0 ?_
        refine xc ?_
        exact kb (p4, p5) trivial _ _ (by (repeat (refine Sub.cons rfl (by first | rfl | go_num) ?_)); exact Sub.nil) (by first | apply Fit.all | ((repeat (first | (apply Fit.nilN; (repeat (first | apply nrm_nil | apply nrm_cons)); try apply nrm_rfl) | (apply Fit.cons; focus ((repeat (first | apply Tk.here | apply Tk.there)); first | done | fail)))); first | done | fail))

      · refine al fun p5 => ?_
        repeat' first|refine nl ?_
        refine te (fun w hw => ⟨has_sl hw (by first | (apply has_vw; (repeat (first | apply List.Mem.head | apply List.Mem.tail)); first | done | fail) | (apply has_own; (repeat (first | apply List.Mem.head | apply List.Mem.tail)); first | done | fail) | (apply has_ro; (repeat (first | apply List.Mem.head | apply List.Mem.tail)); first | done | fail) | apply has_nil | ((with_reducible apply has_el); (focus (first | (apply has_vels; (repeat (first | apply List.Mem.head | apply List.Mem.tail)); first | done | fail) | (apply has_rels; (repeat (first | apply List.Mem.head | apply List.Mem.tail)); first | done | fail))); omega) | (apply has_pt; (repeat (first | apply List.Mem.head | apply List.Mem.tail)); first | done | fail) | (apply has_lpt; (repeat (first | apply List.Mem.head | apply List.Mem.tail)); first | done | fail) | (apply has_vels; (repeat (first | apply List.Mem.head | apply List.Mem.tail)); first | done | fail) | (apply has_rels; (repeat (first | apply List.Mem.head | apply List.Mem.tail)); first | done | fail) | with_reducible assumption | ((with_reducible apply has_elg); (focus (first | (apply has_velg; (repeat (first | apply List.Mem.head | apply List.Mem.tail)); first | done | fail) | (apply has_relg; (repeat (first | apply List.Mem.head | apply List.Mem.tail)); first | done | fail))); omega) | (apply has_velg; (repeat (first | apply List.Mem.head | apply List.Mem.tail)); first | done | fail) | (apply has_relg; (repeat (first | apply List.Mem.head | apply List.Mem.tail)); first | done | fail) | (apply has_vwf; (repeat (first | apply List.Mem.head | apply List.Mem.tail)); first | done | fail)), has_sl hw (by first | (apply has_vw; (repeat (first | apply List.Mem.head | apply List.Mem.tail)); first | done | fail) | (apply has_own; (repeat (first | apply List.Mem.head | apply List.Mem.tail)); first | done | fail) | (apply has_ro; (repeat (first | apply List.Mem.head | apply List.Mem.tail)); first | done | fail) | apply has_nil | ((with_reducible apply has_el); (focus (first | (apply has_vels; (repeat (first | apply List.Mem.head | apply List.Mem.tail)); first | done | fail) | (apply has_rels; (repeat (first | apply List.Mem.head | apply List.Mem.tail)); first | done | fail))); omega) | (apply has_pt; (repeat (first | apply List.Mem.head | apply List.Mem.tail)); first | done | fail) | (apply has_lpt; (repeat (first | apply List.Mem.head | apply List.Mem.tail)); first | done | fail) | (apply has_vels; (repeat (first | apply List.Mem.head | apply List.Mem.tail)); first | done | fail) | (apply has_rels; (repeat (first | apply List.Mem.head | apply List.Mem.tail)); first | done | fail) | with_reducible assumption | ((with_reducible apply has_elg); (focus (first | (apply has_velg; (repeat (first | apply List.Mem.head | apply List.Mem.tail)); first | done | fail) | (apply has_relg; (repeat (first | apply List.Mem.head | apply List.Mem.tail)); first | done | fail))); omega) | (apply has_velg; (repeat (first | apply List.Mem.head | apply List.Mem.tail)); first | done | fail) | (apply has_relg; (repeat (first | apply List.Mem.head | apply List.Mem.tail)); first | done | fail) | (apply has_vwf; (repeat (first | apply List.Mem.head | apply List.Mem.tail)); first | done | fail))⟩) ?_
        refine t1 8 ?_
        refine al fun p4 => ?_
        repeat' first|refine nl ?_
        refine te (fun w hw => ⟨has_sl hw (by first | (apply has_vw; (repeat (first | apply List.Mem.head | apply List.Mem.tail)); first | done | fail) | (apply has_own; (repeat (first | apply List.Mem.head | apply List.Mem.tail)); first | done | fail) | (apply has_ro; (repeat (first | apply List.Mem.head | apply List.Mem.tail)); first | done | fail) | apply has_nil | ((with_reducible apply has_el); (focus (first | (apply has_vels; (repeat (first | apply List.Mem.head | apply List.Mem.tail)); first | done | fail) | (apply has_rels; (repeat (first | apply List.Mem.head | apply List.Mem.tail)); first | done | fail))); omega) | (apply has_pt; (repeat (first | apply List.Mem.head | apply List.Mem.tail)); first | done | fail) | (apply has_lpt; (repeat (first | apply List.Mem.head | apply List.Mem.tail)); first | done | fail) | (apply has_vels; (repeat (first | apply List.Mem.head | apply List.Mem.tail)); first | done | fail) | (apply has_rels; (repeat (first | apply List.Mem.head | apply List.Mem.tail)); first | done | fail) | with_reducible assumption | ((with_reducible apply has_elg); (focus (first | (apply has_velg; (repeat (first | apply List.Mem.head | apply List.Mem.tail)); first | done | fail) | (apply has_relg; (repeat (first | apply List.Mem.head | apply List.Mem.tail)); first | done | fail))); omega) | (apply has_velg; (repeat (first | apply List.Mem.head | apply List.Mem.tail)); first | done | fail) | (apply has_relg; (repeat (first | apply List.Mem.head | apply List.Mem.tail)); first | done | fail) | (apply has_vwf; (repeat (first | apply List.Mem.head | apply List.Mem.tail)); first | done | fail)), has_sl hw (by first | (apply has_vw; (repeat (first | apply List.Mem.head | apply List.Mem.tail)); first | done | fail) | (apply has_own; (repeat (first | apply List.Mem.head | apply List.Mem.tail)); first | done | fail) | (apply has_ro; (repeat (first | apply List.Mem.head | apply List.Mem.tail)); first | done | fail) | apply has_nil | ((with_reducible apply has_el); (focus (first | (apply has_vels; (repeat (first | apply List.Mem.head | apply List.Mem.tail)); first | done | fail) | (apply has_rels; (repeat (first | apply List.Mem.head | apply List.Mem.tail)); first | done | fail))); omega) | (apply has_pt; (repeat (first | apply List.Mem.head | apply List.Mem.tail)); first | done | fail) | (apply has_lpt; (repeat (first | apply List.Mem.head | apply List.Mem.tail)); first | done | fail) | (apply has_vels; (repeat (first | apply List.Mem.head | apply List.Mem.tail)); first | done | fail) | (apply has_rels; (repeat (first | apply List.Mem.head | apply List.Mem.tail)); first | done | fail) | with_reducible assumption | ((with_reducible apply has_elg); (focus (first | (apply has_velg; (repeat (first | apply List.Mem.head | apply List.Mem.tail)); first | done | fail) | (apply has_relg; (repeat (first | apply List.Mem.head | apply List.Mem.tail)); first | done | fail))); omega) | (apply has_velg; (repeat (first | apply List.Mem.head | apply List.Mem.tail)); first | done | fail) | (apply has_relg; (repeat (first | apply List.Mem.head | apply List.Mem.tail)); first | done | fail) | (apply has_vwf; (repeat (first | apply List.Mem.head | apply List.Mem.tail)); first | done | fail))⟩) ?_

        refine t1 10 ?_
        refine srz (vs := By (e8 L k)) (cs' := By (e8 L k)) ?_ (hl := by rw [By_len, hea]) (h1 := By_one _) (hs := rfl0 _)
        repeat' first|refine nl ?_
        refine te (fun w hw => ⟨has_sl hw (by first | (apply has_vw; (repeat (first | apply List.Mem.head | apply List.Mem.tail)); first | done | fail) | (apply has_own; (repeat (first | apply List.Mem.head | apply List.Mem.tail)); first | done | fail) | (apply has_ro; (repeat (first | apply List.Mem.head | apply List.Mem.tail)); first | done | fail) | apply has_nil | ((with_reducible apply has_el); (focus (first | (apply has_vels; (repeat (first | apply List.Mem.head | apply List.Mem.tail)); first | done | fail) | (apply has_rels; (repeat (first | apply List.Mem.head | apply List.Mem.tail)); first | done | fail))); omega) | (apply has_pt; (repeat (first | apply List.Mem.head | apply List.Mem.tail)); first | done | fail) | (apply has_lpt; (repeat (first | apply List.Mem.head | apply List.Mem.tail)); first | done | fail) | (apply has_vels; (repeat (first | apply List.Mem.head | apply List.Mem.tail)); first | done | fail) | (apply has_rels; (repeat (first | apply List.Mem.head | apply List.Mem.tail)); first | done | fail) | with_reducible assumption | ((with_reducible apply has_elg); (focus (first | (apply has_velg; (repeat (first | apply List.Mem.head | apply List.Mem.tail)); first | done | fail) | (apply has_relg; (repeat (first | apply List.Mem.head | apply List.Mem.tail)); first | done | fail))); omega) | (apply has_velg; (repeat (first | apply List.Mem.head | apply List.Mem.tail)); first | done | fail) | (apply has_relg; (repeat (first | apply List.Mem.head | apply List.Mem.tail)); first | done | fail) | (apply has_vwf; (repeat (first | apply List.Mem.head | apply List.Mem.tail)); first | done | fail)), has_sl hw (by first | (apply has_vw; (repeat (first | apply List.Mem.head | apply List.Mem.tail)); first | done | fail) | (apply has_own; (repeat (first | apply List.Mem.head | apply List.Mem.tail)); first | done | fail) | (apply has_ro; (repeat (first | apply List.Mem.head | apply List.Mem.tail)); first | done | fail) | apply has_nil | ((with_reducible apply has_el); (focus (first | (apply has_vels; (repeat (first | apply List.Mem.head | apply List.Mem.tail)); first | done | fail) | (apply has_rels; (repeat (first | apply List.Mem.head | apply List.Mem.tail)); first | done | fail))); omega) | (apply has_pt; (repeat (first | apply List.Mem.head | apply List.Mem.tail)); first | done | fail) | (apply has_lpt; (repeat (first | apply List.Mem.head | apply List.Mem.tail)); first | done | fail) | (apply has_vels; (repeat (first | apply List.Mem.head | apply List.Mem.tail)); first | done | fail) | (apply has_rels; (repeat (first | apply List.Mem.head | apply List.Mem.tail)); first | done | fail) | with_reducible assumption | ((with_reducible apply has_elg); (focus (first | (apply has_velg; (repeat (first | apply List.Mem.head | apply List.Mem.tail)); first | done | fail) | (apply has_relg; (repeat (first | apply List.Mem.head | apply List.Mem.tail)); first | done | fail))); omega) | (apply has_velg; (repeat (first | apply List.Mem.head | apply List.Mem.tail)); first | done | fail) | (apply has_relg; (repeat (first | apply List.Mem.head | apply List.Mem.tail)); first | done | fail) | (apply has_vwf; (repeat (first | apply List.Mem.head | apply List.Mem.tail)); first | done | fail))⟩) ?_
        refine t1 11 ?_
        refine srz (vs := By (e8 m k)) (cs' := By (e8 m k)) ?_ (hl := by rw [By_len, heb]) (h1 := By_one _) (hs := rfl0 _)
        repeat' first|refine nl ?_
        refine te (fun w hw => ⟨has_sl hw (by first | (apply has_vw; (repeat (first | apply List.Mem.head | apply List.Mem.tail)); first | done | fail) | (apply has_own; (repeat (first | apply List.Mem.head | apply List.Mem.tail)); first | done | fail) | (apply has_ro; (repeat (first | apply List.Mem.head | apply List.Mem.tail)); first | done | fail) | apply has_nil | ((with_reducible apply has_el); (focus (first | (apply has_vels; (repeat (first | apply List.Mem.head | apply List.Mem.tail)); first | done | fail) | (apply has_rels; (repeat (first | apply List.Mem.head | apply List.Mem.tail)); first | done | fail))); omega) | (apply has_pt; (repeat (first | apply List.Mem.head | apply List.Mem.tail)); first | done | fail) | (apply has_lpt; (repeat (first | apply List.Mem.head | apply List.Mem.tail)); first | done | fail) | (apply has_vels; (repeat (first | apply List.Mem.head | apply List.Mem.tail)); first | done | fail) | (apply has_rels; (repeat (first | apply List.Mem.head | apply List.Mem.tail)); first | done | fail) | with_reducible assumption | ((with_reducible apply has_elg); (focus (first | (apply has_velg; (repeat (first | apply List.Mem.head | apply List.Mem.tail)); first | done | fail) | (apply has_relg; (repeat (first | apply List.Mem.head | apply List.Mem.tail)); first | done | fail))); omega) | (apply has_velg; (repeat (first | apply List.Mem.head | apply List.Mem.tail)); first | done | fail) | (apply has_relg; (repeat (first | apply List.Mem.head | apply List.Mem.tail)); first | done | fail) | (apply has_vwf; (repeat (first | apply List.Mem.head | apply List.Mem.tail)); first | done | fail)), has_sl hw (by first | (apply has_vw; (repeat (first | apply List.Mem.head | apply List.Mem.tail)); first | done | fail) | (apply has_own; (repeat (first | apply List.Mem.head | apply List.Mem.tail)); first | done | fail) | (apply has_ro; (repeat (first | apply List.Mem.head | apply List.Mem.tail)); first | done | fail) | apply has_nil | ((with_reducible apply has_el); (focus (first | (apply has_vels; (repeat (first | apply List.Mem.head | apply List.Mem.tail)); first | done | fail) | (apply has_rels; (repeat (first | apply List.Mem.head | apply List.Mem.tail)); first | done | fail))); omega) | (apply has_pt; (repeat (first | apply List.Mem.head | apply List.Mem.tail)); first | done | fail) | (apply has_lpt; (repeat (first | apply List.Mem.head | apply List.Mem.tail)); first | done | fail) | (apply has_vels; (repeat (first | apply List.Mem.head | apply List.Mem.tail)); first | done | fail) | (apply has_rels; (repeat (first | apply List.Mem.head | apply List.Mem.tail)); first | done | fail) | with_reducible assumption | ((with_reducible apply has_elg); (focus (first | (apply has_velg; (repeat (first | apply List.Mem.head | apply List.Mem.tail)); first | done | fail) | (apply has_relg; (repeat (first | apply List.Mem.head | apply List.Mem.tail)); first | done | fail))); omega) | (apply has_velg; (repeat (first | apply List.Mem.head | apply List.Mem.tail)); first | done | fail) | (apply has_relg; (repeat (first | apply List.Mem.head | apply List.Mem.tail)); first | done | fail) | (apply has_vwf; (repeat (first | apply List.Mem.head | apply List.Mem.tail)); first | done | fail))⟩) ?_
        refine t0 ?_
        refine xc ?_
        exact kb (p4, p5) trivial _ _ (by (repeat (refine Sub.cons rfl (by first | rfl | go_num) ?_)); exact Sub.nil) (by first | apply Fit.all | ((repeat (first | (apply Fit.nilN; (repeat (first | apply nrm_nil | apply nrm_cons)); try apply nrm_rfl) | (apply Fit.cons; focus ((repeat (first | apply Tk.here | apply Tk.there)); first | done | fail)))); first | done | fail))

    rintro ⟨p4, p5⟩ _
    dsimp only
    have hee : (e8 L k).length = (e8 m k).length := by rw [hea, heb]
    have hm8 := mid_all hee
    rw [hea] at hm8
    have hm0 := mid_zero (e8 L k) (e8 m k)
    have hx8 : (xorL (e8 L k) (e8 m k)).length = 8 := by rw [xorL_len hee, hea]
    have hmg := fun i => mid_get hee i
    have hms := fun i => mid_set hee i
    have hml := fun i => mid_len hee i
    rw [hea] at hmg hms hml
    have hLk : lay L k (xorL (e8 L k) (e8 m k)) = L' := hlay
    generalize e8 L k = ex at *
    generalize e8 m k = ey at *
    repeat' first|(refine wo ?_; first|refine oa ?_)|refine sq ?_|refine rg ?_|refine xc ?_|refine nl ?_|refine bk ?_
    refine TC.loop (ι := Nat) (fun i => [(19, I i)]) (fun i => [pt p4 (By (mid ex ey i)) TyE]) (fun i => i ≤ 8) (fun i => 8 - i) 0 [0, 1, 4, 5] (by omega) ?_ (hf := by rw [hm0]; first | apply Fit.all | ((repeat (first | (apply Fit.nilN; (repeat (first | apply nrm_nil | apply nrm_cons)); try apply nrm_rfl) | (apply Fit.cons; focus ((repeat (first | apply Tk.here | apply Tk.there)); first | done | fail)))); first | done | fail))
    intro i hi
    by_cases hi8 : i < 8
    · have hg := hmg i i hi8
      rw [if_neg (Nat.lt_irrefl i)] at hg
      have hs := hms i hi8
      have hl8 := hml i
      generalize hM' : mid ex ey (i + 1) = M' at *
      generalize hM : mid ex ey i = M at *
      repeat' first|refine rs (id := 5) (fun w => w.heap[p5]? = some (.cells (By ey).toArray TyE (0, 0))) ?_ (fun w hw => pt_at (by (repeat (first | apply List.Mem.head | apply List.Mem.tail)); first | done | fail) hw)|(refine wo ?_; first|(refine ao ?_; first|refine oa ?_)|refine oa ?_)|(refine gc ?_; first|(refine ci (fun hB => ?_) (fun hB => ?_) <;> try (exfalso; omega)))|refine sq ?_|refine rg ?_|refine xc ?_|refine nl ?_|refine sk ?_|refine bk ?_
      refine tka 0 ?_
      refine tk 1 (v := .pointer (some ⟨p4, i, none⟩)) (hi := rfl) (fun w h => by exact R_idxZ (E := env) rfl rfl rfl rfl hi8) ?_
      refine tka 3 ?_
      refine tk 4 (v := .pointer (some ⟨p5, i, none⟩)) (hi := rfl) (fun w h => by exact R_idxZ (E := env) rfl rfl rfl rfl hi8) ?_
      refine tk 5 (v := y8 (ey.getD i 0)) (hi := rfl) (fun w h => by exact R_load (E := env) rfl rfl rfl (blk_cell h (by rw [List.getElem?_toArray]; exact By_get _ _ (by omega)))) ?_
      refine t1 2 ?_
      refine ld (b := p4) (j := i) (cs := By M) (T := TyE) (v := y8 (ex.getD i 0)) ?_ (hj := by rw [← hg]; exact By_get _ _ (by omega))
      repeat' first|refine nl ?_
      refine te (fun w hw => pt_at (by (repeat (first | apply List.Mem.head | apply List.Mem.tail)); first | done | fail) hw) ?_
      refine tk 6 (v := y8 (bxr (ex.getD i 0) (ey.getD i 0))) (hi := rfl) (fun w h => by exact R_bxr rfl rfl) ?_
      refine tk 7 (v := .pointer (some ⟨p4, i, none⟩)) (hi := rfl) (fun w h => by exact R_idxZ (E := env) rfl rfl rfl rfl hi8) ?_
      refine t1 8 ?_
      refine sr (b := p4) (j := i) (cs := By M) (cs' := By M') (T := TyE) (v := y8 (bxr (ex.getD i 0) (ey.getD i 0))) ?_ (hs := by rw [← hs, By_set]; exact SetAt.of _ _ _ (by rw [By_len]; omega))
      repeat' first|refine nl ?_
      refine te (fun w hw => pt_at (by (repeat (first | apply List.Mem.head | apply List.Mem.tail)); first | done | fail) hw) ?_
      refine t0 ?_
      repeat' first|(refine wo ?_; first|(refine ao ?_; first|refine aw ?_)|refine oa ?_)|refine rg ?_|refine xc ?_|refine nl ?_|refine xb ?_
      exact lp (i + 1) (by omega) (hf := by rw [hM']; first | apply Fit.all | ((repeat (first | (apply Fit.nilN; (repeat (first | apply nrm_nil | apply nrm_cons)); try apply nrm_rfl) | (apply Fit.cons; focus ((repeat (first | apply Tk.here | apply Tk.there)); first | done | fail)))); first | done | fail))
    · obtain rfl : i = 8 := by omega
      rw [hm8]
      repeat' first|(refine wo ?_; first|(refine ao ?_; first|refine oa ?_)|refine oa ?_)|(refine gc ?_; first|refine cf ?_)|refine sq ?_|refine rg ?_|refine xc ?_|refine nl ?_|refine xe ?_
      refine TO.val (v := .slice (some ⟨p4, 0, none⟩) 8 8) (fun _ _ => by exact R_slArr (E := env) rfl rfl rfl) ?_
      refine cpo hBL ta (cs := By (xorL ex ey)) (ys := By L') (by rw [By_len, hx8]) ?_ (hsrc := fun w hw j u hu => by rw [Addr.add_lit, Nat.zero_add]; exact blk_cell (pt_at (b := p4) (cs := By (xorL ex ey)) (T := TyE) (by (repeat (first | apply List.Mem.head | apply List.Mem.tail)); first | done | fail) hw) (by rw [List.getElem?_toArray]; exact hu)) (h1 := By_one _) (hs := by rw [By_lay, hlay])
      have hBL' : (By L').length = l.length := by rw [By_len, ← hL', mid_len hl]
      repeat' first|(refine qst hBL' ta ?_)|(refine qst hBm tb ?_)|refine xc ?_|refine nl ?_|refine xb ?_|refine rq ?_|refine nq ?_|(refine wq ?_; first|refine qa ?_)
      exact lp ⟨k + 8, slSub va 8 (l.length - k), slSub vb 8 (l.length - k)⟩ ⟨ta', tb'⟩ (hs := by dsimp only; (repeat (refine Sub.cons rfl (by first | rfl | go_num) ?_)); exact Sub.nil) (hf := by dsimp only; rw [hL']; first | apply Fit.all | ((repeat (first | (apply Fit.nilN; (repeat (first | apply nrm_nil | apply nrm_cons)); try apply nrm_rfl) | (apply Fit.cons; focus ((repeat (first | apply Tk.here | apply Tk.there)); first | done | fail)))); first | done | fail)) (hlt := hnx)
  · generalize hLe : mid l m k = L at *
    repeat' first|refine lnt hBL ta ?_|(refine wo ?_; first|(refine ao ?_; first|refine oa ?_)|refine oa ?_)|(refine gc ?_; first|(refine ci (fun hB => ?_) (fun hB => ?_) <;> try (exfalso; omega)))|refine sq ?_|refine rg ?_|refine xc ?_|refine nl ?_|refine bk ?_|refine xe ?_
    have hBL0 : (By L).length = l.length := hBL
    subst hLe
    refine TC.loop (ι := Nat) (fun i => [(40, I i)]) (fun i => [own TyB a (By (mid l m (k + i)))]) (fun i => k + i ≤ l.length) (fun i => l.length - i) 0 [0, 1, 39] hk ?_
    intro i hi
    have hLi := mid_len hl (k + i)
    have hBi : (By (mid l m (k + i))).length = l.length := by rw [By_len, hLi]
    by_cases hlt : k + i < l.length
    · have hg := mid_get hl (k + i) (k + i) hlt
      rw [if_neg (Nat.lt_irrefl _)] at hg
      have hs := mid_set hl (k + i) hlt
      generalize hM' : mid l m (k + i + 1) = M' at *
      generalize hM : mid l m (k + i) = M at *
      generalize hx : l.getD (k + i) 0 = x at *
      generalize hy : m.getD (k + i) 0 = y at *
      have hAa : addrAt va i = addrAt a (k + i) := ta.ad hlt
      have hAb : addrAt vb i = addrAt b (k + i) := tb.ad hlt
      repeat' first|refine rs (id := 12) (fun w => Sl w b (By m) ∧ ∃ xs, Sl w a xs ∧ xs.length = l.length) ?_ (fun w hw => ⟨has_sl hw (by first | (apply has_vw; (repeat (first | apply List.Mem.head | apply List.Mem.tail)); first | done | fail) | (apply has_own; (repeat (first | apply List.Mem.head | apply List.Mem.tail)); first | done | fail) | (apply has_ro; (repeat (first | apply List.Mem.head | apply List.Mem.tail)); first | done | fail) | apply has_nil | ((with_reducible apply has_el); (focus (first | (apply has_vels; (repeat (first | apply List.Mem.head | apply List.Mem.tail)); first | done | fail) | (apply has_rels; (repeat (first | apply List.Mem.head | apply List.Mem.tail)); first | done | fail))); omega) | (apply has_pt; (repeat (first | apply List.Mem.head | apply List.Mem.tail)); first | done | fail) | (apply has_lpt; (repeat (first | apply List.Mem.head | apply List.Mem.tail)); first | done | fail) | (apply has_vels; (repeat (first | apply List.Mem.head | apply List.Mem.tail)); first | done | fail) | (apply has_rels; (repeat (first | apply List.Mem.head | apply List.Mem.tail)); first | done | fail) | with_reducible assumption | ((with_reducible apply has_elg); (focus (first | (apply has_velg; (repeat (first | apply List.Mem.head | apply List.Mem.tail)); first | done | fail) | (apply has_relg; (repeat (first | apply List.Mem.head | apply List.Mem.tail)); first | done | fail))); omega) | (apply has_velg; (repeat (first | apply List.Mem.head | apply List.Mem.tail)); first | done | fail) | (apply has_relg; (repeat (first | apply List.Mem.head | apply List.Mem.tail)); first | done | fail) | (apply has_vwf; (repeat (first | apply List.Mem.head | apply List.Mem.tail)); first | done | fail)), _, has_sl hw (by first | (apply has_vw; (repeat (first | apply List.Mem.head | apply List.Mem.tail)); first | done | fail) | (apply has_own; (repeat (first | apply List.Mem.head | apply List.Mem.tail)); first | done | fail) | (apply has_ro; (repeat (first | apply List.Mem.head | apply List.Mem.tail)); first | done | fail) | apply has_nil | ((with_reducible apply has_el); (focus (first | (apply has_vels; (repeat (first | apply List.Mem.head | apply List.Mem.tail)); first | done | fail) | (apply has_rels; (repeat (first | apply List.Mem.head | apply List.Mem.tail)); first | done | fail))); omega) | (apply has_pt; (repeat (first | apply List.Mem.head | apply List.Mem.tail)); first | done | fail) | (apply has_lpt; (repeat (first | apply List.Mem.head | apply List.Mem.tail)); first | done | fail) | (apply has_vels; (repeat (first | apply List.Mem.head | apply List.Mem.tail)); first | done | fail) | (apply has_rels; (repeat (first | apply List.Mem.head | apply List.Mem.tail)); first | done | fail) | with_reducible assumption | ((with_reducible apply has_elg); (focus (first | (apply has_velg; (repeat (first | apply List.Mem.head | apply List.Mem.tail)); first | done | fail) | (apply has_relg; (repeat (first | apply List.Mem.head | apply List.Mem.tail)); first | done | fail))); omega) | (apply has_velg; (repeat (first | apply List.Mem.head | apply List.Mem.tail)); first | done | fail) | (apply has_relg; (repeat (first | apply List.Mem.head | apply List.Mem.tail)); first | done | fail) | (apply has_vwf; (repeat (first | apply List.Mem.head | apply List.Mem.tail)); first | done | fail)), hBi⟩)|(refine wo ?_; first|(refine ao ?_; first|refine oa ?_)|refine oa ?_)|(refine gc ?_; first|(refine ci (fun hB => ?_) (fun hB => ?_) <;> try (exfalso; omega)))|refine sq ?_|refine rg ?_|refine xc ?_|refine nl ?_|refine sk ?_|refine bk ?_
      refine tka 0 ?_
      refine tka 1 ?_
      refine tk 2 (v := .pointer (some (addrAt a (k + i)))) (hi := rfl) (fun w h => by obtain ⟨xs, h1, h2⟩ := h.2; rw [← hAa]; exact R_idx (E := env) (i := i) rfl rfl rfl rfl ((h2.symm ▸ ta : Tl a va xs.length k).sl h1) (by rw [List.length_drop, h2]; omega)) ?_
      refine tka 4 ?_
      refine tka 5 ?_
      refine tk 6 (v := .pointer (some (addrAt b (k + i)))) (hi := rfl) (fun w h => by rw [← hAb]; exact R_idx (E := env) (i := i) rfl rfl rfl rfl ((hBm.symm ▸ tb : Tl b vb (By m).length k).sl h.1) (by rw [List.length_drop, hBm]; omega)) ?_
      refine tk 7 (v := y8 y) (hi := rfl) (fun w h => by rw [← hy]; exact R_load (E := env) rfl rfl rfl (h.1.cell (By_get _ _ (by omega)))) ?_
      refine t1 3 ?_
      refine le (v := a) (j := k + i) (xs := By M) (u := y8 x) ?_ (hj := by rw [← hg]; exact By_get _ _ (by omega))
      repeat' first|refine nl ?_
      refine te (fun w hw => ⟨has_sl hw (by first | (apply has_vw; (repeat (first | apply List.Mem.head | apply List.Mem.tail)); first | done | fail) | (apply has_own; (repeat (first | apply List.Mem.head | apply List.Mem.tail)); first | done | fail) | (apply has_ro; (repeat (first | apply List.Mem.head | apply List.Mem.tail)); first | done | fail) | apply has_nil | ((with_reducible apply has_el); (focus (first | (apply has_vels; (repeat (first | apply List.Mem.head | apply List.Mem.tail)); first | done | fail) | (apply has_rels; (repeat (first | apply List.Mem.head | apply List.Mem.tail)); first | done | fail))); omega) | (apply has_pt; (repeat (first | apply List.Mem.head | apply List.Mem.tail)); first | done | fail) | (apply has_lpt; (repeat (first | apply List.Mem.head | apply List.Mem.tail)); first | done | fail) | (apply has_vels; (repeat (first | apply List.Mem.head | apply List.Mem.tail)); first | done | fail) | (apply has_rels; (repeat (first | apply List.Mem.head | apply List.Mem.tail)); first | done | fail) | with_reducible assumption | ((with_reducible apply has_elg); (focus (first | (apply has_velg; (repeat (first | apply List.Mem.head | apply List.Mem.tail)); first | done | fail) | (apply has_relg; (repeat (first | apply List.Mem.head | apply List.Mem.tail)); first | done | fail))); omega) | (apply has_velg; (repeat (first | apply List.Mem.head | apply List.Mem.tail)); first | done | fail) | (apply has_relg; (repeat (first | apply List.Mem.head | apply List.Mem.tail)); first | done | fail) | (apply has_vwf; (repeat (first | apply List.Mem.head | apply List.Mem.tail)); first | done | fail)), _, has_sl hw (by first | (apply has_vw; (repeat (first | apply List.Mem.head | apply List.Mem.tail)); first | done | fail) | (apply has_own; (repeat (first | apply List.Mem.head | apply List.Mem.tail)); first | done | fail) | (apply has_ro; (repeat (first | apply List.Mem.head | apply List.Mem.tail)); first | done | fail) | apply has_nil | ((with_reducible apply has_el); (focus (first | (apply has_vels; (repeat (first | apply List.Mem.head | apply List.Mem.tail)); first | done | fail) | (apply has_rels; (repeat (first | apply List.Mem.head | apply List.Mem.tail)); first | done | fail))); omega) | (apply has_pt; (repeat (first | apply List.Mem.head | apply List.Mem.tail)); first | done | fail) | (apply has_lpt; (repeat (first | apply List.Mem.head | apply List.Mem.tail)); first | done | fail) | (apply has_vels; (repeat (first | apply List.Mem.head | apply List.Mem.tail)); first | done | fail) | (apply has_rels; (repeat (first | apply List.Mem.head | apply List.Mem.tail)); first | done | fail) | with_reducible assumption | ((with_reducible apply has_elg); (focus (first | (apply has_velg; (repeat (first | apply List.Mem.head | apply List.Mem.tail)); first | done | fail) | (apply has_relg; (repeat (first | apply List.Mem.head | apply List.Mem.tail)); first | done | fail))); omega) | (apply has_velg; (repeat (first | apply List.Mem.head | apply List.Mem.tail)); first | done | fail) | (apply has_relg; (repeat (first | apply List.Mem.head | apply List.Mem.tail)); first | done | fail) | (apply has_vwf; (repeat (first | apply List.Mem.head | apply List.Mem.tail)); first | done | fail)), hBi⟩) ?_
      refine tk 8 (v := y8 (bxr x y)) (hi := rfl) (fun w h => by exact R_bxr rfl rfl) ?_
      refine tk 9 (v := .pointer (some (addrAt a (k + i)))) (hi := rfl) (fun w h => by obtain ⟨xs, h1, h2⟩ := h.2; rw [← hAa]; exact R_idx (E := env) (i := i) rfl rfl rfl rfl ((h2.symm ▸ ta : Tl a va xs.length k).sl h1) (by rw [List.length_drop, h2]; omega)) ?_
      refine t1 10 ?_
      refine so (v := a) (j := k + i) (xs := By M) (ys := By M') (c := y8 (bxr x y)) ?_ (hj := by omega) (hs := by rw [← hs, By_set])
      repeat' first|refine nl ?_
      refine te (fun w hw => ⟨has_sl hw (by first | (apply has_vw; (repeat (first | apply List.Mem.head | apply List.Mem.tail)); first | done | fail) | (apply has_own; (repeat (first | apply List.Mem.head | apply List.Mem.tail)); first | done | fail) | (apply has_ro; (repeat (first | apply List.Mem.head | apply List.Mem.tail)); first | done | fail) | apply has_nil | ((with_reducible apply has_el); (focus (first | (apply has_vels; (repeat (first | apply List.Mem.head | apply List.Mem.tail)); first | done | fail) | (apply has_rels; (repeat (first | apply List.Mem.head | apply List.Mem.tail)); first | done | fail))); omega) | (apply has_pt; (repeat (first | apply List.Mem.head | apply List.Mem.tail)); first | done | fail) | (apply has_lpt; (repeat (first | apply List.Mem.head | apply List.Mem.tail)); first | done | fail) | (apply has_vels; (repeat (first | apply List.Mem.head | apply List.Mem.tail)); first | done | fail) | (apply has_rels; (repeat (first | apply List.Mem.head | apply List.Mem.tail)); first | done | fail) | with_reducible assumption | ((with_reducible apply has_elg); (focus (first | (apply has_velg; (repeat (first | apply List.Mem.head | apply List.Mem.tail)); first | done | fail) | (apply has_relg; (repeat (first | apply List.Mem.head | apply List.Mem.tail)); first | done | fail))); omega) | (apply has_velg; (repeat (first | apply List.Mem.head | apply List.Mem.tail)); first | done | fail) | (apply has_relg; (repeat (first | apply List.Mem.head | apply List.Mem.tail)); first | done | fail) | (apply has_vwf; (repeat (first | apply List.Mem.head | apply List.Mem.tail)); first | done | fail)), _, has_sl hw (by first | (apply has_vw; (repeat (first | apply List.Mem.head | apply List.Mem.tail)); first | done | fail) | (apply has_own; (repeat (first | apply List.Mem.head | apply List.Mem.tail)); first | done | fail) | (apply has_ro; (repeat (first | apply List.Mem.head | apply List.Mem.tail)); first | done | fail) | apply has_nil | ((with_reducible apply has_el); (focus (first | (apply has_vels; (repeat (first | apply List.Mem.head | apply List.Mem.tail)); first | done | fail) | (apply has_rels; (repeat (first | apply List.Mem.head | apply List.Mem.tail)); first | done | fail))); omega) | (apply has_pt; (repeat (first | apply List.Mem.head | apply List.Mem.tail)); first | done | fail) | (apply has_lpt; (repeat (first | apply List.Mem.head | apply List.Mem.tail)); first | done | fail) | (apply has_vels; (repeat (first | apply List.Mem.head | apply List.Mem.tail)); first | done | fail) | (apply has_rels; (repeat (first | apply List.Mem.head | apply List.Mem.tail)); first | done | fail) | with_reducible assumption | ((with_reducible apply has_elg); (focus (first | (apply has_velg; (repeat (first | apply List.Mem.head | apply List.Mem.tail)); first | done | fail) | (apply has_relg; (repeat (first | apply List.Mem.head | apply List.Mem.tail)); first | done | fail))); omega) | (apply has_velg; (repeat (first | apply List.Mem.head | apply List.Mem.tail)); first | done | fail) | (apply has_relg; (repeat (first | apply List.Mem.head | apply List.Mem.tail)); first | done | fail) | (apply has_vwf; (repeat (first | apply List.Mem.head | apply List.Mem.tail)); first | done | fail)), by rw [← hM', By_len, mid_len hl]⟩) ?_
      refine t0 ?_
      repeat' first|(refine wo ?_; first|(refine ao ?_; first|refine aw ?_)|refine oa ?_)|refine rg ?_|refine xc ?_|refine nl ?_|refine xb ?_
      exact lp (i + 1) (by omega) (hf := by rw [← Nat.add_assoc, hM']; first | apply Fit.all | ((repeat (first | (apply Fit.nilN; (repeat (first | apply nrm_nil | apply nrm_cons)); try apply nrm_rfl) | (apply Fit.cons; focus ((repeat (first | apply Tk.here | apply Tk.there)); first | done | fail)))); first | done | fail))
    · have hki : k + i = l.length := by omega
      rw [hki, hma]
      repeat' first|(refine wo ?_; first|(refine ao ?_; first|refine oa ?_))|(refine gc ?_; first|(refine ci (fun hB => ?_) (fun hB => ?_) <;> try (exfalso; omega)))|refine sq ?_|refine rg ?_|refine xc ?_|refine nl ?_|refine xe ?_
      exact e0 rfl
end Go.Art
set_option linter.unusedSimpArgs false
set_option linter.unusedVariables false
namespace Go.Art
open Go Go.Proofs Go.RowKit
attribute [local irreducible] Fit pt own ro vw mpc lpt vels rels mow lrc dfr
attribute [local irreducible] lmp lme mit velg relg
theorem Clone_tr (b : Value) (m : List Int) (hm : m.length ≤ 1099511627776) : Tr Tryz.prog 67 [b] [vw b (By m)] [] fun v D => v.oneCell' = true ∧ D = [own TyB v (By m)] := by
  refine Tr.enter env _ Tryz.func67 (by kernel_rfl) rfl Tryz.ntmps67 rfl (by repeat (first | exact has00 | refine has01 ?_)) fun w0 => ?_
  refine TC.fact (p := ∃ o c, b = .slice o m.length c ∧ (o = none → m = [])) (fun w hw => by
    obtain ⟨o, c, h1, h2, h3, h4⟩ := has_sl hw (v := b) (xs := By m) (by first | (apply has_vw; (repeat (first | apply List.Mem.head | apply List.Mem.tail)); first | done | fail) | (apply has_own; (repeat (first | apply List.Mem.head | apply List.Mem.tail)); first | done | fail) | (apply has_ro; (repeat (first | apply List.Mem.head | apply List.Mem.tail)); first | done | fail) | apply has_nil | ((with_reducible apply has_el); (focus (first | (apply has_vels; (repeat (first | apply List.Mem.head | apply List.Mem.tail)); first | done | fail) | (apply has_rels; (repeat (first | apply List.Mem.head | apply List.Mem.tail)); first | done | fail))); omega) | (apply has_pt; (repeat (first | apply List.Mem.head | apply List.Mem.tail)); first | done | fail) | (apply has_lpt; (repeat (first | apply List.Mem.head | apply List.Mem.tail)); first | done | fail) | (apply has_vels; (repeat (first | apply List.Mem.head | apply List.Mem.tail)); first | done | fail) | (apply has_rels; (repeat (first | apply List.Mem.head | apply List.Mem.tail)); first | done | fail) | with_reducible assumption | ((with_reducible apply has_elg); (focus (first | (apply has_velg; (repeat (first | apply List.Mem.head | apply List.Mem.tail)); first | done | fail) | (apply has_relg; (repeat (first | apply List.Mem.head | apply List.Mem.tail)); first | done | fail))); omega) | (apply has_velg; (repeat (first | apply List.Mem.head | apply List.Mem.tail)); first | done | fail) | (apply has_relg; (repeat (first | apply List.Mem.head | apply List.Mem.tail)); first | done | fail) | (apply has_vwf; (repeat (first | apply List.Mem.head | apply List.Mem.tail)); first | done | fail))
    rw [By_len] at h1
    refine ⟨o, c, h1, fun e => ?_⟩
    subst e
    cases m with
    | nil => rfl
    | cons x r => obtain ⟨_, h, _⟩ := h4 0 _ (by rfl); cases h) fun ⟨o, c, hb, hn⟩ => ?_
  subst hb
  cases o with
  | none =>
    have := hn rfl
    subst this
    repeat' first|(refine wo ?_; first|(refine ao ?_; first|refine isl ?_)|refine oa ?_)|(refine gc ?_; first|refine ct ?_)|refine sq ?_|refine rg ?_|refine xc ?_|refine nl ?_|refine rt ?_
    refine TX.im (own_nil TyB _) ?_
    exact r1 ⟨rfl, rfl⟩
  | some o =>
    repeat' first|(refine wo ?_; first|(refine ao ?_; first|refine isl ?_)|refine oa ?_)|(refine gc ?_; first|refine cf ?_)|refine sq ?_|refine rg ?_|refine xc ?_|refine nl ?_|refine sk ?_
    refine sl0 fun v0 => ?_
    repeat' first|(refine wo ?_; first|refine oa ?_)
    refine ap (xs := []) (news := By m) (fun v => ?_) (h1 := By_one _) (hby := by rw [By_len]; simp; omega) (h63 := by rw [By_len]; simp; omega)
    refine TO.one (v := v) (xs := By m) fun hv => ?_
    repeat' first|(refine wo ?_; first|refine oa ?_)|refine xc ?_|refine nl ?_|refine rt ?_
    exact r1 ⟨hv, rfl⟩
theorem Into_tr (a b : Value) (l m : List Int) (hl : l.length = m.length) : Tr Tryz.prog 95 [a, b] [vw b (By m)] [own TyB a (By l)] fun v D => v = I 0 ∧ D = [own TyB a (By (xorL l m))] := by
  have h1 := By_len l
  have h2 := By_len m
  refine Tr.enter env _ Tryz.func95 (by kernel_rfl) rfl Tryz.ntmps95 rfl (by repeat (first | exact has00 | refine has01 ?_)) fun w0 => ?_
  repeat' first|(refine gca ?_; first|(refine ca (add_tr a b l m hl) ?_; rintro _ _ rfl))|refine ln (xs := By l) ?_|refine ln (xs := By m) ?_|(refine wo ?_; first|(refine ao ?_; first|refine oa ?_)|refine oa ?_)|(refine gc ?_; first|(refine cn (fun hB => ?_) (fun hB => ?_) <;> try (exfalso; omega)))|refine sq ?_|refine rg ?_|refine xc ?_|refine nl ?_|refine sk ?_|refine rt ?_
  exact r1 ⟨rfl, rfl⟩
end Go.Art
set_option linter.unusedSimpArgs false
set_option linter.unusedVariables false
namespace Go.Art
open Go Go.Proofs Go.RowKit
/-- A set that rises. -/
def lastOf (is : List Int) (i : Nat) : Int := if i = 0 then -1 else is.getD (i - 1) 0
structure Rise (is : List Int) (k : Int) : Prop where
  up : ∀ i : Nat, i < is.length → lastOf is i < is.getD i 0
  lt : ∀ x ∈ is, 0 ≤ x ∧ x < k
/-- The sum of those that a set names, of the first i. -/
def sumI (ls : List (List Int)) (is : List Int) (z : List Int) : Nat → List Int
  | 0 => z
  | i + 1 => xorL (sumI ls is z i) (ls.getD (is.getD i 0).toNat [])
theorem sumI_len {ls : List (List Int)} {is z : List Int} {size : Nat} (hr : Rise is ls.length) (hls : ∀ m ∈ ls, m.length = size) (hz : z.length = size) (i : Nat) : i ≤ is.length → (sumI ls is z i).length = size := by
  induction i with
  | zero => exact fun _ => hz
  | succ i ih =>
    intro h
    have h1 := ih (by omega)
    have hx := hr.lt _ (mem_getD.2 ⟨i, by omega, rfl⟩)
    have h2 := hls _ (getD_memL (ls := ls) (i := (is.getD i 0).toNat) (by omega))
    unfold sumI
    rw [xorL_len (by rw [h1, h2]), h1]
section
variable {P : Program} {E : Env P} {n : Sh} {X : Cx} {s : List K} {fr : Fr} {A : List Ch} {ops : Array Oper} {rest : List Oper} {d : Nat} {ty t : TypeId} {pos : String} {after : Array Edge} {x y : Operand} {k1 : IntKind} {m : Int} {by_ : Nat}
theorem mkb {e : TypeId} (k : ∀ v', TO E n X s ops rest ((d, v') :: fr) (own e v' (By (List.replicate m.toNat 0)) :: A)) (hx : ev fr x = some (.int k1 m) := by rfl) (hy : ev fr y = some (.int k1 m) := by rfl) (ht : lk E.und t = some (.slice e) := by rfl) (he : lk E.inf e = some (y8 0, 1, by_) := by rfl)
    (h0 : 0 ≤ m := by omega) (hby : m ≤ 35184372088832 := by omega) (h8 : by_ ≤ 8 := by decide) (hd : Nat.blt d n.n = true := by rfl) : TO E n X s ops (⟨some d, .makeSlice t x y, ty, pos, after, none⟩ :: rest) fr A :=
  mk (fun v' => by have := k v'; rwa [By, List.map_replicate] at this) hx hy ht he rfl h0 (Nat.le_trans (Nat.mul_le_mul_right _ h8) (by omega)) (by omega) hd
end
attribute [local irreducible] Fit pt own ro vw mpc lpt vels rels mow lrc dfr
attribute [local irreducible] lmp lme mit velg relg
abbrev TyV : TypeId := 25
abbrev TyO : TypeId := 4
theorem Named1_tr (l Dm bad p8 c1 c2 c3 : Nat) (rec : Loop) (sv s o : Value) (hs : List Value) (ls : List (List Int)) (is : List Int) (size : Nat) (z : List Int) (hr : Rise is ls.length) (hls : ∀ m ∈ ls, m.length = size) (hz : z.length = size)
    (hy : ∀ acc m h, acc.length = size → m.length = size → Ty Tryz.prog l [h] [vw h (By m)] [lrc l rec .ready none, dfr Dm, pt p8 [o] TyV, own TyB o (By acc)] fun ok B => ok = true ∧ B = [lrc l rec .ready none, dfr Dm, pt p8 [o] TyV, own TyB o (By (xorL acc m))]) :
    Tr Tryz.prog 109 [yv l, ptr c1, ptr c2, ptr c3] [lpt c1 [sv] 22, lpt c2 [s] 40, lpt c3 [ptr bad] 157, vw sv (Is is), vw s hs, velg y8 hs ls] [lrc l rec .ready none, dfr Dm, pt bad [.bool false] TyO, pt p8 [o] TyV, own TyB o (By z)]
      fun _ B => B = [lrc l rec .ready none, dfr Dm, pt bad [.bool false] TyO, pt p8 [o] TyV, own TyB o (By (sumI ls is z is.length))] := by
  have hlen := sumI_len hr hls hz
  refine Tr.enter env _ Tryz.func109 (by kernel_rfl) rfl Tryz.ntmps109 rfl (by repeat (first | exact has00 | refine has01 ?_)) fun w0 => ?_
  refine TC.leni (v := sv) (l := is) fun hil => ?_
  refine TC.elg (g := y8) (hs := hs) (ls := ls) (fun hl => ?_)
  refine TC.fact (vw_len (v := s) (xs := hs) (by first | (apply has_vw; (repeat (first | apply List.Mem.head | apply List.Mem.tail)); first | done | fail) | (apply has_own; (repeat (first | apply List.Mem.head | apply List.Mem.tail)); first | done | fail) | (apply has_ro; (repeat (first | apply List.Mem.head | apply List.Mem.tail)); first | done | fail) | apply has_nil | ((with_reducible apply has_el); (focus (first | (apply has_vels; (repeat (first | apply List.Mem.head | apply List.Mem.tail)); first | done | fail) | (apply has_rels; (repeat (first | apply List.Mem.head | apply List.Mem.tail)); first | done | fail))); omega) | (apply has_pt; (repeat (first | apply List.Mem.head | apply List.Mem.tail)); first | done | fail) | (apply has_lpt; (repeat (first | apply List.Mem.head | apply List.Mem.tail)); first | done | fail) | (apply has_vels; (repeat (first | apply List.Mem.head | apply List.Mem.tail)); first | done | fail) | (apply has_rels; (repeat (first | apply List.Mem.head | apply List.Mem.tail)); first | done | fail) | with_reducible assumption | ((with_reducible apply has_elg); (focus (first | (apply has_velg; (repeat (first | apply List.Mem.head | apply List.Mem.tail)); first | done | fail) | (apply has_relg; (repeat (first | apply List.Mem.head | apply List.Mem.tail)); first | done | fail))); omega) | (apply has_velg; (repeat (first | apply List.Mem.head | apply List.Mem.tail)); first | done | fail) | (apply has_relg; (repeat (first | apply List.Mem.head | apply List.Mem.tail)); first | done | fail) | (apply has_vwf; (repeat (first | apply List.Mem.head | apply List.Mem.tail)); first | done | fail))) fun hsl => ?_
  repeat' first|(refine wo ?_; first|refine oa ?_|refine ldl ?_|refine lnm ?_)|refine sq ?_|refine rg ?_|refine xc ?_|refine nl ?_|refine bk ?_
  refine TC.loop (ι := Nat) (fun i => [(10, I i), (5, I (lastOf is i))]) (fun i => [lrc l rec .ready none, dfr Dm, pt bad [.bool false] TyO, pt p8 [o] TyV, own TyB o (By (sumI ls is z i))]) (fun i => i ≤ is.length) (fun i => is.length - i) 0 [0, 1, 2, 3, 8, 9] (by omega) ?_
  intro i hi
  by_cases hlt : i < is.length
  · have hx := hr.lt _ (mem_getD.2 ⟨i, hlt, rfl⟩)
    have hu := hr.up i hlt
    have hn : lastOf is (i + 1) = is.getD i 0 := rfl
    have hsm : sumI ls is z (i + 1) = xorL (sumI ls is z i) (ls.getD (is.getD i 0).toNat []) := rfl
    have hl1 := hlen i hi
    generalize hs1 : sumI ls is z (i + 1) = S1 at *
    generalize sumI ls is z i = S0 at *
    generalize hxe : is.getD i 0 = x at *
    generalize hle : lastOf is i = la at *
    have hxl : x.toNat < ls.length := by omega
    have hm := hls _ (getD_memL hxl)
    repeat' first|refine lie hxe ?_|(refine wo ?_; first|(refine ao ?_; first|refine oa ?_)|refine oa ?_|refine ld ?_|refine ldl ?_|refine ixmn ?_|refine lv ?_|refine ln ?_|refine ix ?_|refine sr ?_|refine gy ?_|(refine gsi (fun hB => ?_) (fun hB => ?_) <;> try (exfalso; omega)))|(refine gc ?_; first|(refine ci (fun hB => ?_) (fun hB => ?_) <;> try (exfalso; omega)))|refine sq ?_|refine rg ?_|refine xc ?_|refine nl ?_|refine sk ?_|refine bk ?_
    refine cy (hy S0 (ls.getD x.toNat []) (hs.getD x.toNat nS) hl1 hm) ?_ (hp := has1 (has_elg (has_velg (by (repeat (first | apply List.Mem.head | apply List.Mem.tail)); first | done | fail)) hxl) has0)
    rintro _ _ ⟨rfl, rfl⟩
    rw [← hsm, show decide ((hs.length : Int) ≤ x) = false from decide_eq_false hB]
    repeat' first|(refine wo ?_; first|(refine ao ?_; first|refine aw ?_)|refine oa ?_|refine gy ?_)|(refine gc ?_; first|refine cf ?_)|refine rg ?_|refine xc ?_|refine nl ?_|refine sk ?_|refine xb ?_
    refine lp (i + 1) (by omega) (hs := by rw [hn]; (repeat (refine Sub.cons rfl (by first | rfl | go_num) ?_)); exact Sub.nil) (hf := by rw [hs1]; first | apply Fit.all | ((repeat (first | (apply Fit.nilN; (repeat (first | apply nrm_nil | apply nrm_cons)); try apply nrm_rfl) | (apply Fit.cons; focus ((repeat (first | apply Tk.here | apply Tk.there)); first | done | fail)))); first | done | fail))
  · obtain rfl : i = is.length := by omega
    repeat' first|(refine wo ?_; first|(refine ao ?_; first|refine oa ?_))|(refine gc ?_; first|(refine ci (fun hB => ?_) (fun hB => ?_) <;> try (exfalso; omega)))|refine sq ?_|refine rg ?_|refine xc ?_|refine nl ?_|refine xe ?_
    exact e0 rfl
def sumL (ls : List (List Int)) (is : List Int) : List Int := sumI ls is (List.replicate (ls.getD 0 []).length 0) is.length
theorem Sum_tr (s sv : Value) (hs : List Value) (ls : List (List Int)) (is : List Int) (hE : blkE ls = 0) (hr : Rise is ls.length) (hne : 0 < is.length) : Tr Tryz.prog 69 [s, sv] [vw s hs, velg y8 hs ls, vw sv (Is is)] []
    fun v D => ∃ o, v = tup2 o (I 0) ∧ o.oneCell' = true ∧ D = [own TyB o (By (sumL ls is))] := by
  obtain ⟨hk, hsz, hal⟩ := blkE_zero hE
  have hN : ∀ b, s.oneCell' = true → sv.oneCell' = true → Tr Tryz.prog 94 [s, sv, ptr b] [] [] fun v D => ∃ c1 c2 c3, v = .func (.func 109) #[] #[ptr c1, ptr c2, ptr c3] ∧ D = [pt c1 [sv] 22, pt c2 [s] 40, pt c3 [ptr b] 157] := fun b h1 h2 => by
    refine Tr.enter env _ Tryz.func94 (by kernel_rfl) rfl Tryz.ntmps94 rfl (by repeat (first | exact has00 | refine has01 ?_)) fun w0 => ?_
    repeat' first|refine bx1 fun c => ?_|(refine wo ?_; first|refine oa ?_)|refine sq ?_|refine rg ?_|refine xc ?_|refine nl ?_|refine rt ?_
    rename_i c2 c1
    exact r1 ⟨c1, c2, c, rfl, rfl⟩
  refine Tr.enterM env _ Tryz.func69 (by kernel_rfl) rfl Tryz.ntmps69 rfl (by (repeat (first | exact has00 | refine has01 ?_)); first | done | fail) fun w0 => ?_
  refine TC.leni (v := sv) (l := is) fun hil => ?_
  refine TC.elg (g := y8) (hs := hs) (ls := ls) (fun hl => ?_)
  refine TC.fact (vw_len (v := s) (xs := hs) (by first | (apply has_vw; (repeat (first | apply List.Mem.head | apply List.Mem.tail)); first | done | fail) | (apply has_own; (repeat (first | apply List.Mem.head | apply List.Mem.tail)); first | done | fail) | (apply has_ro; (repeat (first | apply List.Mem.head | apply List.Mem.tail)); first | done | fail) | apply has_nil | ((with_reducible apply has_el); (focus (first | (apply has_vels; (repeat (first | apply List.Mem.head | apply List.Mem.tail)); first | done | fail) | (apply has_rels; (repeat (first | apply List.Mem.head | apply List.Mem.tail)); first | done | fail))); omega) | (apply has_pt; (repeat (first | apply List.Mem.head | apply List.Mem.tail)); first | done | fail) | (apply has_lpt; (repeat (first | apply List.Mem.head | apply List.Mem.tail)); first | done | fail) | (apply has_vels; (repeat (first | apply List.Mem.head | apply List.Mem.tail)); first | done | fail) | (apply has_rels; (repeat (first | apply List.Mem.head | apply List.Mem.tail)); first | done | fail) | with_reducible assumption | ((with_reducible apply has_elg); (focus (first | (apply has_velg; (repeat (first | apply List.Mem.head | apply List.Mem.tail)); first | done | fail) | (apply has_relg; (repeat (first | apply List.Mem.head | apply List.Mem.tail)); first | done | fail))); omega) | (apply has_velg; (repeat (first | apply List.Mem.head | apply List.Mem.tail)); first | done | fail) | (apply has_relg; (repeat (first | apply List.Mem.head | apply List.Mem.tail)); first | done | fail) | (apply has_vwf; (repeat (first | apply List.Mem.head | apply List.Mem.tail)); first | done | fail))) fun hsl => ?_
  refine TC.one (v := s) (xs := hs) fun h1s => ?_
  refine TC.one (v := sv) (xs := Is is) fun h1v => ?_
  repeat' first|(refine gca ?_; first|(refine ca (BCheck_tr s hs ls) ?_; rintro _ _ ⟨rfl, rfl⟩; rw [hE]))|refine al fun p => ?_|(refine wo ?_; first|(refine ao ?_; first|refine oa ?_)|refine oa ?_|refine lnm ?_|refine lv ?_|refine ix ?_|refine sr ?_)|(refine gc ?_; first|refine cf ?_)|refine sq ?_|refine rg ?_|refine xc ?_|refine nl ?_|refine sk ?_
  rw [show Int.toNat 0 = 0 from rfl, show decide ((is.length : Int) = 0) = false from decide_eq_false (by omega)]
  refine mkb fun o => ?_
  rw [show ((ls.getD 0 []).length : Int).toNat = (ls.getD 0 []).length from rfl]
  refine TO.one (v := o) (xs := By (List.replicate (ls.getD 0 []).length 0)) fun ho => ?_
  repeat' first|(refine gca ?_; first|(refine ca (hN p h1s h1v) ?_; rintro _ _ ⟨c1, c2, c3, rfl, rfl⟩))|refine al fun p8 => ?_|(refine wo ?_; first|refine oa ?_|refine sr ?_)|refine sq ?_|refine rg ?_|refine xc ?_|refine nl ?_|refine bk ?_
  refine TC.range [lpt c1 [sv] 22, lpt c2 [s] 40, lpt c3 [ptr p] 157, vw sv (Is is), vw s hs, velg y8 hs ls] [pt p [.bool false] TyO, pt p8 [o] TyV, own TyB o (By (List.replicate (ls.getD 0 []).length 0))]
    (fun l rec Dm pend B' => pend = none ∧ B' = [dfr Dm, pt p [.bool false] TyO, pt p8 [o] TyV, own TyB o (By (sumL ls is))]) ?_ ?_
  · intro rec l Dm hrec
    refine (Named1_tr l Dm p p8 c1 c2 c3 rec sv s o hs ls is (ls.getD 0 []).length (List.replicate (ls.getD 0 []).length 0) hr hal (List.length_replicate ..) ?_).mono ?_
    · intro acc m h h1 h2
      refine Ty.intro env hrec (by (repeat (first | exact has00 | refine has01 ?_)); first | done | fail) fun w1 => ?_
      repeat' first|(refine gca ?_; first|(refine ca (Into_tr o h acc m (by omega)) ?_; rintro _ _ ⟨rfl, rfl⟩))|refine xbeg ?_|(refine wo ?_; first|refine oa ?_|refine ld ?_)|refine rg ?_|refine nl ?_|refine bk ?_|refine xb ?_
      exact yn ⟨rfl, rfl⟩
    · rintro v B rfl
      exact ⟨.ready, none, _, rfl, by decide, rfl, rfl⟩
  · rintro l rec Dm pend B' ⟨rfl, rfl⟩
    show TX env _ _ _ _ _ _
    repeat' first|(refine wo ?_; first|refine oa ?_|refine ld ?_)|(refine gc ?_; first|refine cf ?_)|refine sq ?_|refine rg ?_|refine xc ?_|refine nl ?_|refine sk ?_|refine rt ?_|refine xb ?_
    exact m2 ⟨o, rfl, ho, rfl⟩
end Go.Art
set_option linter.unusedSimpArgs false
set_option linter.unusedVariables false
namespace Go.Art
open Go

def InjL (l : List Int) : Prop := ∀ a b, a < l.length → b < l.length → l.getD a 0 = l.getD b 0 → a = b
theorem InjL.swp {l : List Int} (h : InjL l) {i j : Nat} (hi : i < l.length) (hj : j < l.length) : InjL (swp l i j) := by
  intro a b ha hb he
  rw [swp_length] at ha hb
  rw [swp_get l a hi hj, swp_get l b hi hj] at he
  by_cases a1 : a = i
  · rw [if_pos a1] at he
    by_cases b1 : b = i
    · omega
    · rw [if_neg b1] at he
      by_cases b2 : b = j
      · rw [if_pos b2] at he; have := h _ _ hj hi he; omega
      · rw [if_neg b2] at he; have := h _ _ hj hb he; omega
  · rw [if_neg a1] at he
    by_cases a2 : a = j
    · rw [if_pos a2] at he
      by_cases b1 : b = i
      · rw [if_pos b1] at he; have := h _ _ hi hj he; omega
      · rw [if_neg b1] at he
        by_cases b2 : b = j
        · omega
        · rw [if_neg b2] at he; have := h _ _ hi hb he; omega
    · rw [if_neg a2] at he
      by_cases b1 : b = i
      · rw [if_pos b1] at he; have := h _ _ ha hj he; omega
      · rw [if_neg b1] at he
        by_cases b2 : b = j
        · rw [if_pos b2] at he; have := h _ _ ha hi he; omega
        · rw [if_neg b2] at he; exact h _ _ ha hb he
theorem ordL_in (k : Nat) : ∀ (m i : Nat) (l : List Int) (st : BitVec 64), l.length = k → i + m ≤ k → InjL l →
    (∀ x ∈ (ordL k m i l st).1, ∃ j, i ≤ j ∧ j < k ∧ l.getD j 0 = x) ∧ (ordL k m i l st).1.Nodup
  | 0, _, _, _, _, _, _ => ⟨fun x hx => (by unfold ordL at hx; cases hx), (by unfold ordL; exact List.nodup_nil)⟩
  | m + 1, i, l, st, hl, him, hn => by
    have hs := sdraw_lt (n := k - i) (by omega) st
    unfold ordL
    dsimp only
    generalize (sdraw (k - i) st).1 = s at *
    generalize (sdraw (k - i) st).2 = st2 at *
    have hi : i < l.length := by omega
    have hj : i + s < l.length := by omega
    obtain ⟨h1, h2⟩ := ordL_in k m (i + 1) (swp l i (i + s)) st2 (by rw [swp_length, hl]) (by omega) (hn.swp hi hj)
    refine ⟨fun x hx => ?_, List.nodup_cons.2 ⟨fun hx => ?_, h2⟩⟩
    · rcases List.mem_cons.1 hx with rfl | hx
      · exact ⟨i + s, by omega, by omega, rfl⟩
      · obtain ⟨j, j1, j2, rfl⟩ := h1 x hx
        rw [swp_get l j hi hj, if_neg (by omega)]
        split
        · exact ⟨i, by omega, by omega, rfl⟩
        · exact ⟨j, by omega, j2, rfl⟩
    · obtain ⟨j, j1, j2, he⟩ := h1 _ hx
      have e2 : (swp l i (i + s)).getD i 0 = l.getD (i + s) 0 := by rw [swp_get l i hi hj, if_pos rfl]
      have := hn.swp hi hj i j (by rw [swp_length]; omega) (by rw [swp_length]; omega) (by rw [e2, he])
      omega
theorem upto_inj (k : Nat) : InjL (upto k) := fun a b ha hb he => by
  rw [upto_length] at ha hb
  rw [upto_get k a ha, upto_get k b hb] at he
  omega
theorem srt_rise {l : List Int} {k : Int} (hn : l.Nodup) (hk : ∀ x ∈ l, 0 ≤ x ∧ x < k) : Rise (srt l) k := by
  have hp := srt_perm l
  have hs := srt_sorted l
  have hd : (srt l).Nodup := hp.nodup_iff.2 hn
  have hm : ∀ x ∈ srt l, 0 ≤ x ∧ x < k := fun x hx => hk x (hp.mem_iff.1 hx)
  refine ⟨fun i hi => ?_, hm⟩
  unfold lastOf
  split
  · have := hm _ (mem_getD.2 ⟨i, hi, rfl⟩); omega
  · rename_i h0
    have h1 := List.pairwise_iff_getElem.1 hs (i - 1) i (by omega) hi (by omega)
    have h2 := List.pairwise_iff_getElem.1 hd (i - 1) i (by omega) hi (by omega)
    simp only [List.getD_eq_getElem?_getD, List.getElem?_eq_getElem hi, List.getElem?_eq_getElem (show i - 1 < (srt l).length by omega), Option.getD_some]
    omega
/-- A drawn set: it rises, is of places below k, has d of them. -/
theorem pick_rise {k d : Int} (h : Sized k d) (st : BitVec 64) : (pickR k d st).2 = 0 ∧ Rise (pickR k d st).1 k ∧ ((pickR k d st).1.length : Int) = d := by
  obtain ⟨h1, h2, h3, h4⟩ := id h
  unfold pickR ordR
  rw [if_pos h]
  obtain ⟨g1, g2⟩ := ordL_in k.toNat d.toNat 0 (upto k.toNat) st (upto_length _) (by omega) (upto_inj _)
  refine ⟨rfl, srt_rise g2 fun x hx => ?_, ?_⟩
  · obtain ⟨j, j1, j2, rfl⟩ := g1 x hx
    rw [upto_get _ _ j2]; omega
  · dsimp only; rw [srt_length, ordL_len]; omega
/-- What a table's weights draw. -/
def tabOk (t : List Int) (k : Int) : Prop := (1 ≤ k ∧ k ≤ 65536) ∧ (1 ≤ t.length ∧ t.length ≤ k) ∧ (∀ w ∈ t, 0 ≤ w ∧ w ≤ 16777215) ∧ ∃ w ∈ t, 0 < w
theorem sum_pos' {t : List Int} (h : ∀ w ∈ t, 0 ≤ w ∧ w ≤ 16777215) (hp : ∃ w ∈ t, 0 < w) : 0 < t.sum := by
  induction t with
  | nil => obtain ⟨w, hw, _⟩ := hp; cases hw
  | cons a r ih =>
    have h1 := h a (by simp)
    have h2 := sum_bound (t := r) fun w hw => h w (by simp [hw])
    rw [List.sum_cons]
    obtain ⟨w, hw, hw0⟩ := hp
    rcases List.mem_cons.1 hw with rfl | hw
    · omega
    · have := ih (fun w hw => h w (by simp [hw])) ⟨w, hw, hw0⟩; omega
/-- The set of a number, by a table. -/
def numOk (n : Int) : Prop := 0 ≤ n ∧ n ≤ 4294967295
instance (n : Int) : Decidable (numOk n) := by unfold numOk; infer_instance
def setT (t : List Int) (k seed block id : Int) : List Int := (setR t.sum (alF t).cut (alF t).oth k (seedOf (c64 seed) (c64 block) (c64 id))).1
theorem setR_ok {t : List Int} {k : Int} (h : solE t k = 0) (st : BitVec 64) : (setR t.sum (alF t).cut (alF t).oth k st).2 = 0 ∧ Rise (setR t.sum (alF t).cut (alF t).oth k st).1 k ∧
    (1 ≤ (setR t.sum (alF t).cut (alF t).oth k st).1.length ∧ (setR t.sum (alF t).cut (alF t).oth k st).1.length ≤ t.length) ∧ 0 < t.getD ((setR t.sum (alF t).cut (alF t).oth k st).1.length - 1) 0 := by
  obtain ⟨h1, h2, h3, h4⟩ := solE_zero h
  have hs := sum_pos' h3 h4
  obtain ⟨g1, g2, g3⟩ := alF_ok h3 (by omega) hs
  have hp := plc_in g1 st
  rw [g2] at hp
  have hpos : 0 < t.getD (plcR t.sum (alF t).cut (alF t).oth st).1.toNat 0 := by
    have l1 := sdraw_lt (n := t.length) (by omega) st
    have l2 := sdraw_lt (n := t.sum.toNat) (by omega) (sdraw t.length st).2
    unfold plcR
    rw [g2]
    dsimp only
    exact g3 _ _ (by omega) (by omega)
  unfold setR
  obtain ⟨q1, q2, q3⟩ := pick_rise (k := k) (d := (plcR t.sum (alF t).cut (alF t).oth st).1 + 1) (by unfold Sized; omega) (plcR t.sum (alF t).cut (alF t).oth st).2
  generalize pickR k ((plcR t.sum (alF t).cut (alF t).oth st).1 + 1) (plcR t.sum (alF t).cut (alF t).oth st).2 = R at *
  refine ⟨q1, q2, by omega, ?_⟩
  rw [show R.1.length - 1 = (plcR t.sum (alF t).cut (alF t).oth st).1.toNat by omega]
  exact hpos
end Go.Art
set_option linter.unusedSimpArgs false
set_option linter.unusedVariables false
namespace Go.Art
open Go Go.Proofs Go.RowKit
section
variable {P : Program} {E : Env P} {n : Sh} {X : Cx} {s : List K} {fr : Fr} {A A' : List Ch} {ops : Array Oper} {rest : List Oper} {d : Nat} {ty t : TypeId} {pos : String} {after : Array Edge}
/-- A struct literal that holds structs. -/
theorem bdg {sz by_ : Nat} {cs : List Value} {fl : List Field} {zs : List Value} {pl : List (Nat × Nat)} {parts : List (Nat × Operand)} {ps : List (Nat × Value)} (k : TO E n X s ops rest ((d, .agg cs.toArray) :: fr) A) (hv : evps fr parts = some ps := by rfl)
    (ht : lk E.und t = some (.struct fl.toArray) := by rfl) (he : lk E.inf t = some (.agg zs.toArray, sz, by_) := by rfl) (hpl : places E.inf fl = some pl := by rfl) (hs : setParts pl zs ps = some cs := by rfl) (hd : Nat.blt d n.n = true := by rfl) :
    TO E n X s ops (⟨some d, .build t parts.toArray, ty, pos, after, none⟩ :: rest) fr A := TO.val (fun _ _ => R_build ht he hpl hv hs) k hd
/-- A struct is loaded from a lent block. -/
theorem ldla {b j sz by_ : Nat} {cs vs : List Value} {T : TypeId} {dt : TypeDesc} {z : Value} {x : Operand} (k : TO E n X s ops rest ((d, .agg vs.toArray) :: fr) A) (hx : ev fr x = some (.pointer (some ⟨b, j, none⟩)) := by rfl) (hm : lpt b cs T ∈ A := by (repeat (first | apply List.Mem.head | apply List.Mem.tail)); first | done | fail) (ht : lk E.und t = some dt := by rfl) (hg : aggB dt = true := by rfl) (hi : lk E.inf t = some (z, sz, by_) := by rfl)
    (hv : (cs.drop j).take sz = vs := by rfl) (hl : vs.length = sz := by rfl) (hd : Nat.blt d n.n = true := by rfl) : TO E n X s ops (⟨some d, .load t x, ty, pos, after, none⟩ :: rest) fr A := TO.val (fun _ h => R_loadA ht hg hi hx (h.h (lpt b cs T) hm) hv hl) k hd
end
attribute [local irreducible] Fit pt own ro vw mpc lpt vels rels mow lrc dfr
attribute [local irreducible] lmp lme mit velg relg
abbrev TEnc : TypeId := 124
abbrev TSam : TypeId := 120
abbrev nP : Value := .pointer none
theorem number_tr (n : Int) : Tr Tryz.prog 90 [I n] [] [] fun v D => v = .bool (decide (numOk n)) ∧ D = [] := by
  refine Tr.enter env _ Tryz.func90 (by kernel_rfl) rfl Tryz.ntmps90 rfl (by repeat (first | exact has00 | refine has01 ?_)) fun w0 => ?_
  repeat' first|(refine wo ?_; first|(refine ao ?_; first|refine oa ?_)|refine oa ?_|refine gy ?_|refine gn ?_|(refine gsi (fun hB => ?_) (fun hB => ?_) <;> try (exfalso; omega)))|refine sq ?_|refine rg ?_|refine xc ?_|refine nl ?_|refine rt ?_
  all_goals refine r1 ⟨?_, rfl⟩
  all_goals first
    | rw [decide_eq_false (fun h : numOk n => by unfold numOk at h; omega)]
    | (congr 1; exact decide_eq_decide.2 ⟨fun h => by unfold numOk; omega, fun h => by unfold numOk at h; omega⟩)
def setW (t : List Int) (k seed blk id : Int) : List Int × Int := if numOk id then (setT t k seed blk id, 0) else ([], 3)
theorem sset_tr (t : List Int) (k seed blk id : Int) (cv ov : Value) (hE : solE t k = 0) (hc : cv.oneCell' = true) (ho : ov.oneCell' = true) :
    Tr Tryz.prog 93 [.agg #[I t.sum, cv, ov, I k, I seed, I blk], I id] [vw cv (Is (alF t).cut), vw ov (Is (alF t).oth)] []
      fun v D => ∃ o, v = tup2 o (I (setW t k seed blk id).2) ∧ D = [own 3 o (Is (setW t k seed blk id).1)] := by
  obtain ⟨h1, h2, h3, h4⟩ := solE_zero hE
  obtain ⟨g1, g2, g3⟩ := alF_ok h3 (by omega) (sum_pos' h3 h4)
  refine Tr.enter env _ Tryz.func93 (by kernel_rfl) rfl Tryz.ntmps93 rfl (by repeat (first | exact has00 | refine has01 ?_)) fun w0 => ?_
  repeat' first|(refine gca ?_; first|(refine ca (number_tr id) ?_; rintro _ _ ⟨rfl, rfl⟩))|refine bx fun b => ?_|(refine wo ?_; first|refine oa ?_)|(refine gc ?_; first|(refine cn (fun hB => ?_) (fun hB => ?_) <;> try (exfalso; omega)))|refine sq ?_|refine rg ?_|refine xc ?_|refine nl ?_|refine sk ?_|refine rt ?_
  · refine TX.im (own_nil 3 _) ?_
    rw [show setW t k seed blk id = ([], 3) from if_neg (by assumption)]
    exact r2 ⟨nS, rfl, rfl⟩
  have hn : numOk id := by assumption
  have hz := (setR_ok hE (seedOf (c64 seed) (c64 blk) (c64 id))).1
  refine rs (fun w => w.heap[b]? = some (.cells #[I t.sum, cv, ov, I k, I seed, I blk] TSam (0, 0))) ?_ (fun w hw => pt_at (by (repeat (first | apply List.Mem.head | apply List.Mem.tail)); first | done | fail) hw)
  refine tka 0 ?_
  refine tk 1 (v := .agg #[I t.sum, cv, ov]) (hi := rfl) (fun w h => by exact R_loadA (E := env) (cs := [I t.sum, cv, ov, I k, I seed, I blk]) (vs := [I t.sum, cv, ov]) rfl rfl rfl rfl h rfl rfl) ?_
  refine tka 2 ?_
  refine tkl 3 (cs := [I t.sum, cv, ov, I k, I seed, I blk]) (fun w h => h) ?_
  refine tka 4 ?_
  refine tkl 5 (cs := [I t.sum, cv, ov, I k, I seed, I blk]) (fun w h => h) ?_
  refine tk 6 (v := U (c64 seed)) (hi := rfl) (fun w h => by exact R_toU (E := env) rfl rfl rfl) ?_
  refine tka 7 ?_
  refine tkl 8 (cs := [I t.sum, cv, ov, I k, I seed, I blk]) (fun w h => h) ?_
  refine tk 9 (v := U (c64 blk)) (hi := rfl) (fun w h => by exact R_toU (E := env) rfl rfl rfl) ?_
  refine tka 10 ?_
  refine tk 11 (v := U (c64 id)) (hi := rfl) (fun w h => by exact R_toU (E := env) rfl rfl rfl) ?_
  refine t1 12 ?_
  refine ca (Seeded_tr _ _ _) ?_
  rintro _ _ ⟨lb, lr, rfl, rfl⟩
  repeat' first|refine nl ?_
  refine te (fun w hw => pt_at (by (repeat (first | apply List.Mem.head | apply List.Mem.tail)); first | done | fail) hw) ?_
  refine t1 13 ?_
  refine ca (RwSet_tr t.sum k cv ov (alF t).cut (alF t).oth lb lr _ hc ho g1 (by omega)) ?_
  rintro _ _ ⟨o, st', u, rfl, rfl⟩
  repeat' first|refine nl ?_
  refine te (fun w hw => pt_at (by (repeat (first | apply List.Mem.head | apply List.Mem.tail)); first | done | fail) hw) ?_
  refine tka 14 ?_
  refine tka 15 ?_
  refine tka 16 ?_
  refine tka 17 ?_
  refine t0 ?_
  rw [hz]
  repeat' first|refine xc ?_|refine rt ?_
  rw [show setW t k seed blk id = (setT t k seed blk id, 0) from if_pos hn]
  exact r2 ⟨o, rfl, rfl⟩
def smpE (t : List Int) (k blk : Int) : Int := if solE t k = 0 then (if numOk blk then 0 else 3) else 13
theorem smpE_zero {t : List Int} {k blk : Int} (h : smpE t k blk = 0) : solE t k = 0 ∧ numOk blk := by
  unfold smpE at h
  split at h
  · split at h
    · exact ⟨by assumption, by assumption⟩
    · cases h
  · cases h
theorem sampled_tr (s : Value) (t : List Int) (k seed blk : Int) : Tr Tryz.prog 66 [s, I k, I seed, I blk] [vw s (Is t)] []
    fun v D => (smpE t k blk = 0 ∧ ∃ cv ov, v = tup2 (.agg #[I t.sum, cv, ov, I k, I seed, I blk]) (I 0) ∧ D = [own 3 cv (Is (alF t).cut), own 3 ov (Is (alF t).oth)] ∧ cv.oneCell' = true ∧ ov.oneCell' = true) ∨
      (smpE t k blk ≠ 0 ∧ v = tup2 (.agg #[I 0, nS, nS, I 0, I 0, I 0]) (I (smpE t k blk)) ∧ D = []) := by
  refine Tr.enter env _ Tryz.func66 (by kernel_rfl) rfl Tryz.ntmps66 rfl (by repeat (first | exact has00 | refine has01 ?_)) fun w0 => ?_
  rcases solE_cases t k with hE | hE
  · obtain ⟨h1, h2, h3, h4⟩ := solE_zero hE
    repeat' first|(refine gca ?_; first|(refine ca (SoCheck_tr s t k) ?_; rintro _ _ ⟨rfl, rfl⟩; rw [hE])|(refine ca (number_tr blk) ?_; rintro _ _ ⟨rfl, rfl⟩)|(refine ca (Make_tr s t (by omega) h3 (sum_pos' h3 h4)) ?_; rintro _ _ ⟨cv, ov, rfl, rfl, hc, ho⟩))|refine al fun b => ?_|refine bdz ?_|refine srz ?_|refine lda ?_|(refine wo ?_; first|(refine ao ?_; first|refine oa ?_)|refine oa ?_)|(refine gc ?_; first|refine cf ?_|(refine cn (fun hB => ?_) (fun hB => ?_) <;> try (exfalso; omega)))|refine sq ?_|refine rg ?_|refine xc ?_|refine nl ?_|refine sk ?_|refine rt ?_
    · have e : smpE t k blk = 3 := by rw [smpE, if_pos hE, if_neg (by assumption)]
      rw [e]
      exact rca (.inr ⟨by decide, rfl, rfl⟩)
    · have e : smpE t k blk = 0 := by rw [smpE, if_pos hE, if_pos (by assumption)]
      rw [e]
      exact rca (.inl ⟨rfl, cv, ov, rfl, rfl, hc, ho⟩)
  · have e : smpE t k blk = 13 := by rw [smpE, if_neg (by omega)]
    rw [e]
    repeat' first|(refine gca ?_; first|(refine ca (SoCheck_tr s t k) ?_; rintro _ _ ⟨rfl, rfl⟩; rw [hE]))|refine al fun b => ?_|refine bdz ?_|refine srz ?_|(refine wo ?_; first|(refine ao ?_; first|refine oa ?_)|refine oa ?_)|(refine gc ?_; first|refine ct ?_)|refine sq ?_|refine rg ?_|refine xc ?_|refine nl ?_|refine rt ?_
    exact rca (.inr ⟨by decide, rfl, rfl⟩)
/-- What SetOf tells. -/
def setofR (t : List Int) (k seed blk id : Int) : List Int × Int := if smpE t k blk = 0 then setW t k seed blk id else ([], smpE t k blk)
/-- A list of slices: one more, that was owned. -/
theorem snoc_own {g : Int → Value} {e : TypeId} {hs : List Value} {ls : List (List Int)} {v : Value} {l : List Int} {A F : List Ch} (hl : hs.length = ls.length) (hf : Fit A [relg g hs ls, own e v (l.map g)] F) : Im A (relg g (hs ++ [v]) (ls ++ [l]) :: F) :=
by
  unfold Fit at hf
  exact Im.trans hf (Im.trans (Im.cons _ ((im_freeze e v (l.map g)).im F)) (relg_snoc hl v l F))
def newE (t : List Int) (blk : Int) (ls : List (List Int)) : Int := if blkE ls = 0 then smpE t ls.length blk else blkE ls
/-- An encoder's pieces. -/
abbrev encP (b : Nat) (cv ov sy : Value) (hs : List Value) (t : List Int) (seed blk : Int) (ls : List (List Int)) : List Ch :=
  [pt b [I t.sum, cv, ov, I ls.length, I seed, I blk, sy] TEnc, own 3 cv (Is (alF t).cut), own 3 ov (Is (alF t).oth), own TyV sy hs, relg y8 hs ls]
structure NwG where
  i : Nat
  sy : Value
  hs : List Value
theorem New_tr (s sv : Value) (hs : List Value) (ls : List (List Int)) (t : List Int) (seed blk : Int) : Tr Tryz.prog 32 [s, sv, I seed, I blk] [vw s hs, velg y8 hs ls, vw sv (Is t)] []
    fun v D => (newE t blk ls = 0 ∧ ∃ b cv ov sy hs', v = tup2 (ptr b) (I 0) ∧ D = encP b cv ov sy hs' t seed blk ls ∧ cv.oneCell' = true ∧ ov.oneCell' = true ∧ sy.oneCell' = true) ∨ (newE t blk ls ≠ 0 ∧ v = tup2 nP (I (newE t blk ls)) ∧ D = []) := by
  have hS := sampled_tr sv t ls.length seed blk
  refine Tr.enter env _ Tryz.func32 (by kernel_rfl) rfl Tryz.ntmps32 rfl (by repeat (first | exact has00 | refine has01 ?_)) fun w0 => ?_
  refine TC.elg (g := y8) (hs := hs) (ls := ls) (fun hl => ?_)
  refine TC.fact (vw_len (v := s) (xs := hs) (by first | (apply has_vw; (repeat (first | apply List.Mem.head | apply List.Mem.tail)); first | done | fail) | (apply has_own; (repeat (first | apply List.Mem.head | apply List.Mem.tail)); first | done | fail) | (apply has_ro; (repeat (first | apply List.Mem.head | apply List.Mem.tail)); first | done | fail) | apply has_nil | ((with_reducible apply has_el); (focus (first | (apply has_vels; (repeat (first | apply List.Mem.head | apply List.Mem.tail)); first | done | fail) | (apply has_rels; (repeat (first | apply List.Mem.head | apply List.Mem.tail)); first | done | fail))); omega) | (apply has_pt; (repeat (first | apply List.Mem.head | apply List.Mem.tail)); first | done | fail) | (apply has_lpt; (repeat (first | apply List.Mem.head | apply List.Mem.tail)); first | done | fail) | (apply has_vels; (repeat (first | apply List.Mem.head | apply List.Mem.tail)); first | done | fail) | (apply has_rels; (repeat (first | apply List.Mem.head | apply List.Mem.tail)); first | done | fail) | with_reducible assumption | ((with_reducible apply has_elg); (focus (first | (apply has_velg; (repeat (first | apply List.Mem.head | apply List.Mem.tail)); first | done | fail) | (apply has_relg; (repeat (first | apply List.Mem.head | apply List.Mem.tail)); first | done | fail))); omega) | (apply has_velg; (repeat (first | apply List.Mem.head | apply List.Mem.tail)); first | done | fail) | (apply has_relg; (repeat (first | apply List.Mem.head | apply List.Mem.tail)); first | done | fail) | (apply has_vwf; (repeat (first | apply List.Mem.head | apply List.Mem.tail)); first | done | fail))) fun hsl => ?_
  repeat' first|(refine gca ?_; first|(refine ca (BCheck_tr s hs ls) ?_; rintro _ _ ⟨rfl, rfl⟩))|(refine wo ?_; first|(refine ao ?_; first|refine oa ?_)|refine oa ?_|refine ln ?_)|(refine gc ?_; first|(refine cn (fun hB => ?_) (fun hB => ?_) <;> try (exfalso; omega)))|refine sq ?_|refine rg ?_|refine xc ?_|refine nl ?_|refine sk ?_|refine rt ?_
  · rw [show newE t blk ls = blkE ls from if_neg (by assumption)]
    exact r2 (.inr ⟨by assumption, rfl, rfl⟩)
  have hb0 : blkE ls = 0 := by omega
  rw [show newE t blk ls = smpE t ls.length blk from if_pos hb0]
  obtain ⟨hk, hsz, hal⟩ := blkE_zero hb0
  rw [hl]
  repeat' first|(refine gca ?_; first|(refine ca hS ?_; rintro _ _ (⟨he, cv, ov, rfl, rfl, hc, ho⟩ | ⟨he, rfl, rfl⟩)))|refine al fun b => ?_|refine srz ?_|(refine wo ?_; first|(refine ao ?_; first|refine oa ?_)|refine oa ?_)|(refine gc ?_; first|refine cf ?_|(refine cn (fun hB => ?_) (fun hB => ?_) <;> try (exfalso; omega)))|refine sq ?_|refine rg ?_|refine xc ?_|refine nl ?_|refine sk ?_|refine rt ?_
  · repeat' first|refine lda ?_|refine bdg ?_|refine bx fun xp => ?_|(refine wo ?_; first|refine oa ?_|refine ln ?_)|refine sq ?_|refine rg ?_|refine xc ?_|refine nl ?_|refine bk ?_
    have ht0 : ls.take 0 = [] := rfl
    refine TC.im (relg_nil (g := y8) _) ?_
    refine TC.im (own_nil TyV _) ?_
    refine TC.loop (ι := NwG) (fun g => [(38, I g.i)]) (fun g => [pt xp [I t.sum, cv, ov, I ls.length, I seed, I blk, g.sy] TEnc, own TyV g.sy g.hs, relg y8 g.hs (ls.take g.i)]) (fun g => g.i ≤ ls.length ∧ g.sy.oneCell' = true ∧ g.hs.length = g.i) (fun g => ls.length - g.i) ⟨0, nS, []⟩ [36, 37, 13] ⟨by simp, rfl, rfl⟩ ?_ (hf := by dsimp only; first | apply Fit.all | ((repeat (first | (apply Fit.nilN; (repeat (first | apply nrm_nil | apply nrm_cons)); try apply nrm_rfl) | (apply Fit.cons; focus ((repeat (first | apply Tk.here | apply Tk.there)); first | done | fail)))); first | done | fail))
    rintro ⟨i, sy, hs2⟩ ⟨g1, g2, g3⟩
    dsimp only at g1 g2 g3 ⊢
    by_cases hi : i < ls.length
    · repeat' first|refine rs (id := 11) (fun _ => True) ?_ (fun _ _ => trivial)|(refine wo ?_; first|(refine ao ?_; first|refine oa ?_)|refine oa ?_|refine lv ?_|refine ixn ?_)|(refine gc ?_; first|(refine ci (fun hB => ?_) (fun hB => ?_) <;> try (exfalso; omega)))|refine sq ?_|refine rg ?_|refine xc ?_|refine nl ?_|refine sk ?_|refine bk ?_
      refine tka 0 ?_
      refine tka 1 ?_
      refine tka 2 ?_
      refine tka 3 ?_
      refine tka 5 ?_
      refine t2 4 6 ?_ ?_
      · refine ld ?_
        refine nl ?_
        refine te (fun _ _ => trivial) ?_
        refine t1 6 ?_
        refine ca (Clone_tr _ (ls.getD i []) (by have := hal _ (getD_memL hi); omega)) ?_ (hp := has1 (has_elg (has_velg (by (repeat (first | apply List.Mem.head | apply List.Mem.tail)); first | done | fail)) hi) has0)
        rintro c _ ⟨hc1, rfl⟩
        refine nl ?_
        refine te (fun _ _ => trivial) ?_
        refine t1 7 ?_
        refine sli (vs := [c]) (fun v1 => ?_) (h1 := one_cons hc1 one_nil)
        refine nl ?_
        refine te (fun _ _ => trivial) ?_
        refine t1 8 ?_
        refine ap (xs := hs2) (news := [c]) (fun sy2 => ?_) (h1 := one_cons hc1 one_nil)
        refine TO.one (v := sy2) (xs := hs2 ++ [c]) fun hsy => ?_
        refine nl ?_
        refine te (fun _ _ => trivial) ?_
        refine tka 9 ?_
        refine tka 10 ?_
        refine t1 11 ?_
        refine sr ?_
        refine nl ?_
        refine te (fun _ _ => trivial) ?_
        refine t0 ?_
        refine TX.im (snoc_own (g := y8) (e := TyB) (hs := hs2) (ls := ls.take i) (v := c) (l := ls.getD i []) (by rw [g3, List.length_take]; omega) (by first | apply Fit.all | ((repeat (first | (apply Fit.nilN; (repeat (first | apply nrm_nil | apply nrm_cons)); try apply nrm_rfl) | (apply Fit.cons; focus ((repeat (first | apply Tk.here | apply Tk.there)); first | done | fail)))); first | done | fail))) ?_
        rw [← take_succ' hi []]
        repeat' first|(refine wo ?_; first|(refine ao ?_; first|refine aw ?_)|refine oa ?_)|refine rg ?_|refine xc ?_|refine nl ?_|refine xb ?_
        exact lp ⟨i + 1, sy2, hs2 ++ [c]⟩ ⟨by dsimp only; omega, hsy, by simp [g3]⟩
      · refine ca (Clone_tr _ (ls.getD i []) (by have := hal _ (getD_memL hi); omega)) ?_ (hp := has1 (has_elg (has_velg (by (repeat (first | apply List.Mem.head | apply List.Mem.tail)); first | done | fail)) hi) has0)
        rintro c _ ⟨hc1, rfl⟩
        refine nl ?_
        refine te (fun _ _ => trivial) ?_
        refine t2 4 7 ?_ ?_
        · refine ld ?_
          refine nl ?_
          refine te (fun _ _ => trivial) ?_
          refine t1 7 ?_
          refine sli (vs := [c]) (fun v1 => ?_) (h1 := one_cons hc1 one_nil)
          refine nl ?_
          refine te (fun _ _ => trivial) ?_
          refine t1 8 ?_
          refine ap (xs := hs2) (news := [c]) (fun sy2 => ?_) (h1 := one_cons hc1 one_nil)
          refine TO.one (v := sy2) (xs := hs2 ++ [c]) fun hsy => ?_
          refine nl ?_
          refine te (fun _ _ => trivial) ?_
          refine tka 9 ?_
          refine tka 10 ?_
          refine t1 11 ?_
          refine sr ?_
          refine nl ?_
          refine te (fun _ _ => trivial) ?_
          refine t0 ?_
          refine TX.im (snoc_own (g := y8) (e := TyB) (hs := hs2) (ls := ls.take i) (v := c) (l := ls.getD i []) (by rw [g3, List.length_take]; omega) (by first | apply Fit.all | ((repeat (first | (apply Fit.nilN; (repeat (first | apply nrm_nil | apply nrm_cons)); try apply nrm_rfl) | (apply Fit.cons; focus ((repeat (first | apply Tk.here | apply Tk.there)); first | done | fail)))); first | done | fail))) ?_
          rw [← take_succ' hi []]
          repeat' first|(refine wo ?_; first|(refine ao ?_; first|refine aw ?_)|refine oa ?_)|refine rg ?_|refine xc ?_|refine nl ?_|refine xb ?_
          exact lp ⟨i + 1, sy2, hs2 ++ [c]⟩ ⟨by dsimp only; omega, hsy, by simp [g3]⟩
        · refine sli (vs := [c]) (fun v1 => ?_) (h1 := one_cons hc1 one_nil)
          refine nl ?_
          refine te (fun _ _ => trivial) ?_
          refine t1 4 ?_
          refine ld ?_
          refine nl ?_
          refine te (fun _ _ => trivial) ?_
          refine t1 8 ?_
          refine ap (xs := hs2) (news := [c]) (fun sy2 => ?_) (h1 := one_cons hc1 one_nil)
          refine TO.one (v := sy2) (xs := hs2 ++ [c]) fun hsy => ?_
          refine nl ?_
          refine te (fun _ _ => trivial) ?_
          refine tka 9 ?_
          refine tka 10 ?_
          refine t1 11 ?_
          refine sr ?_
          refine nl ?_
          refine te (fun _ _ => trivial) ?_
          refine t0 ?_
          refine TX.im (snoc_own (g := y8) (e := TyB) (hs := hs2) (ls := ls.take i) (v := c) (l := ls.getD i []) (by rw [g3, List.length_take]; omega) (by first | apply Fit.all | ((repeat (first | (apply Fit.nilN; (repeat (first | apply nrm_nil | apply nrm_cons)); try apply nrm_rfl) | (apply Fit.cons; focus ((repeat (first | apply Tk.here | apply Tk.there)); first | done | fail)))); first | done | fail))) ?_
          rw [← take_succ' hi []]
          repeat' first|(refine wo ?_; first|(refine ao ?_; first|refine aw ?_)|refine oa ?_)|refine rg ?_|refine xc ?_|refine nl ?_|refine xb ?_
          exact lp ⟨i + 1, sy2, hs2 ++ [c]⟩ ⟨by dsimp only; omega, hsy, by simp [g3]⟩
    · obtain rfl : i = ls.length := by omega
      rw [List.take_length]
      repeat' first|(refine wo ?_; first|(refine ao ?_; first|refine oa ?_)|refine oa ?_)|(refine gc ?_; first|(refine ci (fun hB => ?_) (fun hB => ?_) <;> try (exfalso; omega)))|refine sq ?_|refine rg ?_|refine xc ?_|refine nl ?_|refine xe ?_|refine rt ?_
      exact r2 (.inl ⟨he, xp, cv, ov, sy, hs2, rfl, rfl, hc, ho, g2⟩)
  · skip
    exact r2 (.inr ⟨by assumption, rfl, rfl⟩)
/-- What an encoder lends. -/
abbrev encL (b : Nat) (cv ov sy : Value) (hs : List Value) (t : List Int) (seed blk : Int) (ls : List (List Int)) : List Ch :=
  [lpt b [I t.sum, cv, ov, I ls.length, I seed, I blk, sy] TEnc, vw cv (Is (alF t).cut), vw ov (Is (alF t).oth), vw sy hs, velg y8 hs ls]
theorem Enone_tr (b : Nat) (x0 x1 x2 x3 x4 x5 sy : Value) (hs : List Value) : Tr Tryz.prog 92 [ptr b] [lpt b [x0, x1, x2, x3, x4, x5, sy] TEnc, vw sy hs] [] fun v D => v = .bool (decide ((hs.length : Int) = 0)) ∧ D = [] := by
  refine Tr.enter env _ Tryz.func92 (by kernel_rfl) rfl Tryz.ntmps92 rfl (by repeat (first | exact has00 | refine has01 ?_)) fun w0 => ?_
  repeat' first|(refine wo ?_; first|(refine ao ?_; first|refine oa ?_|refine ipe ?_)|refine oa ?_|refine ldl ?_|refine ln ?_|refine gy ?_)|refine sq ?_|refine rg ?_|refine xc ?_|refine nl ?_|refine rt ?_
  exact r1 ⟨rfl, rfl⟩
theorem EnoneN_tr : Tr Tryz.prog 92 [nP] [] [] fun v D => v = .bool true ∧ D = [] := by
  refine Tr.enter env _ Tryz.func92 (by kernel_rfl) rfl Tryz.ntmps92 rfl (by repeat (first | exact has00 | refine has01 ?_)) fun w0 => ?_
  repeat' first|(refine wo ?_; first|(refine ao ?_; first|refine ipe ?_)|refine oa ?_|refine gn ?_)|refine sq ?_|refine rg ?_|refine xc ?_|refine nl ?_|refine rt ?_
  exact r1 ⟨rfl, rfl⟩
theorem ESet_tr (b : Nat) (cv ov sy : Value) (hs : List Value) (t : List Int) (seed blk : Int) (ls : List (List Int)) (id : Int) (hE : newE t blk ls = 0) (hc : cv.oneCell' = true) (ho : ov.oneCell' = true) :
    Tr Tryz.prog 68 [ptr b, I id] (encL b cv ov sy hs t seed blk ls) [] fun v D => ∃ o, v = tup2 o (I (setW t ls.length seed blk id).2) ∧ D = [own 3 o (Is (setW t ls.length seed blk id).1)] := by
  have hb0 : blkE ls = 0 := by unfold newE at hE; split at hE <;> omega
  have hs0 : solE t ls.length = 0 := by rw [newE, if_pos hb0] at hE; exact (smpE_zero hE).1
  obtain ⟨hk, hsz, hal⟩ := blkE_zero hb0
  refine Tr.enter env _ Tryz.func68 (by kernel_rfl) rfl Tryz.ntmps68 rfl (by repeat (first | exact has00 | refine has01 ?_)) fun w0 => ?_
  refine TC.elg (g := y8) (hs := hs) (ls := ls) (fun hl => ?_)
  repeat' first|(refine gca ?_; first|(refine ca (Enone_tr b _ _ _ _ _ _ sy hs) ?_; rintro _ _ ⟨rfl, rfl⟩; rw [decide_eq_false (show ¬ (hs.length : Int) = 0 by omega)])|(refine ca (sset_tr t ls.length seed blk id cv ov hs0 hc ho) ?_; rintro _ _ ⟨o, rfl, rfl⟩))|refine ldla ?_|(refine wo ?_; first|refine oa ?_)|(refine gc ?_; first|refine cf ?_)|refine sq ?_|refine rg ?_|refine xc ?_|refine nl ?_|refine sk ?_|refine rt ?_
  exact r2 ⟨o, rfl, rfl⟩
/-- Of what is no encoder. -/
abbrev NoEnc (p : Value) (pre : List Ch) : Prop := Tr Tryz.prog 92 [p] pre [] fun v D => v = .bool true ∧ D = []
theorem ESet0_tr (p : Value) (pre : List Ch) (id : Int) (hN : NoEnc p pre) (hp : ∀ c ∈ pre, ∀ A : List Ch, c ∈ A → Has A c) : Tr Tryz.prog 68 [p, I id] pre [] fun v D => v = tup2 nS (I 1) ∧ D = [] := by
  refine Tr.enter env _ Tryz.func68 (by kernel_rfl) rfl Tryz.ntmps68 rfl (fun c hc b => ⟨(hp c hc [c] (by simp)).wr b, (hp c hc [c] (by simp)).rd b⟩) fun w0 => ?_
  repeat' first|(refine gca ?_; first|(refine ca hN ?_ rfl Fit.nil (fun c hc => hp c hc _ (by simp [hc])) rfl; rintro _ _ ⟨rfl, rfl⟩))|(refine wo ?_; first|refine oa ?_)|(refine gc ?_; first|refine ct ?_)|refine sq ?_|refine rg ?_|refine xc ?_|refine nl ?_|refine rt ?_
  exact r2 ⟨rfl, rfl⟩
theorem EPacket0_tr (p : Value) (pre : List Ch) (id : Int) (hN : NoEnc p pre) (hp : ∀ c ∈ pre, ∀ A : List Ch, c ∈ A → Has A c) : Tr Tryz.prog 33 [p, I id] pre [] fun v D => v = tup2 nS (I 1) ∧ D = [] := by
  refine Tr.enter env _ Tryz.func33 (by kernel_rfl) rfl Tryz.ntmps33 rfl (fun c hc b => ⟨(hp c hc [c] (by simp)).wr b, (hp c hc [c] (by simp)).rd b⟩) fun w0 => ?_
  repeat' first|(refine gca ?_; first|(refine ca (ESet0_tr p pre id hN hp) ?_ rfl Fit.nil (fun c hc => hp c hc _ (by simp [hc])) rfl; rintro _ _ ⟨rfl, rfl⟩))|(refine wo ?_; first|(refine ao ?_; first|refine oa ?_)|refine oa ?_)|(refine gc ?_; first|refine ct ?_)|refine sq ?_|refine rg ?_|refine xc ?_|refine nl ?_|refine rt ?_
  exact r2 ⟨rfl, rfl⟩
theorem newE_zero {t : List Int} {blk : Int} {ls : List (List Int)} (hE : newE t blk ls = 0) : blkE ls = 0 ∧ solE t ls.length = 0 ∧ numOk blk := by
  have hb0 : blkE ls = 0 := by unfold newE at hE; split at hE <;> omega
  rw [newE, if_pos hb0] at hE
  exact ⟨hb0, smpE_zero hE⟩
/-- What Packet tells. -/
def pktW (t : List Int) (ls : List (List Int)) (seed blk id : Int) : List Int × Int := if numOk id then (sumL ls (setT t ls.length seed blk id), 0) else ([], 3)
theorem EPacket_tr (b : Nat) (cv ov sy : Value) (hs : List Value) (t : List Int) (seed blk : Int) (ls : List (List Int)) (id : Int) (hE : newE t blk ls = 0) (hc : cv.oneCell' = true) (ho : ov.oneCell' = true) :
    Tr Tryz.prog 33 [ptr b, I id] (encL b cv ov sy hs t seed blk ls) [] fun v D => ∃ o, v = tup2 o (I (pktW t ls seed blk id).2) ∧ o.oneCell' = true ∧ D = [own TyB o (By (pktW t ls seed blk id).1)] := by
  obtain ⟨hb0, hs0, hn0⟩ := newE_zero hE
  obtain ⟨hz, hr, hl1, hl2⟩ := setR_ok hs0 (seedOf (c64 seed) (c64 blk) (c64 id))
  change Rise (setT t ls.length seed blk id) ls.length at hr
  change 1 ≤ (setT t ls.length seed blk id).length ∧ _ at hl1
  have hS := ESet_tr b cv ov sy hs t seed blk ls id hE hc ho
  by_cases hn : numOk id
  · rw [show pktW t ls seed blk id = (sumL ls (setT t ls.length seed blk id), 0) from if_pos hn]
    rw [show setW t ls.length seed blk id = (setT t ls.length seed blk id, 0) from if_pos hn] at hS
    generalize setT t ls.length seed blk id = is at *
    refine Tr.enter env _ Tryz.func33 (by kernel_rfl) rfl Tryz.ntmps33 rfl (by repeat (first | exact has00 | refine has01 ?_)) fun w0 => ?_
    repeat' first|(refine gca ?_; first|(refine ca hS ?_; rintro _ _ ⟨o, rfl, rfl⟩)|(refine ca (Sum_tr sy o hs ls is hb0 hr (by omega)) ?_; rintro _ _ ⟨q, rfl, hq, rfl⟩))|(refine wo ?_; first|(refine ao ?_; first|refine oa ?_)|refine oa ?_|refine ldl ?_)|(refine gc ?_; first|refine cf ?_)|refine sq ?_|refine rg ?_|refine xc ?_|refine nl ?_|refine sk ?_|refine rt ?_
    exact r2 ⟨q, rfl, hq, rfl⟩
  · rw [show pktW t ls seed blk id = ([], 3) from if_neg hn]
    rw [show setW t ls.length seed blk id = ([], 3) from if_neg hn] at hS
    refine Tr.enter env _ Tryz.func33 (by kernel_rfl) rfl Tryz.ntmps33 rfl (by repeat (first | exact has00 | refine has01 ?_)) fun w0 => ?_
    repeat' first|(refine gca ?_; first|(refine ca hS ?_; rintro _ _ ⟨o, rfl, rfl⟩))|(refine wo ?_; first|(refine ao ?_; first|refine oa ?_)|refine oa ?_)|(refine gc ?_; first|refine ct ?_)|refine sq ?_|refine rg ?_|refine xc ?_|refine nl ?_|refine rt ?_
    refine TX.im (own_nil TyB _) ?_
    exact r2 ⟨nS, rfl, rfl, rfl⟩
end Go.Art
