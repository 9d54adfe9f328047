/- Texts put together: Nq Nr Ns Nt Ia Fa Ac Aw Df Zu Fc Fd Rv Ry. Conditions: none. -/
import Derived.Test.YtbdmhamjhkibgaaGreatZGf
set_option linter.unusedSimpArgs false
set_option linter.unusedVariables false
namespace Go.Art
open Go Go.Proofs Go.RowKit
attribute [local irreducible] Fit pt own ro vw mpc lpt vels rels mow lrc dfr
theorem nat_tr (v : Value) (l : List Nat) (h : Nat) (hd : Dg l) (hl : l.length + h ≤ 4398046511104) : Tr Tryz.prog 166 [v, I h] [vw v (Us l)] [] fun u D => u.oneCell' = true ∧ ∃ m, D = [own T64 u (Us m)] ∧ Dg m ∧ nv m = 18446744073709551616 ^ h * nv l ∧ m.length ≤ l.length + h := by
  by_cases h0 : l = []
  · subst h0
    refine Tr.enter env _ Tryz.func166 (by kernel_rfl) rfl Tryz.ntmps166 rfl (by repeat (first | exact has00 | refine has01 ?_)) fun w0 => ?_
    repeat' first|refine ln (xs := []) ?_|(refine wo ?_; first|(refine ao ?_; first|refine oa ?_)|refine oa ?_)|(refine gc ?_; first|refine ct ?_)|refine sq ?_|refine rg ?_|refine xc ?_|refine nl ?_|refine rt ?_
    refine TX.im (own_nil T64 _) ?_
    exact r1 ⟨rfl, [], rfl, Dg.nil, by simp [nv], by simp⟩
  · have hp : 0 < l.length := List.length_pos_iff.2 h0
    refine Tr.enter env _ Tryz.func166 (by kernel_rfl) rfl Tryz.ntmps166 rfl (by repeat (first | exact has00 | refine has01 ?_)) fun w0 => ?_
    repeat' first|(refine mku fun o => ?_; rw [Int.toNat_natCast])|(refine apu (l := List.replicate h 0) (news := l) (hl := by rw [List.length_replicate]; omega) fun u => ?_; refine TO.one (v := u) (xs := Us (List.replicate h 0 ++ l)) fun hu => ?_)|(refine wo ?_; first|(refine ao ?_; first|refine oa ?_)|refine oa ?_|refine lnm ?_)|(refine gc ?_; first|(refine ci (fun hB => ?_) (fun hB => ?_) <;> try (exfalso; omega)))|refine sq ?_|refine rg ?_|refine xc ?_|refine nl ?_|refine sk ?_|refine rt ?_
    exact r1 ⟨hu, _, rfl, (Dg.rep h).app hd, by rw [nv_app, nv_rep, List.length_replicate, Nat.zero_add], by rw [List.length_append, List.length_replicate]; omega⟩
def lessN (n a b : Nat) : Nat → Nat
  | 0 => n
  | 1 => n - a
  | _ => n - a - b
def lessJ (n a b : Nat) (v : Value) : Nat → List Ch
  | 0 => []
  | i + 1 => [own T64 v (Us (dg (lessN n a b (i + 1))))]
theorem less_tr (n0 lv x1 x2 : Value) (N a b : List Nat) (hN : Dg N) (ha : Dg a) (hb : Dg b) (lN : N.length ≤ 1099511627776) (la : a.length ≤ 1099511627776) (lb : b.length ≤ 1099511627776) (h0 : n0.oneCell' = true) (hle : nv a + nv b ≤ nv N) :
    Tr Tryz.prog 165 [n0, lv] [vw lv [x1, x2], vw n0 (Us N), vw x1 (Us a), vw x2 (Us b)] [] fun u D => u.oneCell' = true ∧ D = [own T64 u (Us (dg (nv N - nv a - nv b)))] := by
  have s1 := fun v => NSub_tr v x1 N a hN ha lN la (by omega)
  have l2 : (dg (nv N - nv a)).length ≤ 1099511627776 := Nat.le_trans (dg_mono (Nat.sub_le _ _)) (Nat.le_trans (dg_len_le hN) lN)
  have s2 := fun v => NSub_tr v x2 (dg (nv N - nv a)) b (Dg_dg _) hb l2 lb (by rw [nv_dg]; omega)
  simp only [nv_dg] at s2
  have hl2 : ([x1, x2] : List Value).length = 2 := rfl
  refine Tr.enter env _ Tryz.func165 (by kernel_rfl) rfl Tryz.ntmps165 rfl (by repeat (first | exact has00 | refine has01 ?_)) fun w0 => ?_
  repeat' first|(refine ln (xs := [x1, x2]) ?_; rw [hl2])|(refine wo ?_; first|refine oa ?_)|refine sq ?_|refine rg ?_|refine xc ?_|refine nl ?_|refine bk ?_
  refine TC.loop (ι := Nat × Value) (fun k => [(9, I k.1), (0, k.2)]) (fun k => lessJ (nv N) (nv a) (nv b) k.2 k.1) (fun k => k.1 ≤ 2 ∧ (k.1 = 0 → k.2 = n0) ∧ k.2.oneCell' = true) (fun k => 2 - k.1) (0, n0) [7, 8] ⟨Nat.zero_le _, fun _ => rfl, h0⟩ ?_
  rintro ⟨i, v⟩ ⟨h1, h2, h3⟩
  dsimp only at h1 h2 h3 ⊢
  have hi : i = 0 ∨ i = 1 ∨ i = 2 := by omega
  rcases hi with rfl | rfl | rfl
  · obtain rfl := h2 rfl
    refine TC.im (B := [vw lv [x1, x2], vw v (Us N), vw x1 (Us a), vw x2 (Us b)]) (Im.refl _) ?_
    repeat' first|(refine gca ?_; first|(refine ca (s1 v) ?_; rintro _ _ ⟨u, rfl, hu, rfl⟩))|refine ixn (i := 0) (xs := [x1, x2]) (hb := by decide) ?_|refine le (j := 0) (xs := [x1, x2]) (u := x1) ?_|(refine wo ?_; first|(refine ao ?_; first|refine aw ?_|refine oa ?_)|refine oa ?_|refine ixn ?_)|(refine gc ?_; first|refine ct ?_)|refine sq ?_|refine rg ?_|refine xc ?_|refine nl ?_|refine sk ?_|refine bk ?_|refine xb ?_
    exact lp (1, u) ⟨Nat.le_succ 1, fun h => absurd h (Nat.succ_ne_zero 0), hu⟩
  · refine TC.im (B := [own T64 v (Us (dg (nv N - nv a))), vw lv [x1, x2], vw n0 (Us N), vw x1 (Us a), vw x2 (Us b)]) (Im.refl _) ?_
    repeat' first|(refine gca ?_; first|(refine ca (s2 v) ?_; rintro _ _ ⟨u, rfl, hu, rfl⟩))|refine ixn (i := 1) (xs := [x1, x2]) (hb := by decide) ?_|refine le (j := 1) (xs := [x1, x2]) (u := x2) ?_|(refine wo ?_; first|(refine ao ?_; first|refine aw ?_|refine oa ?_)|refine oa ?_|refine ixn ?_)|(refine gc ?_; first|refine ct ?_)|refine sq ?_|refine rg ?_|refine xc ?_|refine nl ?_|refine sk ?_|refine bk ?_|refine xb ?_
    exact lp (2, u) ⟨Nat.le_refl 2, fun h => absurd h (Nat.succ_ne_zero 1), hu⟩
  · refine TC.im (B := [own T64 v (Us (dg (nv N - nv a - nv b))), vw lv [x1, x2], vw n0 (Us N), vw x1 (Us a), vw x2 (Us b)]) (Im.refl _) ?_
    repeat' first|(refine wo ?_; first|(refine ao ?_; first|refine oa ?_)|refine oa ?_)|(refine gc ?_; first|refine cf ?_)|refine sq ?_|refine rg ?_|refine xc ?_|refine nl ?_|refine xe ?_|refine rt ?_
    exact r1 ⟨h3, rfl⟩
end Go.Art
set_option linter.unusedSimpArgs false
set_option linter.unusedVariables false
namespace Go.Art
open Go Go.Proofs Go.RowKit
section
variable {P : Program} {E : Env P} {n : Sh} {X : Cx} {s : List K} {fr : Fr} {A A' : List Ch} {ops : Array Oper} {rest : List Oper} {d : Nat} {ty t t' el : TypeId} {pos : String} {after : Array Edge} {x y : Operand} {p q hi lo : Int} {v z : Value} {k1 : IntKind} {by_ : Nat} {xs : List Value} {α : Type} {g : α → Value} {l : List α}
theorem qmnn (k : TQ E n X s ops rest ((d, I (min p q)) :: fr) A) (hx : ev fr x = some (I p) := by rfl) (hy : ev fr y = some (I q) := by rfl) (hd : Nat.blt d n.n = true := by rfl) : TQ E n X s ops (⟨some d, .call ⟨.builtin .min, #[x, y], #[t, t']⟩, ty, pos, after, none⟩ :: rest) fr A := TQ.val (fun w _ => ⟨fun a ha _ _ _ _ => by
  have e : (if q < p then q else p) = min p q := by split <;> omega
  simp only [execOp, resolve]
  simp [ha.ev hx, ha.ev hy, invoke, builtin, Builtin.min_, Builtin.min2, ← e]⟩) k hd
theorem qslh (k : TQ E n X s ops rest ((d, slSub v 0 hi.toNat) :: fr) A) (hx : ev fr x = some v := by rfl) (hl : ev fr y = some (.int k1 hi) := by rfl) (hs : Has A (vw v (l.map g)) := by first | (apply has_vw; (repeat (first | apply List.Mem.head | apply List.Mem.tail)); first | done | fail) | (apply has_own; (repeat (first | apply List.Mem.head | apply List.Mem.tail)); first | done | fail) | (apply has_ro; (repeat (first | apply List.Mem.head | apply List.Mem.tail)); first | done | fail) | apply has_nil | ((with_reducible apply has_el); (focus (first | (apply has_vels; (repeat (first | apply List.Mem.head | apply List.Mem.tail)); first | done | fail) | (apply has_rels; (repeat (first | apply List.Mem.head | apply List.Mem.tail)); first | done | fail))); omega) | (apply has_pt; (repeat (first | apply List.Mem.head | apply List.Mem.tail)); first | done | fail) | (apply has_lpt; (repeat (first | apply List.Mem.head | apply List.Mem.tail)); first | done | fail) | (apply has_vels; (repeat (first | apply List.Mem.head | apply List.Mem.tail)); first | done | fail) | (apply has_rels; (repeat (first | apply List.Mem.head | apply List.Mem.tail)); first | done | fail) | with_reducible assumption | ((with_reducible apply has_elg); (focus (first | (apply has_velg; (repeat (first | apply List.Mem.head | apply List.Mem.tail)); first | done | fail) | (apply has_relg; (repeat (first | apply List.Mem.head | apply List.Mem.tail)); first | done | fail))); omega) | (apply has_velg; (repeat (first | apply List.Mem.head | apply List.Mem.tail)); first | done | fail) | (apply has_relg; (repeat (first | apply List.Mem.head | apply List.Mem.tail)); first | done | fail) | (apply has_vwf; (repeat (first | apply List.Mem.head | apply List.Mem.tail)); first | done | fail) | (apply has_oww; (repeat (first | apply List.Mem.head | apply List.Mem.tail)); first | done | fail)) (hb : 0 ≤ hi ∧ hi ≤ l.length := by omega)
    (ht : lk E.und t = some (.slice el) := by rfl) (he : lk E.inf el = some (z, 1, by_) := by rfl) (hd : Nat.blt d n.n = true := by rfl) : TQ E n X s ops (⟨some d, .slice t x none (some y) none, ty, pos, after, none⟩ :: rest) fr A :=
  TQ.val (fun _ h => R_sliceHi ht he hx hl (has_sl h hs) (by simpa using hb)) k hd
theorem qsll (k : TQ E n X s ops rest ((d, slSub v lo.toNat l.length) :: fr) A) (hx : ev fr x = some v := by rfl) (hl : ev fr y = some (.int k1 lo) := by rfl) (hs : Has A (vw v (l.map g)) := by first | (apply has_vw; (repeat (first | apply List.Mem.head | apply List.Mem.tail)); first | done | fail) | (apply has_own; (repeat (first | apply List.Mem.head | apply List.Mem.tail)); first | done | fail) | (apply has_ro; (repeat (first | apply List.Mem.head | apply List.Mem.tail)); first | done | fail) | apply has_nil | ((with_reducible apply has_el); (focus (first | (apply has_vels; (repeat (first | apply List.Mem.head | apply List.Mem.tail)); first | done | fail) | (apply has_rels; (repeat (first | apply List.Mem.head | apply List.Mem.tail)); first | done | fail))); omega) | (apply has_pt; (repeat (first | apply List.Mem.head | apply List.Mem.tail)); first | done | fail) | (apply has_lpt; (repeat (first | apply List.Mem.head | apply List.Mem.tail)); first | done | fail) | (apply has_vels; (repeat (first | apply List.Mem.head | apply List.Mem.tail)); first | done | fail) | (apply has_rels; (repeat (first | apply List.Mem.head | apply List.Mem.tail)); first | done | fail) | with_reducible assumption | ((with_reducible apply has_elg); (focus (first | (apply has_velg; (repeat (first | apply List.Mem.head | apply List.Mem.tail)); first | done | fail) | (apply has_relg; (repeat (first | apply List.Mem.head | apply List.Mem.tail)); first | done | fail))); omega) | (apply has_velg; (repeat (first | apply List.Mem.head | apply List.Mem.tail)); first | done | fail) | (apply has_relg; (repeat (first | apply List.Mem.head | apply List.Mem.tail)); first | done | fail) | (apply has_vwf; (repeat (first | apply List.Mem.head | apply List.Mem.tail)); first | done | fail) | (apply has_oww; (repeat (first | apply List.Mem.head | apply List.Mem.tail)); first | done | fail)) (hb : 0 ≤ lo ∧ lo ≤ l.length := by omega)
    (ht : lk E.und t = some (.slice el) := by rfl) (he : lk E.inf el = some (z, 1, by_) := by rfl) (hd : Nat.blt d n.n = true := by rfl) : TQ E n X s ops (⟨some d, .slice t x (some y) none none, ty, pos, after, none⟩ :: rest) fr A :=
  TQ.val (fun _ h => by have := R_sliceLo (n := n) (ty := ty) ht he hx hl (has_sl h hs) (by simpa using hb); rwa [List.length_map] at this) k hd
end
attribute [local irreducible] Fit pt own ro vw mpc lpt vels rels mow lrc dfr
theorem cut_tr (v : Value) (l : List Nat) (h c : Nat) : Tr Tryz.prog 164 [v, ptr c] [vw v (Us l), lpt c [I h] TRi] [] fun u D => u = tup2 (slSub v 0 (min h l.length)) (slSub v (min h l.length) l.length) ∧ D = [] := by
  have hm : (min (h : Int) l.length).toNat = min h l.length := by omega
  rw [← hm]
  refine Tr.enter env _ Tryz.func164 (by kernel_rfl) rfl Tryz.ntmps164 rfl (by repeat (first | exact has00 | refine has01 ?_)) fun w0 => ?_
  repeat' first|refine qmnn ?_|refine qslh (g := Un) ?_|refine qsll (g := Un) ?_|(refine wo ?_; first|refine oa ?_)|refine sq ?_|refine rg ?_|refine xc ?_|refine nl ?_|refine rt ?_|refine rq ?_|refine nq ?_|(refine wq ?_; first|refine qa ?_|refine qldl ?_|refine qlnm ?_)
  exact r2 ⟨rfl, rfl⟩
end Go.Art
set_option linter.unusedSimpArgs false
set_option linter.unusedVariables false
namespace Go.Art
open Go Go.Proofs Go.RowKit
abbrev TMul : TypeId := 117
abbrev halF (c5 c7 : Nat) : Value := .func (.func 163) #[] #[ptr c5, ptr c7]
theorem kara {a0 a1 b0 b1 p : Nat} : a0 * b0 + p * ((a0 + a1) * (b0 + b1) - a0 * b0 - a1 * b1) + p * p * (a1 * b1) = (a0 + p * a1) * (b0 + p * b1) := by
  have h : (a0 + a1) * (b0 + b1) - a0 * b0 - a1 * b1 = a0 * b1 + a1 * b0 := by
    rw [Nat.add_mul, Nat.mul_add, Nat.mul_add]; omega
  rw [h]; grind
theorem dg_mul_len {a b i j : Nat} (ha : (dg a).length ≤ i) (hb : (dg b).length ≤ j) : (dg (a * b)).length ≤ i + j := (dg_len _ _).2 (by
  rw [Nat.pow_add]; exact Nat.mul_lt_mul'' ((dg_len _ _).1 ha) ((dg_len _ _).1 hb))
theorem dg_add_len {a b i : Nat} (ha : (dg a).length ≤ i) (hb : (dg b).length ≤ i) : (dg (a + b)).length ≤ i + 1 := (dg_len _ _).2 (by
  have h1 := (dg_len _ _).1 ha
  have h2 := (dg_len _ _).1 hb
  rw [Nat.pow_succ]; omega)
attribute [local irreducible] Fit pt own ro vw mpc lpt vels rels mow lrc dfr
set_option maxHeartbeats 2000000 in
theorem hal1_tr (c5 c7 : Nat) (least : Int) (M : Nat) : ∀ (va vb : Value) (a b : List Nat), Dg a → Dg b → a.length ≤ 68719476736 → b.length ≤ 68719476736 → max (dg (nv a)).length (dg (nv b)).length ≤ M →
    Tr Tryz.prog 163 [va, vb, ptr c5, ptr c7] [vw va (Us a), vw vb (Us b), lpt c5 [I least] TRi, lpt c7 [halF c5 c7] TMul] [] fun u D => u.oneCell' = true ∧ D = [own T64 u (Us (dg (nv a * nv b)))] := by
  induction M using Nat.strongRecOn with
  | _ M ih =>
    intro va vb a b ha hb hla hlb hM
    have hal := dg_len_le ha
    have hbl := dg_len_le hb
    have hTa := Trim_tr va a ha (by omega)
    have hTb := Trim_tr vb b hb (by omega)
    obtain ⟨na, hna⟩ : ∃ na, na = nv a := ⟨_, rfl⟩
    obtain ⟨nb, hnb⟩ : ∃ nb, nb = nv b := ⟨_, rfl⟩
    rw [← hna] at hal hM hTa ⊢
    rw [← hnb] at hbl hM hTb ⊢
    obtain ⟨x, hx⟩ : ∃ x, x = dg na := ⟨_, rfl⟩
    obtain ⟨y, hy⟩ : ∃ y, y = dg nb := ⟨_, rfl⟩
    have hxn : nv x = na := by rw [hx, nv_dg]
    have hyn : nv y = nb := by rw [hy, nv_dg]
    have hxd : Dg x := by rw [hx]; exact Dg_dg _
    have hyd : Dg y := by rw [hy]; exact Dg_dg _
    rw [← hx] at hal hM hTa
    rw [← hy] at hbl hM hTb
    have hSc := fun u1 u2 => School_tr u1 u2 x y hxd hyd (by omega) (by omega)
    rw [hxn, hyn] at hSc
    clear hx hy hna hnb
    refine Tr.enter env _ Tryz.func163 (by kernel_rfl) rfl Tryz.ntmps163 rfl (by repeat (first | exact has00 | refine has01 ?_)) fun w0 => ?_
    by_cases hs : min (x.length : Int) y.length < max least 4
    · repeat' first|(refine gca ?_; first|(refine ca hTa ?_; rintro u1 _ ⟨hu1, rfl⟩)|(refine ca hTb ?_; rintro u2 _ ⟨hu2, rfl⟩)|(refine ca (hSc u1 u2) ?_; rintro u _ ⟨hu, rfl⟩))|refine mnn ?_|refine mxx ?_|(refine wo ?_; first|(refine ao ?_; first|refine oa ?_)|refine oa ?_|refine ldl ?_|refine lnm ?_)|(refine gc ?_; first|(refine ci (fun hB => ?_) (fun hB => ?_) <;> try (exfalso; omega)))|refine sq ?_|refine rg ?_|refine xc ?_|refine nl ?_|refine rt ?_
      exact r1 ⟨hu, rfl⟩
    · obtain ⟨h, hh⟩ : ∃ h : Nat, (max (x.length : Int) y.length + 1) / 2 = h := ⟨((max (x.length : Int) y.length + 1) / 2).toNat, by omega⟩
      obtain ⟨k1, hk1e⟩ : ∃ k1, k1 = min h x.length := ⟨_, rfl⟩
      obtain ⟨k2, hk2e⟩ : ∃ k2, k2 = min h y.length := ⟨_, rfl⟩
      have hc1 := fun u1 c => cut_tr u1 x h c
      have hc2 := fun u2 c => cut_tr u2 y h c
      simp only [← hk1e] at hc1
      simp only [← hk2e] at hc2
      have hk1 : k1 ≤ x.length := by omega
      have hk2 : k2 ≤ y.length := by omega
      have hb4 : 4 ≤ x.length ∧ 4 ≤ y.length := by omega
      have hhM : h + 1 < M ∧ h ≤ 68719476736 := by omega
      have t1l : (x.take k1).length ≤ h := by rw [List.length_take]; omega
      have t2l : (y.take k2).length ≤ h := by rw [List.length_take]; omega
      have d1l : (x.drop k1).length ≤ h := by rw [List.length_drop]; omega
      have d2l : (y.drop k2).length ≤ h := by rw [List.length_drop]; omega
      have e0 := Nat.le_trans (dg_len_le (hxd.take k1)) t1l
      have e1 := Nat.le_trans (dg_len_le (hxd.drop k1)) d1l
      have e2 := Nat.le_trans (dg_len_le (hyd.take k2)) t2l
      have e3 := Nat.le_trans (dg_len_le (hyd.drop k2)) d2l
      have cx : nv x = nv (x.take k1) + 18446744073709551616 ^ h * nv (x.drop k1) := by
        rcases Nat.lt_or_ge x.length h with h0 | h0
        · rw [List.take_of_length_le (by omega), List.drop_eq_nil_of_le (by omega)]; simp [nv]
        · rw [show k1 = h by omega]; exact nv_cut x h
      have cy : nv y = nv (y.take k2) + 18446744073709551616 ^ h * nv (y.drop k2) := by
        rcases Nat.lt_or_ge y.length h with h0 | h0
        · rw [List.take_of_length_le (by omega), List.drop_eq_nil_of_le (by omega)]; simp [nv]
        · rw [show k2 = h by omega]; exact nv_cut y h
      have ihL := fun u1 u2 => ih h (by omega) (slSub u1 0 k1) (slSub u2 0 k2) (x.take k1) (y.take k2) (hxd.take _) (hyd.take _) (by omega) (by omega) (by omega)
      have ihH := fun u1 u2 => ih h (by omega) (slSub u1 k1 x.length) (slSub u2 k2 y.length) (x.drop k1) (y.drop k2) (hxd.drop _) (hyd.drop _) (by omega) (by omega) (by omega)
      have adA := fun u1 => NAdd_tr (slSub u1 0 k1) (slSub u1 k1 x.length) (x.take k1) (x.drop k1) (hxd.take _) (hxd.drop _) (by omega) (by omega)
      have adB := fun u2 => NAdd_tr (slSub u2 0 k2) (slSub u2 k2 y.length) (y.take k2) (y.drop k2) (hyd.take _) (hyd.drop _) (by omega) (by omega)
      obtain ⟨a0, ha0⟩ : ∃ a0, a0 = nv (x.take k1) := ⟨_, rfl⟩
      obtain ⟨a1, ha1⟩ : ∃ a1, a1 = nv (x.drop k1) := ⟨_, rfl⟩
      obtain ⟨b0, hb0⟩ : ∃ b0, b0 = nv (y.take k2) := ⟨_, rfl⟩
      obtain ⟨b1, hb1⟩ : ∃ b1, b1 = nv (y.drop k2) := ⟨_, rfl⟩
      simp only [← ha0, ← ha1, ← hb0, ← hb1] at ihL ihH adA adB cx cy e0 e1 e2 e3
      have sA := dg_add_len e0 e1
      have sB := dg_add_len e2 e3
      have ihM := fun sa sb => ih (h + 1) (by omega) sa sb (dg (a0 + a1)) (dg (b0 + b1)) (Dg_dg _) (Dg_dg _) (by omega) (by omega) (by rw [nv_dg, nv_dg]; omega)
      simp only [nv_dg] at ihM
      have lL := dg_mul_len e0 e2
      have lH := dg_mul_len e1 e3
      have lP := dg_mul_len sA sB
      have hle : a0 * b0 + a1 * b1 ≤ (a0 + a1) * (b0 + b1) := by rw [Nat.add_mul, Nat.mul_add, Nat.mul_add]; omega
      have hK := kara (a0 := a0) (a1 := a1) (b0 := b0) (b1 := b1) (p := 18446744073709551616 ^ h)
      rw [← cx, ← cy, hxn, hyn] at hK
      obtain ⟨L, hL⟩ : ∃ L, L = a0 * b0 := ⟨_, rfl⟩
      obtain ⟨H, hH⟩ : ∃ H, H = a1 * b1 := ⟨_, rfl⟩
      obtain ⟨Q, hQ⟩ : ∃ Q, Q = (a0 + a1) * (b0 + b1) := ⟨_, rfl⟩
      simp only [← hL, ← hH, ← hQ] at ihL ihH ihM lL lH lP hle hK
      have lsM := fun ml lv lw hg hml => less_tr ml lv lw hg (dg Q) (dg L) (dg H) (Dg_dg _) (Dg_dg _) (Dg_dg _) (by omega) (by omega) (by omega) hml (by rw [nv_dg, nv_dg, nv_dg]; exact hle)
      simp only [nv_dg] at lsM
      have lM : (dg (Q - L - H)).length ≤ h + 1 + (h + 1) := Nat.le_trans (dg_mono (Nat.le_trans (Nat.sub_le _ _) (Nat.sub_le _ _))) lP
      obtain ⟨Md, hMd⟩ : ∃ Md, Md = Q - L - H := ⟨_, rfl⟩
      simp only [← hMd] at lsM lM hK
      have atM := fun md => nat_tr md (dg Md) h (Dg_dg _) (by omega)
      have atH := fun hg => nat_tr hg (dg H) (2 * h) (Dg_dg _) (by omega)
      simp only [nv_dg] at atM atH
      have lsum : ∀ m1 : List Nat, nv m1 = 18446744073709551616 ^ h * Md → (dg (nv (dg L) + nv m1)).length ≤ 1099511627776 := fun m1 hm1 => by
        refine Nat.le_trans (dg_add_len (i := 3 * h + 3) (by rw [nv_dg]; omega) ?_) (by omega)
        rw [hm1]
        refine Nat.le_trans (dg_mul_len (i := h + 1) (j := h + 1 + (h + 1)) ((dg_len _ _).2 (Nat.pow_lt_pow_right (by decide) (by omega))) lM) (by omega)
      have hfin : ∀ m1 m3 : List Nat, nv m1 = 18446744073709551616 ^ h * Md → nv m3 = 18446744073709551616 ^ (2 * h) * H → nv (dg (nv (dg L) + nv m1)) + nv m3 = na * nb := fun m1 m3 g1 g3 => by
        rw [nv_dg, nv_dg, g1, g3, ← hK, Nat.two_mul, Nat.pow_add]
      clear hK hle hMd hQ hH hL cx cy ha0 ha1 hb0 hb1 ih sA sB e0 e1 e2 e3 hxn hyn t1l t2l d1l d2l hal hbl hk1e hk2e
      repeat' first|(refine gca ?_; first|(refine ca hTa ?_; rintro u1 _ ⟨hu1, rfl⟩)|(refine ca hTb ?_; rintro u2 _ ⟨hu2, rfl⟩))|refine mnn ?_|refine mxx ?_|(refine adiv ?_; rw [hh])|(refine al fun c => ?_)|(refine cav (cap := #[ptr c]) (vs := [u1]) (hc1 u1 c) ?_; rintro _ _ ⟨rfl, rfl⟩)|(refine cav (cap := #[ptr c]) (vs := [u2]) (hc2 u2 c) ?_; rintro _ _ ⟨rfl, rfl⟩)|refine rs (id := 8) (fun w => w.heap[c7]? = some (.cells [halF c5 c7].toArray TMul (0, 0))) ?_ (fun w hw => lpt_at (by (repeat (first | apply List.Mem.head | apply List.Mem.tail)); first | done | fail) hw)|(refine wo ?_; first|(refine ao ?_; first|refine aw ?_|refine oa ?_)|refine oa ?_|refine ldl ?_|refine lnm ?_|refine sr ?_)|(refine gc ?_; first|(refine ci (fun hB => ?_) (fun hB => ?_) <;> try (exfalso; omega)))|refine sq ?_|refine rg ?_|refine xc ?_|refine nl ?_|refine sk ?_
      refine tkl 0 (cs := [halF c5 c7]) (fun w h => h) ?_
      refine tka 1 ?_
      refine tka 2 ?_
      refine tkl 4 (cs := [halF c5 c7]) (fun w h => h) ?_
      refine tka 5 ?_
      refine tka 6 ?_
      refine t1 3 ?_
      refine cav (cap := #[ptr c5, ptr c7]) (vs := [slSub u1 0 k1, slSub u2 0 k2]) (ihL u1 u2) ?_ (hp := has1 (has_take (has_own (by (repeat (first | apply List.Mem.head | apply List.Mem.tail)); first | done | fail)) hk1) (has1 (has_take (has_own (by (repeat (first | apply List.Mem.head | apply List.Mem.tail)); first | done | fail)) hk2) (has1 (has_lpt (by (repeat (first | apply List.Mem.head | apply List.Mem.tail)); first | done | fail)) (has1 (has_lpt (by (repeat (first | apply List.Mem.head | apply List.Mem.tail)); first | done | fail)) has0))))
      rintro lw _ ⟨hlw, rfl⟩
      refine nl ?_
      refine te (fun w hw => lpt_at (by (repeat (first | apply List.Mem.head | apply List.Mem.tail)); first | done | fail) hw) ?_
      refine t1 7 ?_
      refine cav (cap := #[ptr c5, ptr c7]) (vs := [slSub u1 k1 x.length, slSub u2 k2 y.length]) (ihH u1 u2) ?_ (hp := has1 (has_drop (has_own (by (repeat (first | apply List.Mem.head | apply List.Mem.tail)); first | done | fail)) hk1) (has1 (has_drop (has_own (by (repeat (first | apply List.Mem.head | apply List.Mem.tail)); first | done | fail)) hk2) (has1 (has_lpt (by (repeat (first | apply List.Mem.head | apply List.Mem.tail)); first | done | fail)) (has1 (has_lpt (by (repeat (first | apply List.Mem.head | apply List.Mem.tail)); first | done | fail)) has0))))
      rintro hg _ ⟨hhg, rfl⟩
      refine nl ?_
      refine te (fun w hw => lpt_at (by (repeat (first | apply List.Mem.head | apply List.Mem.tail)); first | done | fail) hw) ?_
      refine tka 8 ?_
      refine tka 9 ?_
      refine t0 ?_
      refine xc ?_
      repeat' first|refine sq_cutX (a := .region 9 _ _) (ι := Value) (fun md => md.oneCell' = true) (fun md => [(7, ptr c), (13, lw), (14, hg), (15, md)]) (fun md => [own T64 md (Us (dg Md)), own T64 hg (Us (dg H)), own T64 lw (Us (dg L)), pt c [I h] TRi]) ?_ (fun kb => ?_)|(refine wo ?_; first|(refine ao ?_; first|refine aw ?_|refine aw6 ?_|refine oa ?_|refine adiv ?_|refine amod ?_|refine shr1 ?_|refine shr ?_|refine umod ?_|refine isl ?_|refine ipe ?_|refine ipn ?_|refine ibe ?_)|refine acw ?_|refine ucv ?_|refine anw ?_|refine oa ?_|refine ld ?_|refine ldl ?_|refine lnm ?_|refine ixmn ?_|refine ixm ?_|refine li ?_|refine lb ?_|refine lv ?_|refine ln ?_|refine ixn ?_|refine ix ?_|refine le ?_|refine sr ?_|refine soi ?_|refine sob ?_|refine scm ?_|refine sclm ?_|refine schm ?_|refine gy ?_|refine gn ?_|refine gnn ?_|refine gu ?_|(refine gsi (fun hB => ?_) (fun hB => ?_) <;> try (exfalso; omega))|(refine gsn (fun hB => ?_) (fun hB => ?_) <;> try (exfalso; omega))|(refine gs (fun hB => ?_) (fun hB => ?_) <;> try (exfalso; omega)))|(refine gc ?_; first|refine ct ?_|refine cf ?_|(refine ci (fun hB => ?_) (fun hB => ?_) <;> try (exfalso; omega))|(refine cn (fun hB => ?_) (fun hB => ?_) <;> try (exfalso; omega))|(refine cb (fun hB => ?_) (fun hB => ?_) <;> try (exfalso; omega)))|refine sq ?_|refine rg ?_|refine xc ?_|refine nl ?_|refine sk ?_|refine bk ?_|refine xe ?_|refine rt ?_|refine xb ?_
      · intro md hmd
        repeat' first|refine rs (id := 10) (fun w => w.heap[c]? = some (.cells [I h].toArray TRi (0, 0))) ?_ (fun w hw => pt_at (by (repeat (first | apply List.Mem.head | apply List.Mem.tail)); first | done | fail) hw)|refine sq ?_
        refine tka 0 ?_
        refine tka 1 ?_
        refine tkl 2 (cs := [I h]) (fun w h => h) ?_
        refine tka 5 ?_
        refine tkl 6 (cs := [I h]) (fun w h => h) ?_
        refine tkw 7 (((2 * h : Nat)) : Int) ?_
        refine t1 3 ?_
        refine ca (atM md) ?_
        rintro z1 _ ⟨hz1, m1, rfl, dm1, nm1, lm1⟩
        refine nl ?_
        refine te (fun w hw => pt_at (by (repeat (first | apply List.Mem.head | apply List.Mem.tail)); first | done | fail) hw) ?_
        refine t1 4 ?_
        refine ca (NAdd_tr lw z1 (dg L) m1 (Dg_dg _) dm1 (by omega) (by omega)) ?_
        rintro z2 _ ⟨hz2, rfl⟩
        refine nl ?_
        refine te (fun w hw => pt_at (by (repeat (first | apply List.Mem.head | apply List.Mem.tail)); first | done | fail) hw) ?_
        refine t1 8 ?_
        refine ca (atH hg) ?_
        rintro z3 _ ⟨hz3, m3, rfl, dm3, nm3, lm3⟩
        refine nl ?_
        refine te (fun w hw => pt_at (by (repeat (first | apply List.Mem.head | apply List.Mem.tail)); first | done | fail) hw) ?_
        refine t1 9 ?_
        refine ca (NAdd_tr z2 z3 (dg (nv (dg L) + nv m1)) m3 (Dg_dg _) dm3 (lsum m1 nm1) (by omega)) ?_
        rintro z4 _ ⟨hz4, rfl⟩
        refine nl ?_
        refine te (fun w hw => pt_at (by (repeat (first | apply List.Mem.head | apply List.Mem.tail)); first | done | fail) hw) ?_
        refine tka 10 ?_
        refine t0 ?_
        skip
        rw [hfin m1 m3 nm1 nm3]
        repeat' first|refine xc ?_|refine rt ?_
        exact r1 ⟨hz4, rfl⟩
      · repeat' first|refine rs (id := 9) (fun w => w.heap[c7]? = some (.cells [halF c5 c7].toArray TMul (0, 0))) ?_ (fun w hw => lpt_at (by (repeat (first | apply List.Mem.head | apply List.Mem.tail)); first | done | fail) hw)|(refine wo ?_; first|(refine ao ?_; first|refine aw ?_|refine aw6 ?_|refine oa ?_|refine adiv ?_|refine amod ?_|refine shr1 ?_|refine shr ?_|refine umod ?_|refine isl ?_|refine ipe ?_|refine ipn ?_|refine ibe ?_)|refine acw ?_|refine ucv ?_|refine anw ?_|refine oa ?_|refine ld ?_|refine ldl ?_|refine lnm ?_|refine ixmn ?_|refine ixm ?_|refine li ?_|refine lb ?_|refine lv ?_|refine ln ?_|refine ixn ?_|refine ix ?_|refine le ?_|refine sr ?_|refine soi ?_|refine sob ?_|refine scm ?_|refine sclm ?_|refine schm ?_|refine gy ?_|refine gn ?_|refine gnn ?_|refine gu ?_|(refine gsi (fun hB => ?_) (fun hB => ?_) <;> try (exfalso; omega))|(refine gsn (fun hB => ?_) (fun hB => ?_) <;> try (exfalso; omega))|(refine gs (fun hB => ?_) (fun hB => ?_) <;> try (exfalso; omega)))|(refine gc ?_; first|refine ct ?_|refine cf ?_|(refine ci (fun hB => ?_) (fun hB => ?_) <;> try (exfalso; omega))|(refine cn (fun hB => ?_) (fun hB => ?_) <;> try (exfalso; omega))|(refine cb (fun hB => ?_) (fun hB => ?_) <;> try (exfalso; omega)))|refine sq ?_|refine rg ?_|refine xc ?_|refine nl ?_|refine sk ?_|refine bk ?_|refine xe ?_|refine rt ?_|refine xb ?_
        refine tkl 0 (cs := [halF c5 c7]) (fun w h => h) ?_
        refine tka 1 ?_
        refine tka 2 ?_
        refine tka 4 ?_
        refine tka 5 ?_
        refine tka 8 ?_
        refine tka 9 ?_
        refine t2 3 10 ?_ ?_
        · refine ca (adA u1) ?_ (hp := has1 (has_take (has_own (by (repeat (first | apply List.Mem.head | apply List.Mem.tail)); first | done | fail)) hk1) (has1 (has_drop (has_own (by (repeat (first | apply List.Mem.head | apply List.Mem.tail)); first | done | fail)) hk1) has0))
          rintro sa _ ⟨hsa, rfl⟩
          refine nl ?_
          refine te (fun w hw => lpt_at (by (repeat (first | apply List.Mem.head | apply List.Mem.tail)); first | done | fail) hw) ?_
          refine t2 6 10 ?_ ?_
          · refine ca (adB u2) ?_ (hp := has1 (has_take (has_own (by (repeat (first | apply List.Mem.head | apply List.Mem.tail)); first | done | fail)) hk2) (has1 (has_drop (has_own (by (repeat (first | apply List.Mem.head | apply List.Mem.tail)); first | done | fail)) hk2) has0))
            rintro sb _ ⟨hsb, rfl⟩
            refine nl ?_
            refine te (fun w hw => lpt_at (by (repeat (first | apply List.Mem.head | apply List.Mem.tail)); first | done | fail) hw) ?_
            refine t2 7 10 ?_ ?_
            · refine cav (cap := #[ptr c5, ptr c7]) (vs := [sa, sb]) (ihM sa sb) ?_
              rintro ml _ ⟨hml, rfl⟩
              refine nl ?_
              refine te (fun w hw => lpt_at (by (repeat (first | apply List.Mem.head | apply List.Mem.tail)); first | done | fail) hw) ?_
              refine t1 10 ?_
              refine sli (vs := [lw, hg]) (fun lv => ?_) (h1 := one_cons hlw (one_cons hhg one_nil))
              refine nl ?_
              refine te (fun w hw => lpt_at (by (repeat (first | apply List.Mem.head | apply List.Mem.tail)); first | done | fail) hw) ?_
              refine t1 11 ?_
              refine ca (lsM ml lv lw hg hml) ?_
              rintro md _ ⟨hmd, rfl⟩
              refine nl ?_
              refine te (fun w hw => lpt_at (by (repeat (first | apply List.Mem.head | apply List.Mem.tail)); first | done | fail) hw) ?_
              refine tka 12 ?_
              refine t0 ?_
              refine xc ?_
              exact kb md hmd _ _ (by (repeat (refine Sub.cons rfl (by first | rfl | go_num) ?_)); exact Sub.nil) (by first | apply Fit.all | ((repeat (first | (apply Fit.nilN; (repeat (first | apply nrm_nil | apply nrm_cons)); try apply nrm_rfl) | (apply Fit.cons; focus ((repeat (first | apply Tk.here | apply Tk.there)); first | done | fail)))); first | done | fail))
            · refine sli (vs := [lw, hg]) (fun lv => ?_) (h1 := one_cons hlw (one_cons hhg one_nil))
              refine nl ?_
              refine te (fun w hw => lpt_at (by (repeat (first | apply List.Mem.head | apply List.Mem.tail)); first | done | fail) hw) ?_
              refine t1 7 ?_
              refine cav (cap := #[ptr c5, ptr c7]) (vs := [sa, sb]) (ihM sa sb) ?_
              rintro ml _ ⟨hml, rfl⟩
              refine nl ?_
              refine te (fun w hw => lpt_at (by (repeat (first | apply List.Mem.head | apply List.Mem.tail)); first | done | fail) hw) ?_
              refine t1 11 ?_
              refine ca (lsM ml lv lw hg hml) ?_
              rintro md _ ⟨hmd, rfl⟩
              refine nl ?_
              refine te (fun w hw => lpt_at (by (repeat (first | apply List.Mem.head | apply List.Mem.tail)); first | done | fail) hw) ?_
              refine tka 12 ?_
              refine t0 ?_
              refine xc ?_
              exact kb md hmd _ _ (by (repeat (refine Sub.cons rfl (by first | rfl | go_num) ?_)); exact Sub.nil) (by first | apply Fit.all | ((repeat (first | (apply Fit.nilN; (repeat (first | apply nrm_nil | apply nrm_cons)); try apply nrm_rfl) | (apply Fit.cons; focus ((repeat (first | apply Tk.here | apply Tk.there)); first | done | fail)))); first | done | fail))
          · refine sli (vs := [lw, hg]) (fun lv => ?_) (h1 := one_cons hlw (one_cons hhg one_nil))
            refine nl ?_
            refine te (fun w hw => lpt_at (by (repeat (first | apply List.Mem.head | apply List.Mem.tail)); first | done | fail) hw) ?_
            refine t1 6 ?_
            refine ca (adB u2) ?_ (hp := has1 (has_take (has_own (by (repeat (first | apply List.Mem.head | apply List.Mem.tail)); first | done | fail)) hk2) (has1 (has_drop (has_own (by (repeat (first | apply List.Mem.head | apply List.Mem.tail)); first | done | fail)) hk2) has0))
            rintro sb _ ⟨hsb, rfl⟩
            refine nl ?_
            refine te (fun w hw => lpt_at (by (repeat (first | apply List.Mem.head | apply List.Mem.tail)); first | done | fail) hw) ?_
            refine t1 7 ?_
            refine cav (cap := #[ptr c5, ptr c7]) (vs := [sa, sb]) (ihM sa sb) ?_
            rintro ml _ ⟨hml, rfl⟩
            refine nl ?_
            refine te (fun w hw => lpt_at (by (repeat (first | apply List.Mem.head | apply List.Mem.tail)); first | done | fail) hw) ?_
            refine t1 11 ?_
            refine ca (lsM ml lv lw hg hml) ?_
            rintro md _ ⟨hmd, rfl⟩
            refine nl ?_
            refine te (fun w hw => lpt_at (by (repeat (first | apply List.Mem.head | apply List.Mem.tail)); first | done | fail) hw) ?_
            refine tka 12 ?_
            refine t0 ?_
            refine xc ?_
            exact kb md hmd _ _ (by (repeat (refine Sub.cons rfl (by first | rfl | go_num) ?_)); exact Sub.nil) (by first | apply Fit.all | ((repeat (first | (apply Fit.nilN; (repeat (first | apply nrm_nil | apply nrm_cons)); try apply nrm_rfl) | (apply Fit.cons; focus ((repeat (first | apply Tk.here | apply Tk.there)); first | done | fail)))); first | done | fail))
        · refine sli (vs := [lw, hg]) (fun lv => ?_) (h1 := one_cons hlw (one_cons hhg one_nil))
          refine nl ?_
          refine te (fun w hw => lpt_at (by (repeat (first | apply List.Mem.head | apply List.Mem.tail)); first | done | fail) hw) ?_
          refine t1 3 ?_
          refine ca (adA u1) ?_ (hp := has1 (has_take (has_own (by (repeat (first | apply List.Mem.head | apply List.Mem.tail)); first | done | fail)) hk1) (has1 (has_drop (has_own (by (repeat (first | apply List.Mem.head | apply List.Mem.tail)); first | done | fail)) hk1) has0))
          rintro sa _ ⟨hsa, rfl⟩
          refine nl ?_
          refine te (fun w hw => lpt_at (by (repeat (first | apply List.Mem.head | apply List.Mem.tail)); first | done | fail) hw) ?_
          refine t1 6 ?_
          refine ca (adB u2) ?_ (hp := has1 (has_take (has_own (by (repeat (first | apply List.Mem.head | apply List.Mem.tail)); first | done | fail)) hk2) (has1 (has_drop (has_own (by (repeat (first | apply List.Mem.head | apply List.Mem.tail)); first | done | fail)) hk2) has0))
          rintro sb _ ⟨hsb, rfl⟩
          refine nl ?_
          refine te (fun w hw => lpt_at (by (repeat (first | apply List.Mem.head | apply List.Mem.tail)); first | done | fail) hw) ?_
          refine t1 7 ?_
          refine cav (cap := #[ptr c5, ptr c7]) (vs := [sa, sb]) (ihM sa sb) ?_
          rintro ml _ ⟨hml, rfl⟩
          refine nl ?_
          refine te (fun w hw => lpt_at (by (repeat (first | apply List.Mem.head | apply List.Mem.tail)); first | done | fail) hw) ?_
          refine t1 11 ?_
          refine ca (lsM ml lv lw hg hml) ?_
          rintro md _ ⟨hmd, rfl⟩
          refine nl ?_
          refine te (fun w hw => lpt_at (by (repeat (first | apply List.Mem.head | apply List.Mem.tail)); first | done | fail) hw) ?_
          refine tka 12 ?_
          refine t0 ?_
          refine xc ?_
          exact kb md hmd _ _ (by (repeat (refine Sub.cons rfl (by first | rfl | go_num) ?_)); exact Sub.nil) (by first | apply Fit.all | ((repeat (first | (apply Fit.nilN; (repeat (first | apply nrm_nil | apply nrm_cons)); try apply nrm_rfl) | (apply Fit.cons; focus ((repeat (first | apply Tk.here | apply Tk.there)); first | done | fail)))); first | done | fail))
end Go.Art
set_option linter.unusedSimpArgs false
set_option linter.unusedVariables false
namespace Go.Art
open Go Go.Proofs Go.RowKit
attribute [local irreducible] Fit pt own ro vw mpc lpt vels rels mow lrc dfr
theorem halves_tr (va vb : Value) (a b : List Nat) (least : Int) (ha : Dg a) (hb : Dg b) (hla : a.length ≤ 68719476736) (hlb : b.length ≤ 68719476736) : Tr Tryz.prog 145 [va, vb, I least] [vw va (Us a), vw vb (Us b)] [] fun u D => u.oneCell' = true ∧ D = [own T64 u (Us (dg (nv a * nv b)))] := by
  have hC := fun c5 c7 => hal1_tr c5 c7 least (max (dg (nv a)).length (dg (nv b)).length) va vb a b ha hb hla hlb (Nat.le_refl _)
  obtain ⟨m, hm⟩ : ∃ m, m = nv a * nv b := ⟨_, rfl⟩
  simp only [← hm] at hC
  rw [← hm]
  refine Tr.enter env _ Tryz.func145 (by kernel_rfl) rfl Tryz.ntmps145 rfl (by repeat (first | exact has00 | refine has01 ?_)) fun w0 => ?_
  repeat' first|refine bx1 fun c5 => ?_|refine al fun c7 => ?_|(refine wo ?_; first|refine oa ?_|refine ld ?_|refine sr ?_)|refine sq ?_|refine rg ?_|refine xc ?_|refine nl ?_
  repeat' first|(refine cav (cap := #[ptr c5, ptr c7]) (vs := [va, vb]) (hC c5 c7) ?_; rintro u _ ⟨hu, rfl⟩)|(refine wo ?_; first|refine oa ?_)|refine xc ?_|refine nl ?_|refine rt ?_
  exact r1 ⟨hu, rfl⟩
theorem NMul_tr (va vb : Value) (a b : List Nat) (ha : Dg a) (hb : Dg b) (hla : a.length ≤ 68719476736) (hlb : b.length ≤ 68719476736) : Tr Tryz.prog 119 [va, vb] [vw va (Us a), vw vb (Us b)] [] fun u D => u.oneCell' = true ∧ D = [own T64 u (Us (dg (nv a * nv b)))] := by
  refine Tr.enter env _ Tryz.func119 (by kernel_rfl) rfl Tryz.ntmps119 rfl (by repeat (first | exact has00 | refine has01 ?_)) fun w0 => ?_
  repeat' first|(refine gca ?_; first|(refine ca (halves_tr va vb a b 32 ha hb hla hlb) ?_; rintro u _ ⟨hu, rfl⟩))|(refine wo ?_; first|refine oa ?_)|refine sq ?_|refine rg ?_|refine xc ?_|refine nl ?_|refine rt ?_
  exact r1 ⟨hu, rfl⟩
end Go.Art
set_option linter.unusedSimpArgs false
set_option linter.unusedVariables false
namespace Go.Art
open Go Go.Proofs Go.RowKit
theorem sg_mul (z1 z2 : Int) : sg (!(decide (z1 < 0) == decide (z2 < 0))) (z1.natAbs * z2.natAbs) = z1 * z2 := by
  have h1 : (z1 = z1.natAbs ∧ 0 ≤ z1) ∨ (z1 = -(z1.natAbs : Int) ∧ z1 < 0) := by omega
  have h2 : (z2 = z2.natAbs ∧ 0 ≤ z2) ∨ (z2 = -(z2.natAbs : Int) ∧ z2 < 0) := by omega
  generalize z1.natAbs = a at *
  generalize z2.natAbs = b at *
  unfold sg
  rcases h1 with ⟨e1, g1⟩ | ⟨e1, g1⟩ <;> rcases h2 with ⟨e2, g2⟩ | ⟨e2, g2⟩
  · simp only [show decide (z1 < 0) = false from decide_eq_false (by omega), show decide (z2 < 0) = false from decide_eq_false (by omega)]
    rw [e1, e2]; simp
  · simp only [show decide (z1 < 0) = false from decide_eq_false (by omega), show decide (z2 < 0) = true from decide_eq_true g2]
    rw [e1, e2]; simp [Int.mul_neg]
  · simp only [show decide (z1 < 0) = true from decide_eq_true g1, show decide (z2 < 0) = false from decide_eq_false (by omega)]
    rw [e1, e2]; simp [Int.neg_mul]
  · simp only [show decide (z1 < 0) = true from decide_eq_true g1, show decide (z2 < 0) = true from decide_eq_true g2]
    rw [e1, e2]; simp [Int.neg_mul_neg]
theorem dz_mul {z1 z2 : Int} {B : Nat} (h1 : (dz z1).length ≤ B) (h2 : (dz z2).length ≤ B) : (dz (z1 * z2)).length ≤ 2 * B := by
  unfold dz at *
  rw [Int.natAbs_mul]
  exact Nat.le_trans (dg_mul_len h1 h2) (by omega)
attribute [local irreducible] Fit pt own ro vw mpc lpt vels rels mow lrc dfr
theorem IMulF_tr (b1 b2 : Bool) (v1 v2 : Value) (l1 l2 : List Nat) (d1 : Dg l1) (d2 : Dg l2) (h1 : l1.length ≤ 34359738368) (h2 : l2.length ≤ 34359738368) :
    Tr Tryz.prog 118 [.agg #[.bool b1, v1], .agg #[.bool b2, v2]] [vw v1 (Us l1), vw v2 (Us l2)] [] (IR (sg (!(b1 == b2)) (nv l1 * nv l2))) := by
  have hM := NMul_tr v1 v2 l1 l2 d1 d2 (by omega) (by omega)
  have hlen : (dg (nv l1 * nv l2)).length ≤ 1099511627776 := by
    have := dg_mul_len (dg_len_le d1) (dg_len_le d2)
    omega
  have hI := fun b o => IMake_tr b o (dg (nv l1 * nv l2)) (Dg_dg _) hlen
  rw [nv_dg] at hI
  unfold IR at hI ⊢
  obtain ⟨z, hz⟩ : ∃ z, z = sg (!(b1 == b2)) (nv l1 * nv l2) := ⟨_, rfl⟩
  have hI2 := hI (!(b1 == b2))
  rw [← hz] at hI2 ⊢
  clear hI hz hlen
  generalize dg (nv l1 * nv l2) = pd at *
  refine Tr.enter env _ Tryz.func118 (by kernel_rfl) rfl Tryz.ntmps118 rfl (by repeat (first | exact has00 | refine has01 ?_)) fun w0 => ?_
  repeat' first|refine bx fun q => ?_|refine al fun c => ?_|refine sq ?_|refine rg ?_|refine xc ?_|refine nl ?_
  rename_i q1
  refine rs (fun w => w.heap[q1]? = some (.cells [.bool b1, v1].toArray TIt (0, 0)) ∧ w.heap[q]? = some (.cells [.bool b2, v2].toArray TIt (0, 0))) ?_ (fun w hw => ⟨pt_at (b := q1) (cs := [.bool b1, v1]) (T := TIt) (by (repeat (first | apply List.Mem.head | apply List.Mem.tail)); first | done | fail) hw, pt_at (b := q) (cs := [.bool b2, v2]) (T := TIt) (by (repeat (first | apply List.Mem.head | apply List.Mem.tail)); first | done | fail) hw⟩)
  refine tka 0 ?_
  refine tkl 1 (cs := [.bool b1, v1]) (fun w h => h.1) ?_
  refine tka 2 ?_
  refine tkl 3 (cs := [.bool b2, v2]) (fun w h => h.2) ?_
  refine tk 4 (v := .bool (!(b1 == b2))) (fun _ _ => R_bne (E := env) rfl rfl rfl) ?_
  refine tka 5 ?_
  refine tkl 6 (cs := [.bool b1, v1]) (fun w h => h.1) ?_
  refine tka 7 ?_
  refine tkl 8 (cs := [.bool b2, v2]) (fun w h => h.2) ?_
  refine t1 9 ?_
  refine ca hM ?_
  rintro o _ ⟨ho, rfl⟩
  refine nl ?_
  refine te (fun w hw => ⟨pt_at (b := q1) (cs := [.bool b1, v1]) (T := TIt) (by (repeat (first | apply List.Mem.head | apply List.Mem.tail)); first | done | fail) hw, pt_at (b := q) (cs := [.bool b2, v2]) (T := TIt) (by (repeat (first | apply List.Mem.head | apply List.Mem.tail)); first | done | fail) hw⟩) ?_
  refine t1 10 ?_
  refine ca (hI2 o) ?_
  rintro _ _ ⟨o2, rfl, ho2, rfl⟩
  refine nl ?_
  refine te (fun w hw => ⟨pt_at (b := q1) (cs := [.bool b1, v1]) (T := TIt) (by (repeat (first | apply List.Mem.head | apply List.Mem.tail)); first | done | fail) hw, pt_at (b := q) (cs := [.bool b2, v2]) (T := TIt) (by (repeat (first | apply List.Mem.head | apply List.Mem.tail)); first | done | fail) hw⟩) ?_
  refine t1 11 ?_
  refine srz ?_
  refine nl ?_
  refine te (fun w hw => ⟨pt_at (b := q1) (cs := [.bool b1, v1]) (T := TIt) (by (repeat (first | apply List.Mem.head | apply List.Mem.tail)); first | done | fail) hw, pt_at (b := q) (cs := [.bool b2, v2]) (T := TIt) (by (repeat (first | apply List.Mem.head | apply List.Mem.tail)); first | done | fail) hw⟩) ?_
  refine t0 ?_
  repeat' first|refine xc ?_|refine rt ?_
  exact rca1 (cs := [.bool (decide (z < 0)), o2]) (vs := [.bool (decide (z < 0)), o2]) (T := TIt) ⟨o2, rfl, ho2, rfl⟩
theorem along_tr (z1 z2 : Int) (v1 v2 : Value) (hs : decide (z1 < 0) = decide (z2 < 0)) (h1 : (dz z1).length ≤ 549755813888) (h2 : (dz z2).length ≤ 549755813888) :
    Tr Tryz.prog 143 [iv z1 v1, iv z2 v2] [vw v1 (Us (dz z1)), vw v2 (Us (dz z2))] [] (IR (z1 + z2)) := by
  have hA := NAdd_tr v1 v2 (dz z1) (dz z2) (Dg_dg _) (Dg_dg _) (by omega) (by omega)
  have hlen : (dg (nv (dz z1) + nv (dz z2))).length ≤ 1099511627776 := by
    unfold dz at *
    rw [nv_dg, nv_dg]
    have := dg_add_len (i := 549755813888) h1 h2
    omega
  have hI := fun o => IMake_tr (decide (z1 < 0)) o (dg (nv (dz z1) + nv (dz z2))) (Dg_dg _) hlen
  have e : sg (decide (z1 < 0)) (nv (dz z1) + nv (dz z2)) = z1 + z2 := by
    unfold sg dz
    rw [nv_dg, nv_dg]
    by_cases h : z1 < 0
    · have := of_decide_eq_true (hs.symm.trans (decide_eq_true h))
      rw [if_pos (by simpa using h)]; omega
    · have := of_decide_eq_false (hs.symm.trans (decide_eq_false h))
      rw [if_neg (by simpa using h)]; omega
  rw [show nv (dg (nv (dz z1) + nv (dz z2))) = nv (dz z1) + nv (dz z2) from nv_dg _, e] at hI
  unfold IR at hI ⊢
  obtain ⟨z, hz⟩ : ∃ z, z = z1 + z2 := ⟨_, rfl⟩
  rw [← hz] at hI ⊢
  clear hz hlen e hs
  generalize dg (nv (dz z1) + nv (dz z2)) = pd at *
  show Tr _ _ [.agg #[.bool (decide (z1 < 0)), v1], .agg #[.bool (decide (z2 < 0)), v2]] _ _ _
  generalize decide (z1 < 0) = b1 at *
  generalize decide (z2 < 0) = b2 at *
  generalize dz z1 = l1 at *
  generalize dz z2 = l2 at *
  refine Tr.enter env _ Tryz.func143 (by kernel_rfl) rfl Tryz.ntmps143 rfl (by repeat (first | exact has00 | refine has01 ?_)) fun w0 => ?_
  repeat' first|refine bx fun q => ?_|refine al fun c => ?_|refine sq ?_|refine rg ?_|refine xc ?_|refine nl ?_
  rename_i q1
  refine rs (fun w => w.heap[q1]? = some (.cells [.bool b1, v1].toArray TIt (0, 0)) ∧ w.heap[q]? = some (.cells [.bool b2, v2].toArray TIt (0, 0))) ?_ (fun w hw => ⟨pt_at (b := q1) (cs := [.bool b1, v1]) (T := TIt) (by (repeat (first | apply List.Mem.head | apply List.Mem.tail)); first | done | fail) hw, pt_at (b := q) (cs := [.bool b2, v2]) (T := TIt) (by (repeat (first | apply List.Mem.head | apply List.Mem.tail)); first | done | fail) hw⟩)
  refine tka 0 ?_
  refine tkl 1 (cs := [.bool b1, v1]) (fun w h => h.1) ?_
  refine tka 2 ?_
  refine tkl 3 (cs := [.bool b1, v1]) (fun w h => h.1) ?_
  refine tka 4 ?_
  refine tkl 5 (cs := [.bool b2, v2]) (fun w h => h.2) ?_
  refine t1 6 ?_
  refine ca hA ?_
  rintro o _ ⟨ho, rfl⟩
  refine nl ?_
  refine te (fun w hw => ⟨pt_at (b := q1) (cs := [.bool b1, v1]) (T := TIt) (by (repeat (first | apply List.Mem.head | apply List.Mem.tail)); first | done | fail) hw, pt_at (b := q) (cs := [.bool b2, v2]) (T := TIt) (by (repeat (first | apply List.Mem.head | apply List.Mem.tail)); first | done | fail) hw⟩) ?_
  refine t1 7 ?_
  refine ca (hI o) ?_
  rintro _ _ ⟨o2, rfl, ho2, rfl⟩
  refine nl ?_
  refine te (fun w hw => ⟨pt_at (b := q1) (cs := [.bool b1, v1]) (T := TIt) (by (repeat (first | apply List.Mem.head | apply List.Mem.tail)); first | done | fail) hw, pt_at (b := q) (cs := [.bool b2, v2]) (T := TIt) (by (repeat (first | apply List.Mem.head | apply List.Mem.tail)); first | done | fail) hw⟩) ?_
  refine t1 8 ?_
  refine srz ?_
  refine nl ?_
  refine te (fun w hw => ⟨pt_at (b := q1) (cs := [.bool b1, v1]) (T := TIt) (by (repeat (first | apply List.Mem.head | apply List.Mem.tail)); first | done | fail) hw, pt_at (b := q) (cs := [.bool b2, v2]) (T := TIt) (by (repeat (first | apply List.Mem.head | apply List.Mem.tail)); first | done | fail) hw⟩) ?_
  refine t0 ?_
  repeat' first|refine xc ?_|refine rt ?_
  exact rca1 (cs := [.bool (decide (z < 0)), o2]) (vs := [.bool (decide (z < 0)), o2]) (T := TIt) ⟨o2, rfl, ho2, rfl⟩
theorem against_tr (z1 z2 : Int) (v1 v2 : Value) (hs : decide (z1 < 0) ≠ decide (z2 < 0)) (h1 : (dz z1).length ≤ 549755813888) (h2 : (dz z2).length ≤ 549755813888) :
    Tr Tryz.prog 144 [iv z1 v1, iv z2 v2] [vw v1 (Us (dz z1)), vw v2 (Us (dz z2))] [] (IR (z1 + z2)) := by
  have hnn : (z1 < 0 ∧ ¬ z2 < 0) ∨ (¬ z1 < 0 ∧ z2 < 0) := by
    by_cases g1 : z1 < 0
    · by_cases g2 : z2 < 0
      · exact absurd (by rw [decide_eq_true g1, decide_eq_true g2]) hs
      · exact .inl ⟨g1, g2⟩
    · by_cases g2 : z2 < 0
      · exact .inr ⟨g1, g2⟩
      · exact absurd (by rw [decide_eq_false g1, decide_eq_false g2]) hs
  by_cases hle : z2.natAbs ≤ z1.natAbs
  · have hA := NSub_tr v1 v2 (dz z1) (dz z2) (Dg_dg _) (Dg_dg _) (by omega) (by omega) (by unfold dz; rw [nv_dg, nv_dg]; exact hle)
    have hlen : (dg (nv (dz z1) - nv (dz z2))).length ≤ 1099511627776 := by
      unfold dz at *
      rw [nv_dg, nv_dg]
      exact Nat.le_trans (dg_mono (Nat.sub_le _ _)) (by omega)
    have hI := fun o => IMake_tr (decide (z1 < 0)) o (dg (nv (dz z1) - nv (dz z2))) (Dg_dg _) hlen
    have e : sg (decide (z1 < 0)) (nv (dz z1) - nv (dz z2)) = z1 + z2 := by
      unfold sg dz
      rw [nv_dg, nv_dg]
      by_cases h : z1 < 0
      · rw [if_pos (by simpa using h)]; omega
      · rw [if_neg (by simpa using h)]; omega
    rw [show nv (dg (nv (dz z1) - nv (dz z2))) = nv (dz z1) - nv (dz z2) from nv_dg _, e] at hI
    unfold IR at hI ⊢
    obtain ⟨z, hz⟩ : ∃ z, z = z1 + z2 := ⟨_, rfl⟩
    rw [← hz] at hI ⊢
    clear hz hlen e hs hnn hle
    generalize dg (nv (dz z1) - nv (dz z2)) = pd at *
    show Tr _ _ [.agg #[.bool (decide (z1 < 0)), v1], .agg #[.bool (decide (z2 < 0)), v2]] _ _ _
    generalize decide (z1 < 0) = b1 at *
    generalize decide (z2 < 0) = b2 at *
    generalize dz z1 = l1 at *
    generalize dz z2 = l2 at *
    refine Tr.enter env _ Tryz.func144 (by kernel_rfl) rfl Tryz.ntmps144 rfl (by repeat (first | exact has00 | refine has01 ?_)) fun w0 => ?_
    repeat' first|(refine gca ?_; first|(refine ca hA ?_; rintro _ _ ⟨o, rfl, ho, rfl⟩)|(refine ca (hI o) ?_; rintro _ _ ⟨o2, rfl, ho2, rfl⟩))|refine bx fun q => ?_|refine al fun c => ?_|refine srz ?_|(refine wo ?_; first|(refine ao ?_; first|refine oa ?_)|refine oa ?_|refine ld ?_)|(refine gc ?_; first|refine ct ?_)|refine sq ?_|refine rg ?_|refine xc ?_|refine nl ?_|refine rt ?_
    exact rca1 (cs := [.bool (decide (z < 0)), o2]) (vs := [.bool (decide (z < 0)), o2]) (T := TIt) ⟨o2, rfl, ho2, rfl⟩
  · have hA := NSub0_tr v1 v2 (dz z1) (dz z2) (Dg_dg _) (Dg_dg _) (by unfold dz; rw [nv_dg, nv_dg]; omega)
    have hB2 := NSub_tr v2 v1 (dz z2) (dz z1) (Dg_dg _) (Dg_dg _) (by omega) (by omega) (by unfold dz; rw [nv_dg, nv_dg]; omega)
    have hlen : (dg (nv (dz z2) - nv (dz z1))).length ≤ 1099511627776 := by
      unfold dz at *
      rw [nv_dg, nv_dg]
      exact Nat.le_trans (dg_mono (Nat.sub_le _ _)) (by omega)
    have hI := fun o => IMake_tr (decide (z2 < 0)) o (dg (nv (dz z2) - nv (dz z1))) (Dg_dg _) hlen
    have e : sg (decide (z2 < 0)) (nv (dz z2) - nv (dz z1)) = z1 + z2 := by
      unfold sg dz
      rw [nv_dg, nv_dg]
      by_cases h : z2 < 0
      · rw [if_pos (by simpa using h)]; omega
      · rw [if_neg (by simpa using h)]; omega
    rw [show nv (dg (nv (dz z2) - nv (dz z1))) = nv (dz z2) - nv (dz z1) from nv_dg _, e] at hI
    unfold IR at hI ⊢
    obtain ⟨z, hz⟩ : ∃ z, z = z1 + z2 := ⟨_, rfl⟩
    rw [← hz] at hI ⊢
    clear hz hlen e hs hnn hle
    generalize dg (nv (dz z2) - nv (dz z1)) = pd at *
    show Tr _ _ [.agg #[.bool (decide (z1 < 0)), v1], .agg #[.bool (decide (z2 < 0)), v2]] _ _ _
    generalize decide (z1 < 0) = b1 at *
    generalize decide (z2 < 0) = b2 at *
    generalize dz z1 = l1 at *
    generalize dz z2 = l2 at *
    refine Tr.enter env _ Tryz.func144 (by kernel_rfl) rfl Tryz.ntmps144 rfl (by repeat (first | exact has00 | refine has01 ?_)) fun w0 => ?_
    repeat' first|(refine gca ?_; first|(refine ca hA ?_; rintro _ _ ⟨rfl, rfl⟩)|(refine ca hB2 ?_; rintro _ _ ⟨o, rfl, ho, rfl⟩)|(refine ca (hI o) ?_; rintro _ _ ⟨o2, rfl, ho2, rfl⟩))|refine bx fun q => ?_|refine al fun c => ?_|refine srz ?_|(refine wo ?_; first|(refine ao ?_; first|refine oa ?_)|refine oa ?_|refine ld ?_)|(refine gc ?_; first|refine cf ?_)|refine sq ?_|refine rg ?_|refine xc ?_|refine nl ?_|refine sk ?_|refine rt ?_
    exact rca1 (cs := [.bool (decide (z < 0)), o2]) (vs := [.bool (decide (z < 0)), o2]) (T := TIt) ⟨o2, rfl, ho2, rfl⟩
theorem IAdd_tr (z1 z2 : Int) (v1 v2 : Value) (g1 : v1.oneCell' = true) (g2 : v2.oneCell' = true) (h1 : (dz z1).length ≤ 549755813888) (h2 : (dz z2).length ≤ 549755813888) :
    Tr Tryz.prog 117 [iv z1 v1, iv z2 v2] [vw v1 (Us (dz z1)), vw v2 (Us (dz z2))] [] (IR (z1 + z2)) := by
  by_cases hs : decide (z1 < 0) = decide (z2 < 0)
  · have hA := along_tr z1 z2 v1 v2 hs h1 h2
    unfold IR at hA ⊢
    obtain ⟨z, hz⟩ : ∃ z, z = z1 + z2 := ⟨_, rfl⟩
    rw [← hz] at hA ⊢
    clear hz
    show Tr _ _ [.agg #[.bool (decide (z1 < 0)), v1], .agg #[.bool (decide (z2 < 0)), v2]] _ _ _
    change Tr _ _ [.agg #[.bool (decide (z1 < 0)), v1], .agg #[.bool (decide (z2 < 0)), v2]] _ _ _ at hA
    rw [← hs] at hA ⊢
    generalize decide (z1 < 0) = b1 at *
    generalize dz z1 = l1 at *
    generalize dz z2 = l2 at *
    have hb : (!(b1 == b1)) = false := by simp
    refine Tr.enter env _ Tryz.func117 (by kernel_rfl) rfl Tryz.ntmps117 rfl (by repeat (first | exact has00 | refine has01 ?_)) fun w0 => ?_
    repeat' first|refine bx fun q => ?_|refine al fun c => ?_|(refine ibn ?_; rw [hb])|(refine wo ?_; first|refine oa ?_|refine ld ?_)|(refine gc ?_; first|refine cf ?_)|refine sq ?_|refine rg ?_|refine xc ?_|refine nl ?_|refine sk ?_
    rename_i q1
    refine rs (fun w => w.heap[q1]? = some (.cells [.bool b1, v1].toArray TIt (0, 0)) ∧ w.heap[q]? = some (.cells [.bool b1, v2].toArray TIt (0, 0))) ?_ (fun w hw => ⟨pt_at (b := q1) (cs := [.bool b1, v1]) (T := TIt) (by (repeat (first | apply List.Mem.head | apply List.Mem.tail)); first | done | fail) hw, pt_at (b := q) (cs := [.bool b1, v2]) (T := TIt) (by (repeat (first | apply List.Mem.head | apply List.Mem.tail)); first | done | fail) hw⟩)
    refine tk 0 (v := .agg #[.func (.func 143) #[] #[], .func (.func 144) #[] #[]]) (fun w h => R_buildArr (E := env) rfl rfl rfl rfl rfl) ?_
    refine tka 1 ?_
    refine tk 2 (v := .func (.func 143) #[] #[]) (fun w h => R_index1 (E := env) (m := 2) (i := 0) rfl rfl rfl rfl rfl rfl (by decide) rfl) ?_
    refine tk 3 (v := .agg #[.bool b1, v1]) (fun w h => R_loadA (E := env) (vs := [.bool b1, v1]) rfl rfl rfl rfl h.1 rfl rfl) ?_
    refine tk 4 (v := .agg #[.bool b1, v2]) (fun w h => R_loadA (E := env) (vs := [.bool b1, v2]) rfl rfl rfl rfl h.2 rfl rfl) ?_
    refine t1 5 ?_
    refine cav (cap := #[]) (vs := [.agg #[.bool b1, v1], .agg #[.bool b1, v2]]) hA ?_
    rintro _ _ ⟨o2, rfl, ho2, rfl⟩
    refine nl ?_
    refine te (fun w hw => ⟨pt_at (b := q1) (cs := [.bool b1, v1]) (T := TIt) (by (repeat (first | apply List.Mem.head | apply List.Mem.tail)); first | done | fail) hw, pt_at (b := q) (cs := [.bool b1, v2]) (T := TIt) (by (repeat (first | apply List.Mem.head | apply List.Mem.tail)); first | done | fail) hw⟩) ?_
    refine t1 6 ?_
    refine srz ?_
    refine nl ?_
    refine te (fun w hw => ⟨pt_at (b := q1) (cs := [.bool b1, v1]) (T := TIt) (by (repeat (first | apply List.Mem.head | apply List.Mem.tail)); first | done | fail) hw, pt_at (b := q) (cs := [.bool b1, v2]) (T := TIt) (by (repeat (first | apply List.Mem.head | apply List.Mem.tail)); first | done | fail) hw⟩) ?_
    refine t0 ?_
    repeat' first|refine xc ?_|refine rt ?_
    exact rca1 (cs := [.bool (decide (z < 0)), o2]) (vs := [.bool (decide (z < 0)), o2]) (T := TIt) ⟨o2, rfl, ho2, rfl⟩
  · have hA := against_tr z1 z2 v1 v2 hs h1 h2
    unfold IR at hA ⊢
    obtain ⟨z, hz⟩ : ∃ z, z = z1 + z2 := ⟨_, rfl⟩
    rw [← hz] at hA ⊢
    clear hz
    show Tr _ _ [.agg #[.bool (decide (z1 < 0)), v1], .agg #[.bool (decide (z2 < 0)), v2]] _ _ _
    change Tr _ _ [.agg #[.bool (decide (z1 < 0)), v1], .agg #[.bool (decide (z2 < 0)), v2]] _ _ _ at hA
    generalize decide (z1 < 0) = b1 at *
    generalize decide (z2 < 0) = b2 at *
    generalize dz z1 = l1 at *
    generalize dz z2 = l2 at *
    have hb : (!(b1 == b2)) = true := by simpa using hs
    refine Tr.enter env _ Tryz.func117 (by kernel_rfl) rfl Tryz.ntmps117 rfl (by repeat (first | exact has00 | refine has01 ?_)) fun w0 => ?_
    repeat' first|refine bx fun q => ?_|refine al fun c => ?_|(refine ibn ?_; rw [hb])|(refine wo ?_; first|refine oa ?_|refine ld ?_)|(refine gc ?_; first|refine ct ?_)|refine sq ?_|refine rg ?_|refine xc ?_|refine nl ?_
    rename_i q1
    refine rs (fun w => w.heap[q1]? = some (.cells [.bool b1, v1].toArray TIt (0, 0)) ∧ w.heap[q]? = some (.cells [.bool b2, v2].toArray TIt (0, 0))) ?_ (fun w hw => ⟨pt_at (b := q1) (cs := [.bool b1, v1]) (T := TIt) (by (repeat (first | apply List.Mem.head | apply List.Mem.tail)); first | done | fail) hw, pt_at (b := q) (cs := [.bool b2, v2]) (T := TIt) (by (repeat (first | apply List.Mem.head | apply List.Mem.tail)); first | done | fail) hw⟩)
    refine tk 0 (v := .agg #[.func (.func 143) #[] #[], .func (.func 144) #[] #[]]) (fun w h => R_buildArr (E := env) rfl rfl rfl rfl rfl) ?_
    refine tka 1 ?_
    refine tk 2 (v := .func (.func 144) #[] #[]) (fun w h => R_index1 (E := env) (m := 2) (i := 1) rfl rfl rfl rfl rfl rfl (by decide) rfl) ?_
    refine tk 3 (v := .agg #[.bool b1, v1]) (fun w h => R_loadA (E := env) (vs := [.bool b1, v1]) rfl rfl rfl rfl h.1 rfl rfl) ?_
    refine tk 4 (v := .agg #[.bool b2, v2]) (fun w h => R_loadA (E := env) (vs := [.bool b2, v2]) rfl rfl rfl rfl h.2 rfl rfl) ?_
    refine t1 5 ?_
    refine cav (cap := #[]) (vs := [.agg #[.bool b1, v1], .agg #[.bool b2, v2]]) hA ?_
    rintro _ _ ⟨o2, rfl, ho2, rfl⟩
    refine nl ?_
    refine te (fun w hw => ⟨pt_at (b := q1) (cs := [.bool b1, v1]) (T := TIt) (by (repeat (first | apply List.Mem.head | apply List.Mem.tail)); first | done | fail) hw, pt_at (b := q) (cs := [.bool b2, v2]) (T := TIt) (by (repeat (first | apply List.Mem.head | apply List.Mem.tail)); first | done | fail) hw⟩) ?_
    refine t1 6 ?_
    refine srz ?_
    refine nl ?_
    refine te (fun w hw => ⟨pt_at (b := q1) (cs := [.bool b1, v1]) (T := TIt) (by (repeat (first | apply List.Mem.head | apply List.Mem.tail)); first | done | fail) hw, pt_at (b := q) (cs := [.bool b2, v2]) (T := TIt) (by (repeat (first | apply List.Mem.head | apply List.Mem.tail)); first | done | fail) hw⟩) ?_
    refine t0 ?_
    repeat' first|refine xc ?_|refine rt ?_
    exact rca1 (cs := [.bool (decide (z < 0)), o2]) (vs := [.bool (decide (z < 0)), o2]) (T := TIt) ⟨o2, rfl, ho2, rfl⟩
end Go.Art
set_option linter.unusedSimpArgs false
set_option linter.unusedVariables false
namespace Go.Art
open Go Go.Proofs Go.RowKit
def FB (q : Rat) (B : Nat) : Prop := (dg q.num.natAbs).length ≤ B ∧ (dg q.den).length ≤ B
theorem FB.le {q : Rat} {B C : Nat} (h : FB q B) (k : B ≤ C) : FB q C := ⟨Nat.le_trans h.1 k, Nat.le_trans h.2 k⟩
theorem sg_mulN (z : Int) (m : Nat) : sg (!(decide (z < 0) == false)) (z.natAbs * m) = z * m := by
  have := sg_mul z (m : Int)
  rwa [show decide ((m : Int) < 0) = false from decide_eq_false (by omega), Int.natAbs_natCast] at this
theorem sg_dz (z : Int) : sg (decide (z < 0)) (nv (dz z)) = z := by
  unfold sg; rw [nv_dg]
  by_cases h : z < 0
  · rw [if_pos (by simpa using h)]; omega
  · rw [if_neg (by simpa using h)]; omega
attribute [local irreducible] Fit pt own ro vw mpc lpt vels rels mow lrc dfr
attribute [local irreducible] lmp lme mit velg relg
theorem FCheck_tr (q : Rat) (vn vd : Value) (hn : vn.oneCell' = true) (hd : vd.oneCell' = true) (hB : FB q 549755813888) : Tr Tryz.prog 115 [rv q vn vd] [vw vn (Us (dg q.num.natAbs)), vw vd (Us (dg q.den))] [] fun u D => u = I 0 ∧ D = [] := by
  have hC := ICheck_tr (decide (q.num < 0)) vn (dz q.num)
  rw [if_neg (icheck_ok q.num)] at hC
  have hK := Check_tr vd (dg q.den)
  rw [if_neg (Tm_top (Tm_dg _))] at hK
  have hl := dg_len_pos q.den_nz
  have hG := NGcd_tr vn vd (dg q.num.natAbs) (dg q.den) (Dg_dg _) (Dg_dg _) hB.1 hB.2
  rw [nv_dg, nv_dg, show Nat.gcd q.num.natAbs q.den = 1 from q.reduced] at hG
  have hM := fun v1 v2 => Cmp_tr v1 v2 (dg 1) [1] (Dg_dg _) (Dg.one (by decide))
  rw [nv_dg, show nv [1] = 1 from rfl, show cmpN 1 1 = 0 by decide] at hM
  obtain ⟨b, hb⟩ : ∃ b, b = decide (q.num < 0) := ⟨_, rfl⟩
  show Tr _ _ [.agg #[.bool (decide (q.num < 0)), vn, vd]] _ _ _
  rw [← hb] at hC ⊢
  unfold dz at hC
  generalize dg q.num.natAbs = l1 at *
  generalize dg q.den = l2 at *
  clear hB hb
  refine Tr.enter env _ Tryz.func115 (by kernel_rfl) rfl Tryz.ntmps115 rfl (by repeat (first | exact has00 | refine has01 ?_)) fun w0 => ?_
  repeat' first|(refine gca ?_; first|(refine ca hC ?_; rintro _ _ ⟨rfl, rfl⟩)|(refine ca hK ?_; rintro _ _ ⟨rfl, rfl⟩)|(refine ca hG ?_; rintro g _ ⟨hg, rfl⟩)|(refine ca one_tr ?_; rintro o _ ⟨ho, rfl⟩)|(refine ca (hM g o) ?_; rintro _ _ ⟨rfl, rfl⟩))|refine bx fun q => ?_|refine lda ?_|(refine wo ?_; first|(refine ao ?_; first|refine oa ?_)|refine oa ?_|refine ld ?_|refine lnm ?_|refine gy ?_|(refine gsi (fun hB => ?_) (fun hB => ?_) <;> try (exfalso; omega)))|(refine gc ?_; first|refine cf ?_)|refine sq ?_|refine rg ?_|refine xc ?_|refine nl ?_|refine sk ?_|refine rt ?_
  exact r1 ⟨rfl, rfl⟩
theorem sumW_tr (v : Value) (hv : v.oneCell' = true) : Tr Tryz.prog 116 [v] [] [] fun u D => u = .agg #[.bool false, v] ∧ D = [] := by
  refine Tr.enter env _ Tryz.func116 (by kernel_rfl) rfl Tryz.ntmps116 rfl (by repeat (first | exact has00 | refine has01 ?_)) fun w0 => ?_
  repeat' first|refine al fun c => ?_|refine bdz ?_|refine srz ?_|(refine wo ?_; first|refine oa ?_)|refine sq ?_|refine rg ?_|refine xc ?_|refine nl ?_|refine rt ?_
  exact rca1 (cs := [.bool false, v]) (vs := [.bool false, v]) (T := TIt) ⟨rfl, rfl⟩
theorem FSum_tr (q r : Rat) (v1 v2 v3 v4 : Value) (h1 : v1.oneCell' = true) (h2 : v2.oneCell' = true) (h3 : v3.oneCell' = true) (h4 : v4.oneCell' = true) (hq : FB q 8589934592) (hr : FB r 8589934592) :
    Tr Tryz.prog 80 [rv q v1 v2, rv r v3 v4] [vw v1 (Us (dg q.num.natAbs)), vw v2 (Us (dg q.den)), vw v3 (Us (dg r.num.natAbs)), vw v4 (Us (dg r.den))] [] (FQ (q + r)) := by
  have hM1 := IMulF_tr (decide (q.num < 0)) false v1 v4 (dg q.num.natAbs) (dg r.den) (Dg_dg _) (Dg_dg _) (by have := hq.1; omega) (by have := hr.2; omega)
  have hM2 := IMulF_tr (decide (r.num < 0)) false v3 v2 (dg r.num.natAbs) (dg q.den) (Dg_dg _) (Dg_dg _) (by have := hr.1; omega) (by have := hq.2; omega)
  have hM3 := NMul_tr v2 v4 (dg q.den) (dg r.den) (Dg_dg _) (Dg_dg _) (by have := hq.2; omega) (by have := hr.2; omega)
  rw [nv_dg, nv_dg] at hM1 hM2 hM3
  rw [sg_mulN] at hM1 hM2
  have l1 : (dz (q.num * r.den)).length ≤ 17179869184 := dz_mul hq.1 (by unfold dz; rw [Int.natAbs_natCast]; exact hr.2)
  have l2 : (dz (r.num * q.den)).length ≤ 17179869184 := dz_mul hr.1 (by unfold dz; rw [Int.natAbs_natCast]; exact hq.2)
  have l3 : (dg (q.den * r.den)).length ≤ 17179869184 := dg_mul_len hq.2 hr.2
  have l4 : (dz (q.num * r.den + r.num * q.den)).length ≤ 17179869185 := by
    unfold dz at *
    exact Nat.le_trans (dg_mono (Int.natAbs_add_le _ _)) (dg_add_len l1 l2)
  have hA := fun o1 o2 g1 g2 => IAdd_tr (q.num * r.den) (r.num * q.den) o1 o2 g1 g2 (by omega) (by omega)
  have hL := fun o d => lowest_tr (decide (q.num * r.den + r.num * q.den < 0)) o d (dz (q.num * r.den + r.num * q.den)) (dg (q.den * r.den)) (Dg_dg _) (Dg_dg _) (by omega) (by omega) (by rw [nv_dg]; exact Nat.mul_ne_zero q.den_nz r.den_nz)
  rw [sg_dz, nv_dg, ← Rat.add_def'] at hL
  obtain ⟨s, hs⟩ : ∃ s, s = q + r := ⟨_, rfl⟩
  rw [← hs] at hL ⊢
  clear hs l1 l2 l3 l4 hq hr
  unfold IR at hM1 hM2 hA
  unfold FQ at hL
  show Tr _ _ [.agg #[.bool (decide (q.num < 0)), v1, v2], .agg #[.bool (decide (r.num < 0)), v3, v4]] _ _ _
  generalize q.num * r.den + r.num * q.den = z3 at *
  generalize q.num * r.den = z1 at *
  generalize r.num * q.den = z2 at *
  generalize dg (q.den * r.den) = l3 at *
  generalize dg q.num.natAbs = lq at *
  generalize dg q.den = lqd at *
  generalize dg r.num.natAbs = lr at *
  generalize dg r.den = lrd at *
  generalize decide (q.num < 0) = b1 at *
  generalize decide (r.num < 0) = b2 at *
  refine Tr.enter env _ Tryz.func80 (by kernel_rfl) rfl Tryz.ntmps80 rfl (by repeat (first | exact has00 | refine has01 ?_)) fun w0 => ?_
  repeat' first|refine bx fun q => ?_|refine al fun c => ?_|(refine wo ?_; first|refine oa ?_)|refine sq ?_|refine rg ?_|refine xc ?_|refine nl ?_
  rename_i q1
  refine cutY (ι := Nat × Value) (fun g => g.2.oneCell' = true) (fun g => [(2, ptr q1), (3, ptr q), (4, ptr c), (6, ptr g.1)]) (fun g => [pt q1 [.bool b1, v1, v2] TRt, pt q [.bool b2, v3, v4] TRt, pt c [.bool false, nS, nS] TRt, pt g.1 [.bool (decide (z3 < 0)), g.2] TIt, own T64 g.2 (Us (dz z3)), vw v2 (Us lqd), vw v4 (Us lrd)]) ?_ ?_
  · rintro ⟨c2, o3⟩ ho3
    dsimp only at ho3 ⊢
    repeat' first|refine sq ?_
    refine rs (fun w => w.heap[q1]? = some (.cells [.bool b1, v1, v2].toArray TRt (0, 0)) ∧ w.heap[q]? = some (.cells [.bool b2, v3, v4].toArray TRt (0, 0)) ∧ w.heap[c2]? = some (.cells [.bool (decide (z3 < 0)), o3].toArray TIt (0, 0))) ?_ (fun w hw => ⟨pt_at (b := q1) (cs := [.bool b1, v1, v2]) (T := TRt) (by (repeat (first | apply List.Mem.head | apply List.Mem.tail)); first | done | fail) hw, pt_at (b := q) (cs := [.bool b2, v3, v4]) (T := TRt) (by (repeat (first | apply List.Mem.head | apply List.Mem.tail)); first | done | fail) hw, pt_at (b := c2) (cs := [.bool (decide (z3 < 0)), o3]) (T := TIt) (by (repeat (first | apply List.Mem.head | apply List.Mem.tail)); first | done | fail) hw⟩)
    refine tk 0 (v := .agg #[.bool (decide (z3 < 0)), o3]) (fun w h => R_loadA (E := env) (vs := [.bool (decide (z3 < 0)), o3]) rfl rfl rfl rfl h.2.2 rfl rfl) ?_
    refine tka 1 ?_
    refine tkl 2 (cs := [.bool b1, v1, v2]) (fun w h => h.1) ?_
    refine tka 3 ?_
    refine tkl 4 (cs := [.bool b2, v3, v4]) (fun w h => h.2.1) ?_
    refine t1 5 ?_
    refine ca hM3 ?_
    rintro d3 _ ⟨hd3, rfl⟩
    refine nl ?_
    refine te (fun w hw => ⟨pt_at (b := q1) (cs := [.bool b1, v1, v2]) (T := TRt) (by (repeat (first | apply List.Mem.head | apply List.Mem.tail)); first | done | fail) hw, pt_at (b := q) (cs := [.bool b2, v3, v4]) (T := TRt) (by (repeat (first | apply List.Mem.head | apply List.Mem.tail)); first | done | fail) hw, pt_at (b := c2) (cs := [.bool (decide (z3 < 0)), o3]) (T := TIt) (by (repeat (first | apply List.Mem.head | apply List.Mem.tail)); first | done | fail) hw⟩) ?_
    refine t1 6 ?_
    refine ca (hL o3 d3) ?_
    rintro _ _ ⟨vn, vd, rfl, hvn, hvd, rfl⟩
    refine nl ?_
    refine te (fun w hw => ⟨pt_at (b := q1) (cs := [.bool b1, v1, v2]) (T := TRt) (by (repeat (first | apply List.Mem.head | apply List.Mem.tail)); first | done | fail) hw, pt_at (b := q) (cs := [.bool b2, v3, v4]) (T := TRt) (by (repeat (first | apply List.Mem.head | apply List.Mem.tail)); first | done | fail) hw, pt_at (b := c2) (cs := [.bool (decide (z3 < 0)), o3]) (T := TIt) (by (repeat (first | apply List.Mem.head | apply List.Mem.tail)); first | done | fail) hw⟩) ?_
    refine t1 7 ?_
    refine srz ?_
    refine nl ?_
    refine te (fun w hw => ⟨pt_at (b := q1) (cs := [.bool b1, v1, v2]) (T := TRt) (by (repeat (first | apply List.Mem.head | apply List.Mem.tail)); first | done | fail) hw, pt_at (b := q) (cs := [.bool b2, v3, v4]) (T := TRt) (by (repeat (first | apply List.Mem.head | apply List.Mem.tail)); first | done | fail) hw, pt_at (b := c2) (cs := [.bool (decide (z3 < 0)), o3]) (T := TIt) (by (repeat (first | apply List.Mem.head | apply List.Mem.tail)); first | done | fail) hw⟩) ?_
    refine t0 ?_
    repeat' first|refine xc ?_|refine rt ?_
    exact rca1 (cs := [.bool (decide (s.num < 0)), vn, vd]) (vs := [.bool (decide (s.num < 0)), vn, vd]) (T := TRt) ⟨vn, vd, rfl, hvn, hvd, rfl⟩
  · intro b' kb
    refine rs (fun w => w.heap[q1]? = some (.cells [.bool b1, v1, v2].toArray TRt (0, 0)) ∧ w.heap[q]? = some (.cells [.bool b2, v3, v4].toArray TRt (0, 0))) ?_ (fun w hw => ⟨pt_at (b := q1) (cs := [.bool b1, v1, v2]) (T := TRt) (by (repeat (first | apply List.Mem.head | apply List.Mem.tail)); first | done | fail) hw, pt_at (b := q) (cs := [.bool b2, v3, v4]) (T := TRt) (by (repeat (first | apply List.Mem.head | apply List.Mem.tail)); first | done | fail) hw⟩)
    refine tka 0 ?_
    refine tk 1 (v := .agg #[.bool b1, v1]) (fun w h => R_loadA (E := env) (vs := [.bool b1, v1]) rfl rfl rfl rfl h.1 rfl rfl) ?_
    refine tka 2 ?_
    refine tka 3 ?_
    refine tkl 4 (cs := [.bool b2, v3, v4]) (fun w h => h.2) ?_
    refine tka 7 ?_
    refine tk 8 (v := .agg #[.bool b2, v3]) (fun w h => R_loadA (E := env) (vs := [.bool b2, v3]) rfl rfl rfl rfl h.2 rfl rfl) ?_
    refine tka 9 ?_
    refine tka 10 ?_
    refine tkl 11 (cs := [.bool b1, v1, v2]) (fun w h => h.1) ?_
    refine t2 5 15 ?_ ?_
    · refine cav (cap := #[]) (vs := [v4]) (sumW_tr v4 h4) ?_
      rintro _ _ ⟨rfl, rfl⟩
      refine nl ?_
      refine te (fun w hw => ⟨pt_at (b := q1) (cs := [.bool b1, v1, v2]) (T := TRt) (by (repeat (first | apply List.Mem.head | apply List.Mem.tail)); first | done | fail) hw, pt_at (b := q) (cs := [.bool b2, v3, v4]) (T := TRt) (by (repeat (first | apply List.Mem.head | apply List.Mem.tail)); first | done | fail) hw⟩) ?_
      refine t2 6 15 ?_ ?_
      · refine ca hM1 ?_
        rintro _ _ ⟨o1, rfl, ho1, rfl⟩
        refine nl ?_
        refine te (fun w hw => ⟨pt_at (b := q1) (cs := [.bool b1, v1, v2]) (T := TRt) (by (repeat (first | apply List.Mem.head | apply List.Mem.tail)); first | done | fail) hw, pt_at (b := q) (cs := [.bool b2, v3, v4]) (T := TRt) (by (repeat (first | apply List.Mem.head | apply List.Mem.tail)); first | done | fail) hw⟩) ?_
        refine t2 12 15 ?_ ?_
        · refine cav (cap := #[]) (vs := [v2]) (sumW_tr v2 h2) ?_
          rintro _ _ ⟨rfl, rfl⟩
          refine nl ?_
          refine te (fun w hw => ⟨pt_at (b := q1) (cs := [.bool b1, v1, v2]) (T := TRt) (by (repeat (first | apply List.Mem.head | apply List.Mem.tail)); first | done | fail) hw, pt_at (b := q) (cs := [.bool b2, v3, v4]) (T := TRt) (by (repeat (first | apply List.Mem.head | apply List.Mem.tail)); first | done | fail) hw⟩) ?_
          refine t2 13 15 ?_ ?_
          · refine ca hM2 ?_
            rintro _ _ ⟨o2, rfl, ho2, rfl⟩
            refine nl ?_
            refine te (fun w hw => ⟨pt_at (b := q1) (cs := [.bool b1, v1, v2]) (T := TRt) (by (repeat (first | apply List.Mem.head | apply List.Mem.tail)); first | done | fail) hw, pt_at (b := q) (cs := [.bool b2, v3, v4]) (T := TRt) (by (repeat (first | apply List.Mem.head | apply List.Mem.tail)); first | done | fail) hw⟩) ?_
            refine t2 14 15 ?_ ?_
            · refine ca (hA o1 o2 ho1 ho2) ?_
              rintro _ _ ⟨o3, rfl, ho3, rfl⟩
              refine nl ?_
              refine te (fun w hw => ⟨pt_at (b := q1) (cs := [.bool b1, v1, v2]) (T := TRt) (by (repeat (first | apply List.Mem.head | apply List.Mem.tail)); first | done | fail) hw, pt_at (b := q) (cs := [.bool b2, v3, v4]) (T := TRt) (by (repeat (first | apply List.Mem.head | apply List.Mem.tail)); first | done | fail) hw⟩) ?_
              refine t1 15 ?_
              refine al fun c2 => ?_
              refine nl ?_
              refine te (fun w hw => ⟨pt_at (b := q1) (cs := [.bool b1, v1, v2]) (T := TRt) (by (repeat (first | apply List.Mem.head | apply List.Mem.tail)); first | done | fail) hw, pt_at (b := q) (cs := [.bool b2, v3, v4]) (T := TRt) (by (repeat (first | apply List.Mem.head | apply List.Mem.tail)); first | done | fail) hw⟩) ?_
              refine t1 16 ?_
              refine srz ?_
              refine nl ?_
              refine te (fun w hw => ⟨pt_at (b := q1) (cs := [.bool b1, v1, v2]) (T := TRt) (by (repeat (first | apply List.Mem.head | apply List.Mem.tail)); first | done | fail) hw, pt_at (b := q) (cs := [.bool b2, v3, v4]) (T := TRt) (by (repeat (first | apply List.Mem.head | apply List.Mem.tail)); first | done | fail) hw⟩) ?_
              refine t0 ?_
              repeat' first|refine xc ?_
              exact kb (c2, o3) ho3 _ _ (by (repeat (refine Sub.cons rfl (by first | rfl | go_num) ?_)); exact Sub.nil) (by first | apply Fit.all | ((repeat (first | (apply Fit.nilN; (repeat (first | apply nrm_nil | apply nrm_cons)); try apply nrm_rfl) | (apply Fit.cons; focus ((repeat (first | apply Tk.here | apply Tk.there)); first | done | fail)))); first | done | fail))
            · refine al fun c2 => ?_
              refine nl ?_
              refine te (fun w hw => ⟨pt_at (b := q1) (cs := [.bool b1, v1, v2]) (T := TRt) (by (repeat (first | apply List.Mem.head | apply List.Mem.tail)); first | done | fail) hw, pt_at (b := q) (cs := [.bool b2, v3, v4]) (T := TRt) (by (repeat (first | apply List.Mem.head | apply List.Mem.tail)); first | done | fail) hw⟩) ?_
              refine t1 14 ?_
              refine ca (hA o1 o2 ho1 ho2) ?_
              rintro _ _ ⟨o3, rfl, ho3, rfl⟩
              refine nl ?_
              refine te (fun w hw => ⟨pt_at (b := q1) (cs := [.bool b1, v1, v2]) (T := TRt) (by (repeat (first | apply List.Mem.head | apply List.Mem.tail)); first | done | fail) hw, pt_at (b := q) (cs := [.bool b2, v3, v4]) (T := TRt) (by (repeat (first | apply List.Mem.head | apply List.Mem.tail)); first | done | fail) hw⟩) ?_
              refine t1 16 ?_
              refine srz ?_
              refine nl ?_
              refine te (fun w hw => ⟨pt_at (b := q1) (cs := [.bool b1, v1, v2]) (T := TRt) (by (repeat (first | apply List.Mem.head | apply List.Mem.tail)); first | done | fail) hw, pt_at (b := q) (cs := [.bool b2, v3, v4]) (T := TRt) (by (repeat (first | apply List.Mem.head | apply List.Mem.tail)); first | done | fail) hw⟩) ?_
              refine t0 ?_
              repeat' first|refine xc ?_
              exact kb (c2, o3) ho3 _ _ (by (repeat (refine Sub.cons rfl (by first | rfl | go_num) ?_)); exact Sub.nil) (by first | apply Fit.all | ((repeat (first | (apply Fit.nilN; (repeat (first | apply nrm_nil | apply nrm_cons)); try apply nrm_rfl) | (apply Fit.cons; focus ((repeat (first | apply Tk.here | apply Tk.there)); first | done | fail)))); first | done | fail))
          · refine al fun c2 => ?_
            refine nl ?_
            refine te (fun w hw => ⟨pt_at (b := q1) (cs := [.bool b1, v1, v2]) (T := TRt) (by (repeat (first | apply List.Mem.head | apply List.Mem.tail)); first | done | fail) hw, pt_at (b := q) (cs := [.bool b2, v3, v4]) (T := TRt) (by (repeat (first | apply List.Mem.head | apply List.Mem.tail)); first | done | fail) hw⟩) ?_
            refine t1 13 ?_
            refine ca hM2 ?_
            rintro _ _ ⟨o2, rfl, ho2, rfl⟩
            refine nl ?_
            refine te (fun w hw => ⟨pt_at (b := q1) (cs := [.bool b1, v1, v2]) (T := TRt) (by (repeat (first | apply List.Mem.head | apply List.Mem.tail)); first | done | fail) hw, pt_at (b := q) (cs := [.bool b2, v3, v4]) (T := TRt) (by (repeat (first | apply List.Mem.head | apply List.Mem.tail)); first | done | fail) hw⟩) ?_
            refine t1 14 ?_
            refine ca (hA o1 o2 ho1 ho2) ?_
            rintro _ _ ⟨o3, rfl, ho3, rfl⟩
            refine nl ?_
            refine te (fun w hw => ⟨pt_at (b := q1) (cs := [.bool b1, v1, v2]) (T := TRt) (by (repeat (first | apply List.Mem.head | apply List.Mem.tail)); first | done | fail) hw, pt_at (b := q) (cs := [.bool b2, v3, v4]) (T := TRt) (by (repeat (first | apply List.Mem.head | apply List.Mem.tail)); first | done | fail) hw⟩) ?_
            refine t1 16 ?_
            refine srz ?_
            refine nl ?_
            refine te (fun w hw => ⟨pt_at (b := q1) (cs := [.bool b1, v1, v2]) (T := TRt) (by (repeat (first | apply List.Mem.head | apply List.Mem.tail)); first | done | fail) hw, pt_at (b := q) (cs := [.bool b2, v3, v4]) (T := TRt) (by (repeat (first | apply List.Mem.head | apply List.Mem.tail)); first | done | fail) hw⟩) ?_
            refine t0 ?_
            repeat' first|refine xc ?_
            exact kb (c2, o3) ho3 _ _ (by (repeat (refine Sub.cons rfl (by first | rfl | go_num) ?_)); exact Sub.nil) (by first | apply Fit.all | ((repeat (first | (apply Fit.nilN; (repeat (first | apply nrm_nil | apply nrm_cons)); try apply nrm_rfl) | (apply Fit.cons; focus ((repeat (first | apply Tk.here | apply Tk.there)); first | done | fail)))); first | done | fail))
        · refine al fun c2 => ?_
          refine nl ?_
          refine te (fun w hw => ⟨pt_at (b := q1) (cs := [.bool b1, v1, v2]) (T := TRt) (by (repeat (first | apply List.Mem.head | apply List.Mem.tail)); first | done | fail) hw, pt_at (b := q) (cs := [.bool b2, v3, v4]) (T := TRt) (by (repeat (first | apply List.Mem.head | apply List.Mem.tail)); first | done | fail) hw⟩) ?_
          refine t1 12 ?_
          refine cav (cap := #[]) (vs := [v2]) (sumW_tr v2 h2) ?_
          rintro _ _ ⟨rfl, rfl⟩
          refine nl ?_
          refine te (fun w hw => ⟨pt_at (b := q1) (cs := [.bool b1, v1, v2]) (T := TRt) (by (repeat (first | apply List.Mem.head | apply List.Mem.tail)); first | done | fail) hw, pt_at (b := q) (cs := [.bool b2, v3, v4]) (T := TRt) (by (repeat (first | apply List.Mem.head | apply List.Mem.tail)); first | done | fail) hw⟩) ?_
          refine t1 13 ?_
          refine ca hM2 ?_
          rintro _ _ ⟨o2, rfl, ho2, rfl⟩
          refine nl ?_
          refine te (fun w hw => ⟨pt_at (b := q1) (cs := [.bool b1, v1, v2]) (T := TRt) (by (repeat (first | apply List.Mem.head | apply List.Mem.tail)); first | done | fail) hw, pt_at (b := q) (cs := [.bool b2, v3, v4]) (T := TRt) (by (repeat (first | apply List.Mem.head | apply List.Mem.tail)); first | done | fail) hw⟩) ?_
          refine t1 14 ?_
          refine ca (hA o1 o2 ho1 ho2) ?_
          rintro _ _ ⟨o3, rfl, ho3, rfl⟩
          refine nl ?_
          refine te (fun w hw => ⟨pt_at (b := q1) (cs := [.bool b1, v1, v2]) (T := TRt) (by (repeat (first | apply List.Mem.head | apply List.Mem.tail)); first | done | fail) hw, pt_at (b := q) (cs := [.bool b2, v3, v4]) (T := TRt) (by (repeat (first | apply List.Mem.head | apply List.Mem.tail)); first | done | fail) hw⟩) ?_
          refine t1 16 ?_
          refine srz ?_
          refine nl ?_
          refine te (fun w hw => ⟨pt_at (b := q1) (cs := [.bool b1, v1, v2]) (T := TRt) (by (repeat (first | apply List.Mem.head | apply List.Mem.tail)); first | done | fail) hw, pt_at (b := q) (cs := [.bool b2, v3, v4]) (T := TRt) (by (repeat (first | apply List.Mem.head | apply List.Mem.tail)); first | done | fail) hw⟩) ?_
          refine t0 ?_
          repeat' first|refine xc ?_
          exact kb (c2, o3) ho3 _ _ (by (repeat (refine Sub.cons rfl (by first | rfl | go_num) ?_)); exact Sub.nil) (by first | apply Fit.all | ((repeat (first | (apply Fit.nilN; (repeat (first | apply nrm_nil | apply nrm_cons)); try apply nrm_rfl) | (apply Fit.cons; focus ((repeat (first | apply Tk.here | apply Tk.there)); first | done | fail)))); first | done | fail))
      · refine al fun c2 => ?_
        refine nl ?_
        refine te (fun w hw => ⟨pt_at (b := q1) (cs := [.bool b1, v1, v2]) (T := TRt) (by (repeat (first | apply List.Mem.head | apply List.Mem.tail)); first | done | fail) hw, pt_at (b := q) (cs := [.bool b2, v3, v4]) (T := TRt) (by (repeat (first | apply List.Mem.head | apply List.Mem.tail)); first | done | fail) hw⟩) ?_
        refine t1 6 ?_
        refine ca hM1 ?_
        rintro _ _ ⟨o1, rfl, ho1, rfl⟩
        refine nl ?_
        refine te (fun w hw => ⟨pt_at (b := q1) (cs := [.bool b1, v1, v2]) (T := TRt) (by (repeat (first | apply List.Mem.head | apply List.Mem.tail)); first | done | fail) hw, pt_at (b := q) (cs := [.bool b2, v3, v4]) (T := TRt) (by (repeat (first | apply List.Mem.head | apply List.Mem.tail)); first | done | fail) hw⟩) ?_
        refine t1 12 ?_
        refine cav (cap := #[]) (vs := [v2]) (sumW_tr v2 h2) ?_
        rintro _ _ ⟨rfl, rfl⟩
        refine nl ?_
        refine te (fun w hw => ⟨pt_at (b := q1) (cs := [.bool b1, v1, v2]) (T := TRt) (by (repeat (first | apply List.Mem.head | apply List.Mem.tail)); first | done | fail) hw, pt_at (b := q) (cs := [.bool b2, v3, v4]) (T := TRt) (by (repeat (first | apply List.Mem.head | apply List.Mem.tail)); first | done | fail) hw⟩) ?_
        refine t1 13 ?_
        refine ca hM2 ?_
        rintro _ _ ⟨o2, rfl, ho2, rfl⟩
        refine nl ?_
        refine te (fun w hw => ⟨pt_at (b := q1) (cs := [.bool b1, v1, v2]) (T := TRt) (by (repeat (first | apply List.Mem.head | apply List.Mem.tail)); first | done | fail) hw, pt_at (b := q) (cs := [.bool b2, v3, v4]) (T := TRt) (by (repeat (first | apply List.Mem.head | apply List.Mem.tail)); first | done | fail) hw⟩) ?_
        refine t1 14 ?_
        refine ca (hA o1 o2 ho1 ho2) ?_
        rintro _ _ ⟨o3, rfl, ho3, rfl⟩
        refine nl ?_
        refine te (fun w hw => ⟨pt_at (b := q1) (cs := [.bool b1, v1, v2]) (T := TRt) (by (repeat (first | apply List.Mem.head | apply List.Mem.tail)); first | done | fail) hw, pt_at (b := q) (cs := [.bool b2, v3, v4]) (T := TRt) (by (repeat (first | apply List.Mem.head | apply List.Mem.tail)); first | done | fail) hw⟩) ?_
        refine t1 16 ?_
        refine srz ?_
        refine nl ?_
        refine te (fun w hw => ⟨pt_at (b := q1) (cs := [.bool b1, v1, v2]) (T := TRt) (by (repeat (first | apply List.Mem.head | apply List.Mem.tail)); first | done | fail) hw, pt_at (b := q) (cs := [.bool b2, v3, v4]) (T := TRt) (by (repeat (first | apply List.Mem.head | apply List.Mem.tail)); first | done | fail) hw⟩) ?_
        refine t0 ?_
        repeat' first|refine xc ?_
        exact kb (c2, o3) ho3 _ _ (by (repeat (refine Sub.cons rfl (by first | rfl | go_num) ?_)); exact Sub.nil) (by first | apply Fit.all | ((repeat (first | (apply Fit.nilN; (repeat (first | apply nrm_nil | apply nrm_cons)); try apply nrm_rfl) | (apply Fit.cons; focus ((repeat (first | apply Tk.here | apply Tk.there)); first | done | fail)))); first | done | fail))
    · refine al fun c2 => ?_
      refine nl ?_
      refine te (fun w hw => ⟨pt_at (b := q1) (cs := [.bool b1, v1, v2]) (T := TRt) (by (repeat (first | apply List.Mem.head | apply List.Mem.tail)); first | done | fail) hw, pt_at (b := q) (cs := [.bool b2, v3, v4]) (T := TRt) (by (repeat (first | apply List.Mem.head | apply List.Mem.tail)); first | done | fail) hw⟩) ?_
      refine t1 5 ?_
      refine cav (cap := #[]) (vs := [v4]) (sumW_tr v4 h4) ?_
      rintro _ _ ⟨rfl, rfl⟩
      refine nl ?_
      refine te (fun w hw => ⟨pt_at (b := q1) (cs := [.bool b1, v1, v2]) (T := TRt) (by (repeat (first | apply List.Mem.head | apply List.Mem.tail)); first | done | fail) hw, pt_at (b := q) (cs := [.bool b2, v3, v4]) (T := TRt) (by (repeat (first | apply List.Mem.head | apply List.Mem.tail)); first | done | fail) hw⟩) ?_
      refine t1 6 ?_
      refine ca hM1 ?_
      rintro _ _ ⟨o1, rfl, ho1, rfl⟩
      refine nl ?_
      refine te (fun w hw => ⟨pt_at (b := q1) (cs := [.bool b1, v1, v2]) (T := TRt) (by (repeat (first | apply List.Mem.head | apply List.Mem.tail)); first | done | fail) hw, pt_at (b := q) (cs := [.bool b2, v3, v4]) (T := TRt) (by (repeat (first | apply List.Mem.head | apply List.Mem.tail)); first | done | fail) hw⟩) ?_
      refine t1 12 ?_
      refine cav (cap := #[]) (vs := [v2]) (sumW_tr v2 h2) ?_
      rintro _ _ ⟨rfl, rfl⟩
      refine nl ?_
      refine te (fun w hw => ⟨pt_at (b := q1) (cs := [.bool b1, v1, v2]) (T := TRt) (by (repeat (first | apply List.Mem.head | apply List.Mem.tail)); first | done | fail) hw, pt_at (b := q) (cs := [.bool b2, v3, v4]) (T := TRt) (by (repeat (first | apply List.Mem.head | apply List.Mem.tail)); first | done | fail) hw⟩) ?_
      refine t1 13 ?_
      refine ca hM2 ?_
      rintro _ _ ⟨o2, rfl, ho2, rfl⟩
      refine nl ?_
      refine te (fun w hw => ⟨pt_at (b := q1) (cs := [.bool b1, v1, v2]) (T := TRt) (by (repeat (first | apply List.Mem.head | apply List.Mem.tail)); first | done | fail) hw, pt_at (b := q) (cs := [.bool b2, v3, v4]) (T := TRt) (by (repeat (first | apply List.Mem.head | apply List.Mem.tail)); first | done | fail) hw⟩) ?_
      refine t1 14 ?_
      refine ca (hA o1 o2 ho1 ho2) ?_
      rintro _ _ ⟨o3, rfl, ho3, rfl⟩
      refine nl ?_
      refine te (fun w hw => ⟨pt_at (b := q1) (cs := [.bool b1, v1, v2]) (T := TRt) (by (repeat (first | apply List.Mem.head | apply List.Mem.tail)); first | done | fail) hw, pt_at (b := q) (cs := [.bool b2, v3, v4]) (T := TRt) (by (repeat (first | apply List.Mem.head | apply List.Mem.tail)); first | done | fail) hw⟩) ?_
      refine t1 16 ?_
      refine srz ?_
      refine nl ?_
      refine te (fun w hw => ⟨pt_at (b := q1) (cs := [.bool b1, v1, v2]) (T := TRt) (by (repeat (first | apply List.Mem.head | apply List.Mem.tail)); first | done | fail) hw, pt_at (b := q) (cs := [.bool b2, v3, v4]) (T := TRt) (by (repeat (first | apply List.Mem.head | apply List.Mem.tail)); first | done | fail) hw⟩) ?_
      refine t0 ?_
      repeat' first|refine xc ?_
      exact kb (c2, o3) ho3 _ _ (by (repeat (refine Sub.cons rfl (by first | rfl | go_num) ?_)); exact Sub.nil) (by first | apply Fit.all | ((repeat (first | (apply Fit.nilN; (repeat (first | apply nrm_nil | apply nrm_cons)); try apply nrm_rfl) | (apply Fit.cons; focus ((repeat (first | apply Tk.here | apply Tk.there)); first | done | fail)))); first | done | fail))
end Go.Art
set_option linter.unusedSimpArgs false
set_option linter.unusedVariables false
namespace Go.Art
open Go Go.RowKit

def adr (v : Value) (m : Nat) : Addr := (addrAt v 0).add m
theorem adr_add (v : Value) (m o : Nat) : (adr v m).add o = adr v (m + o) := Deep.add_add _ _ _
def SlW (w : World) (v : Value) (n : Nat) (xs : List Value) : Prop :=
  ∃ a cap, v = .slice a n cap ∧ n ≤ cap ∧ cap ≤ maxLen ∧ (0 < n → ∃ x, a = some x) ∧ ∀ i u, xs[i]? = some u → ∃ x, a = some x ∧ w.cell? (x.add i) = some u
theorem SlW.cell {w : World} {v : Value} {n : Nat} {xs : List Value} (h : SlW w v n xs) {i : Nat} {u : Value} (hi : xs[i]? = some u) : w.cell? (adr v i) = some u := by
  obtain ⟨a, cap, rfl, _, _, _, hc⟩ := h
  obtain ⟨x, rfl, hx⟩ := hc i u hi
  show w.cell? ((x.add 0).add i) = _
  rw [Deep.add_add, Nat.zero_add]; exact hx
theorem SlW.len {w : World} {v : Value} {n : Nat} {xs : List Value} (h : SlW w v n xs) : n ≤ 9223372036854775807 := by
  obtain ⟨_, cap, _, h1, h2, _⟩ := h
  unfold maxLen at h2; omega
theorem add_block (x : Addr) (i : Nat) : (x.add i).block = x.block := by unfold Addr.add; split <;> rfl
def vwf (v : Value) (n : Nat) (xs : List Value) : Ch where
  wr := fun _ => False
  rd := fun _ => False
  bd := fun x => xs ≠ [] ∧ v.ownBlock = some x
  P := fun w => SlW w v n xs
  loc := fun {w w'} h hb => by
    obtain ⟨a, cap, rfl, h1, h2, h0, h3⟩ := h
    refine ⟨a, cap, rfl, h1, h2, h0, fun i u hi => ?_⟩
    obtain ⟨x, rfl, hx⟩ := h3 i u hi
    exact ⟨x, rfl, (World.cell?_of_block (by rw [add_block]; exact hb _ (.inr (.inr ⟨by rintro rfl; simp at hi, rfl⟩)))).trans hx⟩
  lt := fun {w b} h hb => by
    rcases hb with hb | hb | ⟨h4, h5⟩
    · exact hb.elim
    · exact hb.elim
    · obtain ⟨a, cap, rfl, h1, h2, h0, h3⟩ := h
      cases xs with
      | nil => exact absurd rfl h4
      | cons u r =>
        obtain ⟨x, rfl, hx⟩ := h3 0 u rfl
        have := World.block_lt_of_cell? w _ hx
        rw [add_block] at this
        simp only [Value.ownBlock, Option.some.injEq] at h5
        rw [← h5]; exact this
instance (v : Value) (n : Nat) (xs : List Value) : Lent (vwf v n xs) := ⟨fun _ => ⟨fun h => h, fun h => h⟩⟩
theorem has_vwf {F : List Ch} {v : Value} {n : Nat} {xs : List Value} (h : vwf v n xs ∈ F) : Has F (vwf v n xs) := ⟨fun _ hw => hw.h _ h, fun _ h => h, fun _ h => h, fun _ hb => ⟨_, h, hb⟩⟩
theorem flat_row : ∀ {rs : List (List Value)} {sz : Nat}, (∀ r ∈ rs, r.length = sz) → ∀ {i : Nat} {r : List Value}, rs[i]? = some r → (rs.flatten.drop (sz * i)).take sz = r
  | [], _, _, i, r, h => by simp at h
  | a :: rs, sz, hl, 0, r, h => by
    simp at h; subst h
    have := hl a (by simp)
    simp [List.take_append, this, List.take_of_length_le]
  | a :: rs, sz, hl, i + 1, r, h => by
    have ha := hl a (by simp)
    have ih := flat_row (rs := rs) (sz := sz) (fun r hr => hl r (by simp [hr])) (i := i) (r := r) (by simpa using h)
    rw [List.flatten_cons, show sz * (i + 1) = a.length + sz * i by rw [ha, Nat.mul_succ]; omega, List.drop_append, List.drop_eq_nil_of_le (by omega), List.nil_append, Nat.add_sub_cancel_left]
    exact ih
theorem flat_at {rs : List (List Value)} {sz i o : Nat} {r : List Value} {u : Value} (hl : ∀ r ∈ rs, r.length = sz) (h : rs[i]? = some r) (ho : r[o]? = some u) : rs.flatten[sz * i + o]? = some u := by
  have h1 := flat_row hl h
  have h2 : ((rs.flatten.drop (sz * i)).take sz)[o]? = some u := by rw [h1]; exact ho
  rw [List.getElem?_take] at h2
  split at h2
  · rwa [List.getElem?_drop] at h2
  · cases h2
section
variable {P : Program} {E : Env P} {n : Sh} {X : Cx} {s : List K} {fr : Fr} {A A' : List Ch} {ops : Array Oper} {rest : List Oper} {d m N sz by_ : Nat} {ty t el : TypeId} {pos : String} {after : Array Edge} {v u z : Value} {x y : Operand} {xs vs : List Value} {dt : TypeDesc} {k1 : IntKind} {w : World} {fs : Array Field} {f : Nat} {fld : Field}
theorem R_idxW {i : Int} (ht : lk E.und t = some (.slice el)) (he : lk E.inf el = some (z, sz, by_)) (hx : ev fr x = some v) (hy : ev fr y = some (.int k1 i)) (hS : SlW w v N xs) (h : 0 ≤ i ∧ i < N) : OpV P n fr (.indexAddr t x y) ty w (.pointer (some (adr v (sz * i.toNat)))) w := ⟨fun b hb _ _ _ _ => by
  obtain ⟨a, cap, rfl, h1, h2, h0, hc⟩ := hS
  obtain ⟨inf, hi, _, hsz, _⟩ := E.info he
  obtain ⟨ad, rfl⟩ := h0 (by omega)
  simp only [execOp, hb.ev hx, hb.ev hy]
  simp [Instr.indexAt, asIntOf, run_underlying (P := P) (E.un ht) w, h, sizeOf, typeInfo, hi, hsz, adr, addrAt, Deep.add_add, Nat.mul_comm]⟩
theorem R_loadW (ht : lk E.und t = some dt) (hg : aggB dt = true) (hi : lk E.inf t = some (z, sz, by_)) (hx : ev fr x = some (.pointer (some (adr v m)))) (hS : SlW w v N xs) (hv : (xs.drop m).take sz = vs) (hl : vs.length = sz) : OpV P n fr (.load t x) ty w (.agg vs.toArray) w := ⟨fun a ha _ _ _ _ => by
  obtain ⟨inf, h1, _, h2, _⟩ := E.info hi
  have h3 := run_loadCells_list (P := P) w (adr v m) vs (fun j u hm => by
    rw [adr_add]
    refine hS.cell ?_
    rw [← hv, List.getElem?_take] at hm
    split at hm
    · rw [List.getElem?_drop] at hm; simpa using hm
    · cases hm)
  rw [hl] at h3
  simp only [execOp, ha.ev hx]
  simp [Instr.loadAt, Instr.sureAddr, loadVar, aggB_t (w := w) ht hg, sizeOf, typeInfo, h1, h2, h3]⟩
end
end Go.Art
set_option linter.unusedSimpArgs false
set_option linter.unusedVariables false
namespace Go.Art
open Go Go.Proofs Go.RowKit
def OwnV (w : World) (e : TypeId) (sz : Nat) (v : Value) (n : Nat) (xs : List Value) : Prop :=
  (v = .slice none 0 0 ∧ n = 0 ∧ xs = []) ∨
  ∃ b cap cur, v = .slice (some ⟨b, 0, none⟩) n cap ∧ w.heap[b]? = some (.cells cur e (0, 0)) ∧ n ≤ cap ∧ cap ≤ maxLen ∧ cur.size = cap * sz ∧ xs.length = n * sz ∧ cur.toList.take (n * sz) = xs
theorem OwnV.blt {w : World} {e : TypeId} {sz n : Nat} {v : Value} {xs : List Value} (h : OwnV w e sz v n xs) {b : Nat} (hb : v.ownBlock = some b) : b < w.heap.size := by
  rcases h with ⟨rfl, _⟩ | ⟨b', cap, cur, rfl, h2, _⟩
  · cases hb
  · cases hb; exact lt_of_heap h2
theorem OwnV.keep {w w' : World} {e : TypeId} {sz n : Nat} {v : Value} {xs : List Value} (h : OwnV w e sz v n xs) (hb : ∀ b, v.ownBlock = some b → w'.heap[b]? = w.heap[b]?) : OwnV w' e sz v n xs := by
  rcases h with h | ⟨b, cap, cur, rfl, h2, h3⟩
  · exact .inl h
  · exact .inr ⟨b, cap, cur, rfl, (hb b rfl).trans h2, h3⟩
theorem OwnV.slw {w : World} {e : TypeId} {sz n : Nat} {v : Value} {xs : List Value} (h : OwnV w e sz v n xs) : SlW w v n xs := by
  rcases h with ⟨rfl, rfl, rfl⟩ | ⟨b, cap, cur, rfl, hb, h2, h3, h4, h5, h6⟩
  · exact ⟨none, 0, rfl, Nat.le_refl _, by unfold maxLen; omega, fun h => absurd h (Nat.lt_irrefl _), fun i u h => by simp at h⟩
  · refine ⟨some ⟨b, 0, none⟩, cap, rfl, h2, h3, fun _ => ⟨_, rfl⟩, fun i u hi => ⟨_, rfl, ?_⟩⟩
    rw [Addr.add_lit, Nat.zero_add, cell_of_row w b i cur e (0, 0) hb]
    rw [← h6, List.getElem?_take] at hi
    split at hi
    · simpa using hi
    · cases hi
def oww (e : TypeId) (sz : Nat) (v : Value) (n : Nat) (xs : List Value) : Ch where
  wr := fun x => v.ownBlock = some x
  rd := fun _ => False
  bd := fun _ => False
  P := fun w => OwnV w e sz v n xs
  loc := fun h hb => h.keep fun b h => hb b (.inl h)
  lt := fun h hb => by rcases hb with hb | hb | hb; exact h.blt hb; exact hb.elim; exact hb.elim
instance (e : TypeId) (sz : Nat) (v : Value) (n : Nat) (xs : List Value) : NoB (oww e sz v n xs) := ⟨fun _ h => h⟩
theorem has_oww {F : List Ch} {e : TypeId} {sz : Nat} {v : Value} {n : Nat} {xs : List Value} (h : oww e sz v n xs ∈ F) : Has F (vwf v n xs) :=
  ⟨fun _ hw => OwnV.slw (hw.h (oww e sz v n xs) h), fun _ h => h, fun _ h => h, fun b hb => ⟨_, h, by rcases hb with hb | hb | hb; exact hb.elim; exact hb.elim; exact .inl hb.2⟩⟩
structure Wid (sz : Nat) (vs : List Value) (xs : List Value) : Prop where
  eq : vs.flatMap (fun v => v.cells.toList) = xs
  all : ∀ v ∈ vs, v.cells.size = sz
theorem Wid.nil {sz : Nat} : Wid sz [] [] := ⟨rfl, fun _ h => nomatch h⟩
theorem Wid.agg {sz : Nat} {cs : List Value} {vs xs : List Value} (hs : cs.length = sz) (k : Wid sz vs xs) : Wid sz (.agg cs.toArray :: vs) (cs ++ xs) := ⟨by rw [List.flatMap_cons, k.eq]; rfl, fun v hv => by
  rcases List.mem_cons.1 hv with rfl | hv
  · exact hs
  · exact k.all v hv⟩
theorem Wid.len {sz : Nat} {vs xs : List Value} (h : Wid sz vs xs) : xs.length = vs.length * sz := by
  obtain ⟨h1, h2⟩ := h
  subst h1
  induction vs with
  | nil => simp
  | cons v r ih => rw [List.flatMap_cons, List.length_append, ih (fun u hu => h2 u (by simp [hu])), List.length_cons, Nat.succ_mul, Array.length_toList, h2 v (by simp)]; omega
theorem fill_wide {sz : Nat} : ∀ (vs : List Value) (j : Nat) (cells : Array Value), (∀ v ∈ vs, v.cells.size = sz) → (j + vs.length) * sz ≤ cells.size →
    Instr.fill (fun i => some (i * sz, sz)) cells (idxP j vs) = some (cells.toList.take (j * sz) ++ vs.flatMap (fun v => v.cells.toList) ++ cells.toList.drop ((j + vs.length) * sz)).toArray
  | [], j, cells, _, _ => by simp [idxP, Instr.fill]
  | v :: r, j, cells, h1, hl => by
    have hv := h1 v (by simp)
    have hle : (j + (r.length + 1)) * sz = j * sz + sz + r.length * sz := by rw [Nat.add_mul, Nat.succ_mul]; omega
    simp only [List.length_cons] at hl
    rw [hle] at hl
    have hb : ¬ (j * sz + sz > cells.size) := by omega
    simp only [idxP, Instr.fill, hv]
    simp only [ne_eq, not_true_eq_false, decide_false, Bool.false_or, decide_eq_true_eq, hb, if_false]
    have hcl : v.cells.toList.length = sz := by rw [Array.length_toList]; exact hv
    have e : (v.cells.zipIdx.foldl (fun cs (x : Value × Nat) => cs.setIfInBounds (j * sz + x.2) x.1) cells) = (cells.toList.take (j * sz) ++ v.cells.toList ++ cells.toList.drop (j * sz + sz)).toArray := by
      have := foldl_set v.cells.toList (j * sz) 0 cells (by rw [hcl]; omega)
      simp only [Nat.add_zero] at this
      rw [hcl] at this
      rw [← Array.foldl_toList, Array.toList_zipIdx]
      exact this
    show Instr.fill _ (v.cells.zipIdx.foldl (fun cs (x : Value × Nat) => cs.setIfInBounds (j * sz + x.2) x.1) cells) _ = _
    have hct : cells.toList.length = cells.size := Array.length_toList
    have hrec := fill_wide r (j + 1) (cells.toList.take (j * sz) ++ v.cells.toList ++ cells.toList.drop (j * sz + sz)).toArray (fun u hu => h1 u (by simp [hu])) (by
      have : (j + 1 + r.length) * sz = j * sz + sz + r.length * sz := by rw [Nat.add_mul, Nat.succ_mul]
      rw [this, List.size_toArray]
      simp only [List.length_append, List.length_take, List.length_drop, hcl, hct]
      omega)
    rw [e, hrec]
    congr 2
    have e1 : (j + 1) * sz = j * sz + sz := Nat.succ_mul _ _
    have e2 : (j + 1 + r.length) * sz = j * sz + sz + r.length * sz := by rw [Nat.add_mul, Nat.succ_mul]
    have hl1 : (cells.toList.take (j * sz) ++ v.cells.toList).length = j * sz + sz := by simp only [List.length_append, List.length_take, hcl, hct]; omega
    rw [List.flatMap_cons, List.length_cons, hle, e1, e2]
    simp only [List.toList_toArray]
    rw [List.take_left' hl1, List.drop_append, List.drop_eq_nil_of_le (by omega), List.nil_append, hl1, List.drop_drop, Nat.add_sub_cancel_left]
    simp only [List.append_assoc]
section
variable {P : Program} {E : Env P} {n : Sh} {X : Cx} {s : List K} {fr : Fr} {A A' : List Ch} {ops : Array Oper} {rest : List Oper} {d m N M sz by_ : Nat} {ty t el e : TypeId} {pos : String} {after : Array Edge} {v u z : Value} {x y : Operand} {xs ys vs : List Value} {dt : TypeDesc} {k1 : IntKind} {w : World}
theorem has_len {F : List Ch} (h : Has F (vwf v N xs)) (w : World) (hw : Sat F w) : N ≤ 9223372036854775807 := (h.P w hw).len
theorem lnw (k : TO E n X s ops rest ((d, I N) :: fr) A) (hx : ev fr x = some v := by rfl) (hm : Has A (vwf v N xs) := by first | (apply has_vw; (repeat (first | apply List.Mem.head | apply List.Mem.tail)); first | done | fail) | (apply has_own; (repeat (first | apply List.Mem.head | apply List.Mem.tail)); first | done | fail) | (apply has_ro; (repeat (first | apply List.Mem.head | apply List.Mem.tail)); first | done | fail) | apply has_nil | ((with_reducible apply has_el); (focus (first | (apply has_vels; (repeat (first | apply List.Mem.head | apply List.Mem.tail)); first | done | fail) | (apply has_rels; (repeat (first | apply List.Mem.head | apply List.Mem.tail)); first | done | fail))); omega) | (apply has_pt; (repeat (first | apply List.Mem.head | apply List.Mem.tail)); first | done | fail) | (apply has_lpt; (repeat (first | apply List.Mem.head | apply List.Mem.tail)); first | done | fail) | (apply has_vels; (repeat (first | apply List.Mem.head | apply List.Mem.tail)); first | done | fail) | (apply has_rels; (repeat (first | apply List.Mem.head | apply List.Mem.tail)); first | done | fail) | with_reducible assumption | ((with_reducible apply has_elg); (focus (first | (apply has_velg; (repeat (first | apply List.Mem.head | apply List.Mem.tail)); first | done | fail) | (apply has_relg; (repeat (first | apply List.Mem.head | apply List.Mem.tail)); first | done | fail))); omega) | (apply has_velg; (repeat (first | apply List.Mem.head | apply List.Mem.tail)); first | done | fail) | (apply has_relg; (repeat (first | apply List.Mem.head | apply List.Mem.tail)); first | done | fail) | (apply has_vwf; (repeat (first | apply List.Mem.head | apply List.Mem.tail)); first | done | fail) | (apply has_oww; (repeat (first | apply List.Mem.head | apply List.Mem.tail)); first | done | fail)) (ht : lk E.und t = some (.slice el) := by rfl) (hd : Nat.blt d n.n = true := by rfl) :
    TO E n X s ops (⟨some d, .call ⟨.builtin .len, #[x], #[t]⟩, ty, pos, after, none⟩ :: rest) fr A := TO.val (v := I N) (fun w h => ⟨fun a ha _ _ _ _ => by
  obtain ⟨_, cap, rfl, _⟩ := (hm.P w h : SlW w v N xs)
  simp only [execOp, resolve]
  simp [ha.ev hx, invoke, builtin, Builtin.len_, run_underlying (P := P) (E.un ht) w, goInt]⟩) k hd
theorem ixws {i : Int} (k : TO E n X s ops rest ((d, .pointer (some (adr v (sz * i.toNat)))) :: fr) A) (hx : ev fr x = some v := by rfl) (hy : ev fr y = some (.int k1 i) := by rfl) (hm : Has A (vwf v N xs) := by first | (apply has_vw; (repeat (first | apply List.Mem.head | apply List.Mem.tail)); first | done | fail) | (apply has_own; (repeat (first | apply List.Mem.head | apply List.Mem.tail)); first | done | fail) | (apply has_ro; (repeat (first | apply List.Mem.head | apply List.Mem.tail)); first | done | fail) | apply has_nil | ((with_reducible apply has_el); (focus (first | (apply has_vels; (repeat (first | apply List.Mem.head | apply List.Mem.tail)); first | done | fail) | (apply has_rels; (repeat (first | apply List.Mem.head | apply List.Mem.tail)); first | done | fail))); omega) | (apply has_pt; (repeat (first | apply List.Mem.head | apply List.Mem.tail)); first | done | fail) | (apply has_lpt; (repeat (first | apply List.Mem.head | apply List.Mem.tail)); first | done | fail) | (apply has_vels; (repeat (first | apply List.Mem.head | apply List.Mem.tail)); first | done | fail) | (apply has_rels; (repeat (first | apply List.Mem.head | apply List.Mem.tail)); first | done | fail) | with_reducible assumption | ((with_reducible apply has_elg); (focus (first | (apply has_velg; (repeat (first | apply List.Mem.head | apply List.Mem.tail)); first | done | fail) | (apply has_relg; (repeat (first | apply List.Mem.head | apply List.Mem.tail)); first | done | fail))); omega) | (apply has_velg; (repeat (first | apply List.Mem.head | apply List.Mem.tail)); first | done | fail) | (apply has_relg; (repeat (first | apply List.Mem.head | apply List.Mem.tail)); first | done | fail) | (apply has_vwf; (repeat (first | apply List.Mem.head | apply List.Mem.tail)); first | done | fail) | (apply has_oww; (repeat (first | apply List.Mem.head | apply List.Mem.tail)); first | done | fail)) (hb : 0 ≤ i ∧ i < N := by omega)
    (ht : lk E.und t = some (.slice el) := by rfl) (he : lk E.inf el = some (z, sz, by_) := by rfl) (hd : Nat.blt d n.n = true := by rfl) : TO E n X s ops (⟨some d, .indexAddr t x y, ty, pos, after, none⟩ :: rest) fr A := TO.val (fun w h => R_idxW ht he hx hy (hm.P w h) hb) k hd
theorem ldaw (hv : (xs.drop m).take sz = vs) (k : TO E n X s ops rest ((d, .agg vs.toArray) :: fr) A) (hx : ev fr x = some (.pointer (some (adr v m))) := by rfl) (hm : Has A (vwf v N xs) := by first | (apply has_vw; (repeat (first | apply List.Mem.head | apply List.Mem.tail)); first | done | fail) | (apply has_own; (repeat (first | apply List.Mem.head | apply List.Mem.tail)); first | done | fail) | (apply has_ro; (repeat (first | apply List.Mem.head | apply List.Mem.tail)); first | done | fail) | apply has_nil | ((with_reducible apply has_el); (focus (first | (apply has_vels; (repeat (first | apply List.Mem.head | apply List.Mem.tail)); first | done | fail) | (apply has_rels; (repeat (first | apply List.Mem.head | apply List.Mem.tail)); first | done | fail))); omega) | (apply has_pt; (repeat (first | apply List.Mem.head | apply List.Mem.tail)); first | done | fail) | (apply has_lpt; (repeat (first | apply List.Mem.head | apply List.Mem.tail)); first | done | fail) | (apply has_vels; (repeat (first | apply List.Mem.head | apply List.Mem.tail)); first | done | fail) | (apply has_rels; (repeat (first | apply List.Mem.head | apply List.Mem.tail)); first | done | fail) | with_reducible assumption | ((with_reducible apply has_elg); (focus (first | (apply has_velg; (repeat (first | apply List.Mem.head | apply List.Mem.tail)); first | done | fail) | (apply has_relg; (repeat (first | apply List.Mem.head | apply List.Mem.tail)); first | done | fail))); omega) | (apply has_velg; (repeat (first | apply List.Mem.head | apply List.Mem.tail)); first | done | fail) | (apply has_relg; (repeat (first | apply List.Mem.head | apply List.Mem.tail)); first | done | fail) | (apply has_vwf; (repeat (first | apply List.Mem.head | apply List.Mem.tail)); first | done | fail) | (apply has_oww; (repeat (first | apply List.Mem.head | apply List.Mem.tail)); first | done | fail)) (ht : lk E.und t = some dt := by rfl) (hg : aggB dt = true := by rfl) (hi : lk E.inf t = some (z, sz, by_) := by rfl) (hl : vs.length = sz := by rfl) (hd : Nat.blt d n.n = true := by rfl) :
    TO E n X s ops (⟨some d, .load t x, ty, pos, after, none⟩ :: rest) fr A := TO.val (fun w h => R_loadW ht hg hi hx (hm.P w h) hv hl) k hd
theorem slws {parts : List (Nat × Operand)} (k : ∀ g, TO E n X s ops rest ((d, .slice (some ⟨g, 0, none⟩) m m) :: fr) (oww e sz (.slice (some ⟨g, 0, none⟩) m m) m xs :: A)) (hp : parts = idxP 0 (parts.map (·.2)) := by rfl) (hv : evs fr (parts.map (·.2)) = some vs := by rfl)
    (hw : Wid sz vs xs := by (repeat (first | exact Wid.nil | (apply Wid.agg; focus rfl))); first | done | fail) (hk : vs.length = m := by rfl) (hk0 : Nat.blt 0 (m * sz) = true := by rfl) (hkm : Nat.ble (m * sz) 16777216 = true := by rfl) (ht : lk E.und t = some (.slice e) := by rfl) (he : lk E.inf e = some (z, sz, by_) := by rfl) (hd : Nat.blt d n.n = true := by rfl) :
    TO E n X s ops (⟨some d, .buildSlice t m parts.toArray, ty, pos, after, none⟩ :: rest) fr A := ⟨fun w hw' => by
  subst hk
  obtain ⟨inf, hi, hiz, his, _⟩ := E.info he
  have hkm' := Nat.le_of_ble_eq_true hkm
  have hk0' := nblt_lt hk0
  have hwl := hw.len
  refine SO_v hd (w' := w.alloc (.cells xs.toArray e)) ⟨fun a ha' _ _ _ _ => ?_⟩ ((k w.heap.size).run _ (hw'.new (Upd.alloc w _) (.inr ⟨w.heap.size, vs.length, xs.toArray, rfl, heap_alloc_new w _, Nat.le_refl _, ?_, by simp [hwl], hwl, by simp [← hwl]⟩) (by rintro b (h | h | h); (have h : some w.heap.size = some b := h); cases h; exact Nat.le_refl _; exact h.elim; exact h.elim) (fun _ h => h)))
  · have hmap : (parts.map fun (x : Nat × Operand) => (x.1, a.eval x.2)) = idxP 0 vs := by
      have hev := ha'.evs hv
      have gen : ∀ (l : List Operand) (i : Nat), (idxP i l).map (fun (x : Nat × Operand) => (x.1, a.eval x.2)) = idxP i (l.map a.eval) := by
        intro l
        induction l with
        | nil => intro i; rfl
        | cons o r ih => intro i; simp [idxP, ih]
      rw [hp, gen, hev]
    have hfill := fill_wide (sz := sz) vs 0 ((Array.range (vs.length * sz)).map (z.cells[· % z.cells.size]!)) hw.all (by simp)
    rw [hw.eq] at hfill
    have hres : ((List.take (0 * sz) ((Array.range (vs.length * sz)).map (z.cells[· % z.cells.size]!)).toList ++ xs ++ List.drop ((0 + vs.length) * sz) ((Array.range (vs.length * sz)).map (z.cells[· % z.cells.size]!)).toList).toArray) = xs.toArray := by
      rw [List.drop_eq_nil_of_le (by simp)]; simp
    rw [hres] at hfill
    have hn0 : ¬ vs.length * sz = 0 := by omega
    have hn1 : ¬ 2 ^ 24 < vs.length * sz := by omega
    have hn2 : ¬ (vs.length = 0 ∨ sz = 0) := fun h => hn0 (by rcases h with h | h <;> rw [h] <;> simp)
    have hgo : (Instr.buildSlice t vs.length ((parts.toArray.map fun (x : Nat × Operand) => (x.1, a.eval x.2)))).run P w = .ok (.slice (some ⟨w.heap.size, 0, none⟩) vs.length vs.length) (w.alloc (.cells xs.toArray e)) := by
      have hl : ((parts.toArray.map fun (x : Nat × Operand) => (x.1, a.eval x.2))).toList = idxP 0 vs := by simp [hmap]
      simp only [Instr.buildSlice, hl]
      simp [run_underlying (P := P) (E.un ht) w, sizeOf, typeInfo, hi, his, zeroValue, hiz, hn0, hn1, hn2, hfill, newRow, newObj, Sem.run]
    simp only [execOp]
    show Sem.run P (do let v ← Instr.buildSlice t vs.length ((parts.toArray.map fun (x : Nat × Operand) => (x.1, a.eval x.2))); pure (Next.value v)) w = _
    rw [List.map_toArray] at hgo
    simp [hgo]
  · unfold maxLen
    have : vs.length ≤ vs.length * sz := Nat.le_mul_of_pos_right _ (Nat.pos_of_ne_zero fun h => by rw [h] at hk0'; simp at hk0')
    omega⟩
theorem wide_take {c vs : List Value} {m sz L : Nat} (hl : vs.length = sz) (hm : m + sz ≤ L) (hL : L ≤ c.length) : (c.take m ++ vs ++ c.drop (m + sz)).take L = (c.take L).take m ++ vs ++ (c.take L).drop (m + sz) := by
  rw [List.take_append, List.take_of_length_le (by simp; omega), List.take_take, Nat.min_eq_left (by omega), List.drop_take]
  congr 2
  simp; omega
theorem sow (hmN : m + sz ≤ N * sz) (k : TO E n X s ops rest fr (oww e sz v N (xs.take m ++ vs ++ xs.drop (m + sz)) :: A')) (ha : ev fr x = some (.pointer (some (adr v m))) := by rfl) (hm : Tk (oww e sz v N xs) A A' := by (repeat (first | apply Tk.here | apply Tk.there)); first | done | fail) (hx : ev fr y = some (.agg vs.toArray) := by rfl) (hi : lk E.inf t = some (z, sz, by_) := by rfl) (hl : vs.length = sz := by rfl) (hs0 : Nat.blt 0 sz = true := by rfl)
    (h1 : ∀ v ∈ vs, v.oneCell' = true := by simp; first | done | rfl | assumption) : TO E n X s ops (⟨none, .store t x y, ty, pos, after, none⟩ :: rest) fr A := ⟨fun w hw => by
  have hw2 := hw.im hm
  have hs1 := nblt_lt hs0
  have hO : OwnV w e sz v N xs := hw2.mem (List.Mem.head _)
  rcases hO with ⟨_, rfl, _⟩ | ⟨b, cap, cur, rfl, hb, g2, g3, g4, g5, g6⟩
  · rw [Nat.zero_mul] at hmN; omega
  · have hA : adr (.slice (some ⟨b, 0, none⟩) N cap) m = ⟨b, m, none⟩ := by simp [adr, addrAt, Addr.add_lit]
    rw [hA] at ha
    have hle : N * sz ≤ cap * sz := Nat.mul_le_mul_right sz g2
    have hct : cur.toList.length = cur.size := Array.length_toList
    refine SO_storeA (cs := cur.toList) (T := e) hi ha hx hl h1 hb (by omega) fun w' hU hH => k.run w' (hw2.set hU (fun y hy => .inl (by show some b = some y; rw [List.mem_singleton.1 hy])) (.inr ⟨b, cap, _, rfl, hH, g2, g3, ?_, ?_, ?_⟩) (by rintro y (h | h | h); exact .inl h; exact h.elim; exact h.elim) (fun _ h => h))
    · simp only [List.size_toArray, List.length_append, List.length_take, List.length_drop, hct, hl]; omega
    · simp only [List.length_append, List.length_take, List.length_drop, hl, g5]; omega
    · rw [← g6]
      exact wide_take hl hmN (by omega)⟩
theorem madeW (z : Array Value) (n : Nat) : (madeCells z (n * z.size)).toList = (List.replicate n z.toList).flatten := by
  have hlen : ((List.replicate n z.toList).flatten).length = n * z.size := by simp
  refine List.ext_getElem (by rw [hlen]; simp [size_madeCells]) fun i h1 h2 => ?_
  have h3 : i < n * z.size := by rwa [hlen] at h2
  have hz : 0 < z.size := Nat.pos_of_ne_zero fun h => by rw [h] at h3; simp at h3
  have hdiv : i / z.size < n := (Nat.div_lt_iff_lt_mul hz).2 h3
  have hmod := Nat.mod_lt i hz
  have h4 := flat_at (rs := List.replicate n z.toList) (sz := z.size) (i := i / z.size) (o := i % z.size) (r := z.toList) (u := z[i % z.size]) (fun r hr => by rw [List.eq_of_mem_replicate hr]; simp) (by rw [List.getElem?_replicate, if_pos hdiv]) (by simp [hmod])
  rw [Nat.div_add_mod, List.getElem?_eq_getElem h2] at h4
  rw [Option.some.inj h4]
  simp [madeCells, hmod]
theorem mkw {c : Int} (k : ∀ v', v'.oneCell' = true → TO E n X s ops rest ((d, v') :: fr) (oww e sz v' c.toNat (List.replicate c.toNat z.cells.toList).flatten :: A)) (hx : ev fr x = some (.int k1 c) := by rfl) (hy : ev fr y = some (.int k1 c) := by rfl) (ht : lk E.und t = some (.slice e) := by rfl) (he : lk E.inf e = some (z, sz, by_) := by rfl) (hz : z.cells.size = sz := by rfl)
    (h0 : 0 ≤ c := by omega) (hby : by_ * c.toNat ≤ 281474976710656 := by omega) (h63 : c ≤ 4611686018427387903 := by omega) (hd : Nat.blt d n.n = true := by rfl) :
    TO E n X s ops (⟨some d, .makeSlice t x y, ty, pos, after, none⟩ :: rest) fr A := ⟨fun w hw => by
  obtain ⟨inf, hi, hiz, his, hib⟩ := E.info he
  have hm : c = ((c.toNat : Nat) : Int) := by omega
  obtain ⟨w', hr, hown, hg⟩ := run_make_full (P := P) w 0 t e inf z sz (E.un ht) hi hiz his k1 k1 c.toNat (by rw [hib]; exact hby) (by unfold maxLen; omega) (Nat.zero_le _)
  have hU : Ext w w' := ⟨hg.os, hg.tape, hg.output, hg.size, fun k hk _ => hg.block k hk (by simp)⟩
  subst hz
  rw [madeW] at hown
  refine SO_v hd (w' := w') ⟨fun a ha' _ _ _ _ => ?_⟩ ((k _ rfl).run _ (hw.new hU (c := oww e z.cells.size (.slice (some ⟨w.heap.size, 0, none⟩) c.toNat c.toNat) c.toNat _) ?_ (by rintro b (h | h | h); (have h : some w.heap.size = some b := h); cases h; exact Nat.le_refl _; exact h.elim; exact h.elim) (fun _ h => h)))
  · rw [← hm] at hr
    simp only [execOp, ha'.ev hx, ha'.ev hy]
    simp [hr]
  · rcases hown.2 with ⟨h1, _⟩ | ⟨g, cap, cur, h1, _, h2, h3, h4, h5, h6⟩
    · cases h1
    · simp only [Value.slice.injEq, Option.some.injEq, Addr.mk.injEq, true_and, and_true] at h1
      obtain ⟨rfl, rfl⟩ := h1
      exact .inr ⟨_, c.toNat, cur, rfl, h2, Nat.le_refl _, h4, h5, by simp, by simpa using h6⟩⟩
end
end Go.Art
set_option linter.unusedSimpArgs false
set_option linter.unusedVariables false
namespace Go.Art
open Go Go.Proofs Go.RowKit

section
variable {P : Program} {E : Env P} {n : Sh} {X : Cx} {s : List K} {fr : Fr} {A A' B F D G : List Ch} {ops : Array Oper} {rest l : List Oper} {d : Nat} {o : Op} {ty t t' : TypeId} {pos : String} {after : Array Edge} {v u : Value} {w : World} {Q0 : Exit → Act → World → Prop}
structure FnD (P : Program) (f : FuncId) (args : List Value) (w : World) (R : Value → World → Prop) : Prop where
  can : Callable P f
  calls : ∀ u, CallsDIn (FF none) 0 P f args.toArray u w fun e u' w' => u' = u ∧ ∃ v, e = .returned v ∧ R v w'
theorem FnD.enter {f : FuncId} {fn : Func} {c : Code} {args : List Value} {R : Value → World → Prop} (E : Env P) (n : Nat) (hf : P.funcs[f]? = some fn) (hnm : (fn.name == "runtime.NumGoroutine") = false) (hb : fn.body = some c)
    (hn : fn.ntmps = n) (hl : Nat.ble args.length n = true) (h : SC E ⟨n, [], none⟩ (bodyPost P fn (RetP R)) [] c (argFr args 0) w) : FnD P f args w R := by
  refine ⟨⟨fn, hf, hnm, by simp [hb]⟩, fun u => callsDIn_of_wp hf hb trivial ?_⟩
  subst hn
  have hl' : args.length ≤ fn.ntmps := Nat.le_of_ble_eq_true hl
  exact h.run _ ⟨by simp; omega, rfl, argFr_slot args fn.ntmps⟩
structure TrD (P : Program) (f : FuncId) (args : List Value) (pre A : List Ch) (R : Value → List Ch → Prop) : Prop where
  run : ∀ w, Sat (pre ++ A) w → FnD P f args w (PR w A R)
  lent : ∀ c ∈ pre, ∀ b, ¬ c.wr b ∧ ¬ c.rd b
theorem St.startD {X : Cx} {pre : List Ch} {w : World} (hw : Sat (pre ++ X.A0) w) (hx : X.w0 = w) (hp : ∀ c ∈ pre, ∀ b, ¬ c.wr b ∧ ¬ c.rd b) : St X (pre ++ X.A0) w := by
  subst hx
  refine ⟨hw, (Mv.refl X.w0 X.A0).trans ⟨rfl, rfl, rfl, Nat.le_refl _, fun _ _ _ => rfl, fun b hb => ?_, fun b hb => ?_⟩⟩
  · rcases wrs_app.1 hb with ⟨c, hc, h1⟩ | h1
    · exact absurd h1 (hp c hc b).1
    · exact .inl h1
  · rcases rds_app.1 hb with ⟨c, hc, h1⟩ | h1
    · exact absurd h1 (hp c hc b).2
    · exact .inr (.inl h1)
theorem TrD.enter {f : FuncId} {fn : Func} {c : Code} {args : List Value} {pre A : List Ch} {R : Value → List Ch → Prop} (E : Env P) (n : Nat) (hf : P.funcs[f]? = some fn) (hnm : (fn.name == "runtime.NumGoroutine") = false) (hb : fn.body = some c)
    (hn : fn.ntmps = n) (hl : Nat.ble args.length n = true) (hp : ∀ c ∈ pre, ∀ b, ¬ c.wr b ∧ ¬ c.rd b) (h : ∀ w0, TC E ⟨n, [], none⟩ ⟨bodyPost P fn (RetP (PR w0 A R)), w0, A⟩ [] c (argFr args 0) (pre ++ A)) : TrD P f args pre A R :=
  ⟨fun w hw => FnD.enter E n hf hnm hb hn hl ((h w).run w (St.startD (X := ⟨_, w, A⟩) hw rfl hp)), hp⟩
abbrev DP (P : Program) (fn : Func) (w0 : World) (A : List Ch) (R : Value → List Ch → Prop) : Exit → Act → World → Prop := bodyPostDIn (FF none) 0 P fn (RetP (PR w0 A R))
theorem Tr.enterD {f : FuncId} {fn : Func} {c : Code} {args : List Value} {pre A : List Ch} {R : Value → List Ch → Prop} (E : Env P) (n : Nat) (hf : P.funcs[f]? = some fn) (hnm : (fn.name == "runtime.NumGoroutine") = false) (hb : fn.body = some c)
    (hn : fn.ntmps = n) (hl : Nat.ble args.length n = true) (hp : ∀ c ∈ pre, ∀ b, ¬ c.wr b ∧ ¬ c.rd b) (h : ∀ w0, TC E ⟨n, [], none⟩ ⟨DP P fn w0 A R, w0, A⟩ [] c (argFr args 0) (pre ++ A)) : Tr P f args pre A R := by
  refine ⟨fun w hw => ⟨⟨fn, hf, hnm, by simp [hb]⟩, calls_of_FF (r := none) (k := 0) (callsIn_of_wp_defers hf hb trivial ?_)⟩, hp⟩
  have h1 := (h w).run w (St.startD (X := ⟨_, w, A⟩) hw rfl hp)
  subst hn
  have hl' : args.length ≤ fn.ntmps := Nat.le_of_ble_eq_true hl
  exact h1.run _ ⟨by simp; omega, rfl, argFr_slot args fn.ntmps⟩
theorem run_resolveF {f : FuncId} {a : Act} {g : Operand} {cap : Array Value} {xs : List Operand} {ats : Array TypeId} {vs : List Value} (hg : a.eval g = .func (.func f) #[] cap) (hv : xs.map a.eval = vs) :
    (resolve a.eval ⟨.value g, xs.toArray, ats⟩ ty).run P w = .ok { target := .fn (.func f) cap, args := vs.toArray } w := by
  have h2 : (Array.map a.eval xs.toArray) = vs.toArray := by simp [hv]
  simp only [resolve, h2, hg, Deferred.ofValue]
  simp
theorem SO_defer {m : Nat} {ds : List Deferred} {f : FuncId} {g : Operand} {cap : Array Value} {xs : List Operand} {ats : Array TypeId} {vs : List Value} (hg : ev fr g = some (.func (.func f) #[] cap)) (hv : evs fr xs = some vs)
    (h : SO E ⟨m, { target := .fn (.func f) cap, args := vs.toArray } :: ds, none⟩ Q0 s ops rest fr w) : SO E ⟨m, ds, none⟩ Q0 s ops (⟨none, .defer ⟨.value g, xs.toArray, ats⟩, ty, pos, after, none⟩ :: rest) fr w := ⟨fun a ha =>
  wpListIn_plain rfl fun K hK => ⟨fun _ _ => trivial, by
    have h1 := run_resolveF (P := P) (w := w) (ats := ats) (ty := ty) (ha.ev hg) (ha.evs hv)
    have h2 : (execOp a.eval ⟨none, .defer ⟨.value g, xs.toArray, ats⟩, ty, pos, after, none⟩).run P w = .ok (.defer { target := .fn (.func f) cap, args := vs.toArray }) w := by
      simp only [execOp]
      simp only [Sem.run_bind, h1, Result.andThen_ok]
      rfl
    have h3 : (Oper.semAt (FF none).round a.eval ⟨none, .defer ⟨.value g, xs.toArray, ats⟩, ty, pos, after, none⟩).run P w = .ok (.defer { target := .fn (.func f) cap, args := vs.toArray }) w := h2
    rw [h3]
    simp only [Oper.uponIn]
    exact hK _ _ (h.run _ ⟨ha.size, by show _ :: a.defers = _; rw [ha.defers], ha.slot⟩)⟩⟩
theorem df {m : Nat} {ds : List Deferred} {f : FuncId} {g : Operand} {cap : Array Value} {xs : List Operand} {ats : Array TypeId} {vs : List Value} (k : TO E ⟨m, { target := .fn (.func f) cap, args := vs.toArray } :: ds, none⟩ X s ops rest fr A) (hg : ev fr g = some (.func (.func f) #[] cap) := by rfl) (hv : evs fr xs = some vs := by rfl) :
    TO E ⟨m, ds, none⟩ X s ops (⟨none, .defer ⟨.value g, xs.toArray, ats⟩, ty, pos, after, none⟩ :: rest) fr A := ⟨fun w hw => SO_defer hg hv (k.run w hw)⟩
theorem TrD.at {f : FuncId} {vs : List Value} {pre : List Ch} {R : Value → List Ch → Prop} {w : World} (hf : TrD P f vs pre B R) (hs : Fit A B F) (hp : ∀ c ∈ pre, Has F c) (hw : St X A w) : FnD P f vs w fun v w' => ∃ D, R v D ∧ St X (D ++ F) w' := by
  have h1 := hw.im hs
  have h2 := hf.run w (lend h1.sat hp)
  refine ⟨h2.can, fun u => ?_⟩
  obtain ⟨g1, g2⟩ := h2.calls u
  refine ⟨g1, fun c cs hc hr => ?_⟩
  obtain ⟨e, u', w', fr, ⟨q1, v, q2, D, hR, hS, hM, hB⟩, q3⟩ := g2 c cs hc hr
  exact ⟨e, u', w', fr, ⟨q1, v, q2, D, hR, h1.step hM hS hB⟩, q3⟩
theorem rD {m : Nat} {ds : List Deferred} {f : FuncId} {fn : Func} {vs : List Value} {cap : Array Value} {pre : List Ch} {w0 : World} {A0 : List Ch} {R R' : Value → List Ch → Prop} (hf : TrD P f (vs ++ cap.toList) pre B R') (k : ∀ v D, R' v D → TX E ⟨m, ds, none⟩ ⟨DP P fn w0 A0 R, w0, A0⟩ [] .ret fr (D ++ F)) (hs : Fit A B F := by first | apply Fit.all | ((repeat (first | (apply Fit.nilN; (repeat (first | apply nrm_nil | apply nrm_cons)); try apply nrm_rfl) | (apply Fit.cons; focus ((repeat (first | apply Tk.here | apply Tk.there)); first | done | fail)))); first | done | fail))
    (hp : ∀ c ∈ pre, Has F c := by (repeat (first | exact has0 | refine has1 (by first | (apply has_vw; (repeat (first | apply List.Mem.head | apply List.Mem.tail)); first | done | fail) | (apply has_own; (repeat (first | apply List.Mem.head | apply List.Mem.tail)); first | done | fail) | (apply has_ro; (repeat (first | apply List.Mem.head | apply List.Mem.tail)); first | done | fail) | apply has_nil | ((with_reducible apply has_el); (focus (first | (apply has_vels; (repeat (first | apply List.Mem.head | apply List.Mem.tail)); first | done | fail) | (apply has_rels; (repeat (first | apply List.Mem.head | apply List.Mem.tail)); first | done | fail))); omega) | (apply has_pt; (repeat (first | apply List.Mem.head | apply List.Mem.tail)); first | done | fail) | (apply has_lpt; (repeat (first | apply List.Mem.head | apply List.Mem.tail)); first | done | fail) | (apply has_vels; (repeat (first | apply List.Mem.head | apply List.Mem.tail)); first | done | fail) | (apply has_rels; (repeat (first | apply List.Mem.head | apply List.Mem.tail)); first | done | fail) | with_reducible assumption | ((with_reducible apply has_elg); (focus (first | (apply has_velg; (repeat (first | apply List.Mem.head | apply List.Mem.tail)); first | done | fail) | (apply has_relg; (repeat (first | apply List.Mem.head | apply List.Mem.tail)); first | done | fail))); omega) | (apply has_velg; (repeat (first | apply List.Mem.head | apply List.Mem.tail)); first | done | fail) | (apply has_relg; (repeat (first | apply List.Mem.head | apply List.Mem.tail)); first | done | fail) | (apply has_vwf; (repeat (first | apply List.Mem.head | apply List.Mem.tail)); first | done | fail) | (apply has_oww; (repeat (first | apply List.Mem.head | apply List.Mem.tail)); first | done | fail)) ?_)); first | done | fail) : TX E ⟨m, { target := .fn (.func f) cap, args := vs.toArray } :: ds, none⟩ ⟨DP P fn w0 A0 R, w0, A0⟩ [] .ret fr A := ⟨fun w hw => ⟨fun a ha => by
  show LeavesIn (FF none) 0 P fn a.tmps (RetP (PR w0 A0 R)) a.defers .returning w
  rw [ha.defers]
  have h1 := hf.at hs hp hw
  have h2 := run_callFunc_fn h1.can (vs ++ cap.toList).toArray w
  have h3 : vs.toArray ++ cap = (vs ++ cap.toList).toArray := by simp
  unfold LeavesIn
  refine ⟨by simp, fun h => (by cases h), .func f, cap, f, (vs ++ cap.toList).toArray, rfl, ?_, fun _ _ => trivial, ?_⟩
  · simp only [invoke, h3]; exact h2
  · obtain ⟨g1, g2⟩ := h1.calls .returning
    refine ⟨g1, fun c cs hc hr => ?_⟩
    obtain ⟨e, u', w', fr', ⟨q1, v, q2, D, hR, hS⟩, q3⟩ := g2 c cs hc hr
    refine ⟨e, u', w', fr', ?_, q3⟩
    subst q1; subst q2
    exact ((k v D hR).run w' hS).run { a with defers := ds } ⟨ha.size, rfl, ha.slot⟩⟩⟩
theorem rDn {m : Nat} {fn : Func} {w0 : World} {A0 : List Ch} {R : Value → List Ch → Prop} (h : R v D) (hr : ∀ w, Sat A w → ∀ a, Holds ⟨m, [], none⟩ a fr → (results fn a.tmps).run P w = .ok v w) (hf : Fit A D G := by first | apply Fit.all | ((repeat (first | (apply Fit.nilN; (repeat (first | apply nrm_nil | apply nrm_cons)); try apply nrm_rfl) | (apply Fit.cons; focus ((repeat (first | apply Tk.here | apply Tk.there)); first | done | fail)))); first | done | fail)) (nb : ∀ c ∈ D, ∀ b, ¬ c.bd b := by (repeat (first | exact nb0 | refine nb1 ?_)); first | done | fail) :
    TX E ⟨m, [], none⟩ ⟨DP P fn w0 A0 R, w0, A0⟩ [] .ret fr A := ⟨fun w hw => ⟨fun a ha => by
  show LeavesIn (FF none) 0 P fn a.tmps (RetP (PR w0 A0 R)) a.defers .returning w
  rw [ha.defers]
  unfold LeavesIn
  have h1 := hw.im (Im.trans hf (Im.drop _ _))
  exact ⟨v, hr w hw.sat a ha, v, rfl, D, h, h1.sat, h1.mv, nb⟩⟩⟩
end
end Go.Art
set_option linter.unusedSimpArgs false
set_option linter.unusedVariables false
namespace Go.Art
open Go Go.Proofs Go.RowKit
abbrev wU (n : Int) : Value := .int .u64 n
def Zs (l : List Nat) : List Int := l.map Int.ofNat
theorem Us_eq (l : List Nat) : Us l = (Zs l).map wU := by unfold Zs; rw [List.map_map]; rfl
end Go.Art
set_option linter.unusedSimpArgs false
set_option linter.unusedVariables false
namespace Go.Art
open Go Go.Proofs Go.RowKit
def hpc : List (Value × Value) → List Value
  | [] => []
  | p :: r => p.1 :: p.2 :: hpc r
def pcl : List Rat → List (List Int)
  | [] => []
  | q :: r => Zs (dg q.num.natAbs) :: Zs (dg q.den) :: pcl r
abbrev rrow (q : Rat) (h : Value × Value) : List Value := [.bool (decide (q.num < 0)), h.1, h.2]
def rcs (qs : List Rat) (hs : List (Value × Value)) : List Value := (List.zipWith rrow qs hs).flatten
abbrev nS2 : Value × Value := (nS, nS)
theorem hpc_len (hs : List (Value × Value)) : (hpc hs).length = 2 * hs.length := by
  induction hs with
  | nil => rfl
  | cons p r ih => simp only [hpc, List.length_cons, ih]; omega
theorem pcl_len (qs : List Rat) : (pcl qs).length = 2 * qs.length := by
  induction qs with
  | nil => rfl
  | cons p r ih => simp only [pcl, List.length_cons, ih]; omega
theorem hpc_app (a b : List (Value × Value)) : hpc (a ++ b) = hpc a ++ hpc b := by
  induction a with
  | nil => rfl
  | cons p r ih => simp [hpc, ih]
theorem pcl_app (a b : List Rat) : pcl (a ++ b) = pcl a ++ pcl b := by
  induction a with
  | nil => rfl
  | cons p r ih => simp [pcl, ih]
theorem hpc_get : ∀ (hs : List (Value × Value)) (i : Nat), i < hs.length → (hpc hs).getD (2 * i) nS = (hs.getD i nS2).1 ∧ (hpc hs).getD (2 * i + 1) nS = (hs.getD i nS2).2
  | [], i, h => absurd h (Nat.not_lt_zero _)
  | p :: r, 0, _ => ⟨rfl, rfl⟩
  | p :: r, i + 1, h => by
    have := hpc_get r i (by simpa using h)
    rw [show 2 * (i + 1) = 2 * i + 1 + 1 by omega]
    simpa [hpc, List.getD_eq_getElem?_getD] using this
theorem pcl_get : ∀ (qs : List Rat) (i : Nat), i < qs.length → (pcl qs).getD (2 * i) [] = Zs (dg (qs.getD i 0).num.natAbs) ∧ (pcl qs).getD (2 * i + 1) [] = Zs (dg (qs.getD i 0).den)
  | [], i, h => absurd h (Nat.not_lt_zero _)
  | p :: r, 0, _ => ⟨rfl, rfl⟩
  | p :: r, i + 1, h => by
    have := pcl_get r i (by simpa using h)
    rw [show 2 * (i + 1) = 2 * i + 1 + 1 by omega]
    simpa [pcl, List.getD_eq_getElem?_getD] using this
abbrev vfr (hs : List (Value × Value)) (qs : List Rat) : Ch := velg wU (hpc hs) (pcl qs)
abbrev ofr (hs : List (Value × Value)) (qs : List Rat) : Ch := owl T64 wU (hpc hs) (pcl qs)
theorem has_fr {F : List Ch} {hs : List (Value × Value)} {qs : List Rat} (h : Has F (vfr hs qs)) (hl : hs.length = qs.length) {i : Nat} (hi : i < qs.length) : Has F (vw (hs.getD i nS2).1 (Us (dg (qs.getD i 0).num.natAbs))) ∧ Has F (vw (hs.getD i nS2).2 (Us (dg (qs.getD i 0).den))) := by
  have a1 := has_elg h (i := 2 * i) (by rw [pcl_len]; omega)
  have a2 := has_elg h (i := 2 * i + 1) (by rw [pcl_len]; omega)
  rw [(hpc_get hs i (by omega)).1, (pcl_get qs i hi).1, ← Us_eq] at a1
  rw [(hpc_get hs i (by omega)).2, (pcl_get qs i hi).2, ← Us_eq] at a2
  exact ⟨a1, a2⟩
theorem rcs_row {hs : List (Value × Value)} {qs : List Rat} (hl : hs.length = qs.length) {i : Nat} (hi : i < qs.length) : ((rcs qs hs).drop (3 * i)).take 3 = rrow (qs.getD i 0) (hs.getD i nS2) := by
  refine flat_row (sz := 3) (fun r hr => ?_) ?_
  · obtain ⟨j, hj, rfl⟩ := List.mem_iff_getElem.1 hr
    rw [List.getElem_zipWith]; rfl
  · rw [List.getElem?_zipWith, List.getElem?_eq_getElem hi, List.getElem?_eq_getElem (show i < hs.length by omega)]
    simp [List.getD_eq_getElem?_getD, hi, show i < hs.length by omega]
theorem fr_one {F : List Ch} {hs : List (Value × Value)} {qs : List Rat} (h : Has F (vfr hs qs)) (hl : hs.length = qs.length) {i : Nat} (hi : i < qs.length) (w : World) (hw : Sat F w) : (hs.getD i nS2).1.oneCell' = true ∧ (hs.getD i nS2).2.oneCell' = true := by
  obtain ⟨a1, a2⟩ := has_fr h hl hi
  obtain ⟨_, _, e1, _⟩ := (a1.P w hw : Sl w _ _)
  obtain ⟨_, _, e2, _⟩ := (a2.P w hw : Sl w _ _)
  rw [e1, e2]
  exact ⟨rfl, rfl⟩
theorem foldl_take {α β : Type} [Inhabited α] (f : β → α → β) (b : β) {l : List α} {i : Nat} (h : i < l.length) (z : α) : (l.take (i + 1)).foldl f b = f ((l.take i).foldl f b) (l.getD i z) := by
  rw [take_succ' h z, List.foldl_append]; rfl
section
variable {P : Program} {E : Env P} {fr : Fr} {n : Sh}
theorem res_ac {fn : Func} {w : World} {a : Act} (ha : Holds n a fr) {t u : Nat} {ty ty2 T : TypeId} {dt d2 : TypeDesc} {z : Value} {sz by_ b : Nat} {cs vs : List Value} {ad2 : Addr} {v2 : Value} (hr : fn.results = #[.cell t ty, .cell u ty2]) (ht : lk E.und ty = some dt) (hg : aggB dt = true) (hi : lk E.inf ty = some (z, sz, by_)) (h1 : get fr t = some (ptr b))
    (hb : w.heap[b]? = some (.cells cs.toArray T (0, 0))) (hv : cs.take sz = vs) (hl : vs.length = sz) (ht2 : lk E.und ty2 = some d2) (hg2 : aggB d2 = false) (h2 : get fr u = some (.pointer (some ad2))) (hc2 : w.cell? ad2 = some v2) : (results fn a.tmps).run P w = .ok (.tuple #[.agg vs.toArray, v2]) w := by
  obtain ⟨inf, g1, _, g2, _⟩ := E.info hi
  have h3 := run_loadCells_list (P := P) w ⟨b, 0, none⟩ vs (fun m u hm => by
    rw [Addr.add_lit]
    refine blk_cell hb ?_
    rw [← hv, List.getElem?_take] at hm
    split at hm
    · simpa using hm
    · cases hm)
  rw [hl] at h3
  have e1 : a.tmps[t]?.getD undef = ptr b := by have := ha.slot t _ h1; simpa using this
  have e2 : a.tmps[u]?.getD undef = .pointer (some ad2) := by have := ha.slot u _ h2; simpa using this
  simp only [results, hr]
  simp [e1, e2, asAddr, loadVar, aggB_t (w := w) ht hg, sizeOf, typeInfo, g1, g2, h3, aggB_run (w := w) ht2 hg2, hc2]
end
structure FoG where
  i : Nat
  vn : Value
  vd : Value
attribute [local irreducible] Fit pt own ro vw mpc lpt vels rels mow lrc dfr
attribute [local irreducible] lmp lme mit velg relg bnd owl
theorem foldD_tr (c7 c6 : Nat) : TrD Tryz.prog 114 [ptr c7, ptr c6] [lpt c7 [I 0] 36] [] fun _ D => D = [] := by
  refine TrD.enter env _ Tryz.func114 (by kernel_rfl) rfl Tryz.ntmps114 rfl (by (repeat (first | exact has00 | refine has01 ?_)); first | done | fail) fun w0 => ?_
  repeat' first|(refine wo ?_; first|(refine ao ?_; first|refine oa ?_)|refine ldl ?_)|(refine gc ?_; first|refine cf ?_)|refine sq ?_|refine rg ?_|refine xc ?_|refine nl ?_|refine sk ?_
  exact e0 rfl
theorem Fold_tr (opf : Rat → Rat → Rat) (op : FuncId) (s0 : Rat) (sn sd lv : Value) (qs : List Rat) (hs : List (Value × Value)) (hn : sn.oneCell' = true) (hd : sd.oneCell' = true) (hl : hs.length = qs.length)
    (hFB : ∀ i, i < qs.length → FB (qs.getD i 0) 549755813888)
    (hop : ∀ i, i < qs.length → ∀ v1 v2, v1.oneCell' = true → v2.oneCell' = true → (hs.getD i nS2).1.oneCell' = true → (hs.getD i nS2).2.oneCell' = true → Tr Tryz.prog op [rv ((qs.take i).foldl opf s0) v1 v2, rv (qs.getD i 0) (hs.getD i nS2).1 (hs.getD i nS2).2]
      [vw v1 (Us (dg ((qs.take i).foldl opf s0).num.natAbs)), vw v2 (Us (dg ((qs.take i).foldl opf s0).den)), vw (hs.getD i nS2).1 (Us (dg (qs.getD i 0).num.natAbs)), vw (hs.getD i nS2).2 (Us (dg (qs.getD i 0).den))] [] (FQ (opf ((qs.take i).foldl opf s0) (qs.getD i 0)))) :
    Tr Tryz.prog 78 [rv s0 sn sd, .func (.func op) #[] #[], lv] [vwf lv qs.length (rcs qs hs), vfr hs qs] [own T64 sn (Us (dg s0.num.natAbs)), own T64 sd (Us (dg s0.den))] (FQ2 (qs.foldl opf s0) 0) := by
  refine Tr.enterD env _ Tryz.func78 (by kernel_rfl) rfl Tryz.ntmps78 rfl (by (repeat (first | exact has00 | refine has01 ?_)); first | done | fail) fun w0 => ?_
  refine TC.fact (fun w hw => has_len (v := lv) (N := qs.length) (xs := rcs qs hs) (by first | (apply has_vw; (repeat (first | apply List.Mem.head | apply List.Mem.tail)); first | done | fail) | (apply has_own; (repeat (first | apply List.Mem.head | apply List.Mem.tail)); first | done | fail) | (apply has_ro; (repeat (first | apply List.Mem.head | apply List.Mem.tail)); first | done | fail) | apply has_nil | ((with_reducible apply has_el); (focus (first | (apply has_vels; (repeat (first | apply List.Mem.head | apply List.Mem.tail)); first | done | fail) | (apply has_rels; (repeat (first | apply List.Mem.head | apply List.Mem.tail)); first | done | fail))); omega) | (apply has_pt; (repeat (first | apply List.Mem.head | apply List.Mem.tail)); first | done | fail) | (apply has_lpt; (repeat (first | apply List.Mem.head | apply List.Mem.tail)); first | done | fail) | (apply has_vels; (repeat (first | apply List.Mem.head | apply List.Mem.tail)); first | done | fail) | (apply has_rels; (repeat (first | apply List.Mem.head | apply List.Mem.tail)); first | done | fail) | with_reducible assumption | ((with_reducible apply has_elg); (focus (first | (apply has_velg; (repeat (first | apply List.Mem.head | apply List.Mem.tail)); first | done | fail) | (apply has_relg; (repeat (first | apply List.Mem.head | apply List.Mem.tail)); first | done | fail))); omega) | (apply has_velg; (repeat (first | apply List.Mem.head | apply List.Mem.tail)); first | done | fail) | (apply has_relg; (repeat (first | apply List.Mem.head | apply List.Mem.tail)); first | done | fail) | (apply has_vwf; (repeat (first | apply List.Mem.head | apply List.Mem.tail)); first | done | fail) | (apply has_oww; (repeat (first | apply List.Mem.head | apply List.Mem.tail)); first | done | fail)) w hw) fun hml => ?_
  repeat' first|refine bx fun c => ?_|refine al fun c => ?_|refine df ?_|refine lnw (N := qs.length) (xs := rcs qs hs) ?_|(refine wo ?_; first|refine oa ?_)|refine sq ?_|refine rg ?_|refine xc ?_|refine nl ?_|refine bk ?_
  rename_i c3 c6
  refine TC.loop (ι := Nat) (fun i => [(15, I i)]) (fun i => [pt c [I 0] 36]) (fun i => i ≤ qs.length) (fun i => qs.length - i) 0 [1, 2, 3, 6, 7, 12, 13, 14] (Nat.zero_le _) ?_
  rintro i hi
  by_cases hlt : i < qs.length
  · refine TC.fact (fun w hw => fr_one (hs := hs) (qs := qs) (by first | (apply has_vw; (repeat (first | apply List.Mem.head | apply List.Mem.tail)); first | done | fail) | (apply has_own; (repeat (first | apply List.Mem.head | apply List.Mem.tail)); first | done | fail) | (apply has_ro; (repeat (first | apply List.Mem.head | apply List.Mem.tail)); first | done | fail) | apply has_nil | ((with_reducible apply has_el); (focus (first | (apply has_vels; (repeat (first | apply List.Mem.head | apply List.Mem.tail)); first | done | fail) | (apply has_rels; (repeat (first | apply List.Mem.head | apply List.Mem.tail)); first | done | fail))); omega) | (apply has_pt; (repeat (first | apply List.Mem.head | apply List.Mem.tail)); first | done | fail) | (apply has_lpt; (repeat (first | apply List.Mem.head | apply List.Mem.tail)); first | done | fail) | (apply has_vels; (repeat (first | apply List.Mem.head | apply List.Mem.tail)); first | done | fail) | (apply has_rels; (repeat (first | apply List.Mem.head | apply List.Mem.tail)); first | done | fail) | with_reducible assumption | ((with_reducible apply has_elg); (focus (first | (apply has_velg; (repeat (first | apply List.Mem.head | apply List.Mem.tail)); first | done | fail) | (apply has_relg; (repeat (first | apply List.Mem.head | apply List.Mem.tail)); first | done | fail))); omega) | (apply has_velg; (repeat (first | apply List.Mem.head | apply List.Mem.tail)); first | done | fail) | (apply has_relg; (repeat (first | apply List.Mem.head | apply List.Mem.tail)); first | done | fail) | (apply has_vwf; (repeat (first | apply List.Mem.head | apply List.Mem.tail)); first | done | fail) | (apply has_oww; (repeat (first | apply List.Mem.head | apply List.Mem.tail)); first | done | fail)) hl hlt w hw) fun ho => ?_
    obtain ⟨ho1, ho2⟩ := ho
    have hrow := rcs_row hl hlt
    have hK := FCheck_tr (qs.getD i 0) (hs.getD i nS2).1 (hs.getD i nS2).2 ho1 ho2 (hFB i hlt)
    repeat' first|(refine gca ?_; first|(refine ca hK ?_ (hp := has1 (has_fr (by first | (apply has_vw; (repeat (first | apply List.Mem.head | apply List.Mem.tail)); first | done | fail) | (apply has_own; (repeat (first | apply List.Mem.head | apply List.Mem.tail)); first | done | fail) | (apply has_ro; (repeat (first | apply List.Mem.head | apply List.Mem.tail)); first | done | fail) | apply has_nil | ((with_reducible apply has_el); (focus (first | (apply has_vels; (repeat (first | apply List.Mem.head | apply List.Mem.tail)); first | done | fail) | (apply has_rels; (repeat (first | apply List.Mem.head | apply List.Mem.tail)); first | done | fail))); omega) | (apply has_pt; (repeat (first | apply List.Mem.head | apply List.Mem.tail)); first | done | fail) | (apply has_lpt; (repeat (first | apply List.Mem.head | apply List.Mem.tail)); first | done | fail) | (apply has_vels; (repeat (first | apply List.Mem.head | apply List.Mem.tail)); first | done | fail) | (apply has_rels; (repeat (first | apply List.Mem.head | apply List.Mem.tail)); first | done | fail) | with_reducible assumption | ((with_reducible apply has_elg); (focus (first | (apply has_velg; (repeat (first | apply List.Mem.head | apply List.Mem.tail)); first | done | fail) | (apply has_relg; (repeat (first | apply List.Mem.head | apply List.Mem.tail)); first | done | fail))); omega) | (apply has_velg; (repeat (first | apply List.Mem.head | apply List.Mem.tail)); first | done | fail) | (apply has_relg; (repeat (first | apply List.Mem.head | apply List.Mem.tail)); first | done | fail) | (apply has_vwf; (repeat (first | apply List.Mem.head | apply List.Mem.tail)); first | done | fail) | (apply has_oww; (repeat (first | apply List.Mem.head | apply List.Mem.tail)); first | done | fail)) hl hlt).1 (has1 (has_fr (by first | (apply has_vw; (repeat (first | apply List.Mem.head | apply List.Mem.tail)); first | done | fail) | (apply has_own; (repeat (first | apply List.Mem.head | apply List.Mem.tail)); first | done | fail) | (apply has_ro; (repeat (first | apply List.Mem.head | apply List.Mem.tail)); first | done | fail) | apply has_nil | ((with_reducible apply has_el); (focus (first | (apply has_vels; (repeat (first | apply List.Mem.head | apply List.Mem.tail)); first | done | fail) | (apply has_rels; (repeat (first | apply List.Mem.head | apply List.Mem.tail)); first | done | fail))); omega) | (apply has_pt; (repeat (first | apply List.Mem.head | apply List.Mem.tail)); first | done | fail) | (apply has_lpt; (repeat (first | apply List.Mem.head | apply List.Mem.tail)); first | done | fail) | (apply has_vels; (repeat (first | apply List.Mem.head | apply List.Mem.tail)); first | done | fail) | (apply has_rels; (repeat (first | apply List.Mem.head | apply List.Mem.tail)); first | done | fail) | with_reducible assumption | ((with_reducible apply has_elg); (focus (first | (apply has_velg; (repeat (first | apply List.Mem.head | apply List.Mem.tail)); first | done | fail) | (apply has_relg; (repeat (first | apply List.Mem.head | apply List.Mem.tail)); first | done | fail))); omega) | (apply has_velg; (repeat (first | apply List.Mem.head | apply List.Mem.tail)); first | done | fail) | (apply has_relg; (repeat (first | apply List.Mem.head | apply List.Mem.tail)); first | done | fail) | (apply has_vwf; (repeat (first | apply List.Mem.head | apply List.Mem.tail)); first | done | fail) | (apply has_oww; (repeat (first | apply List.Mem.head | apply List.Mem.tail)); first | done | fail)) hl hlt).2 has0)); rintro _ _ ⟨rfl, rfl⟩))|refine ixws (i := (i : Int)) (N := qs.length) (xs := rcs qs hs) ?_|refine ldaw (N := qs.length) (xs := rcs qs hs) (m := 3 * i) hrow ?_|refine al fun c9 => ?_|refine srz ?_|refine lda ?_|(refine wo ?_; first|(refine ao ?_; first|refine aw ?_|refine oa ?_)|refine oa ?_|refine ld ?_|refine sr ?_)|(refine gc ?_; first|refine cf ?_|(refine ci (fun hB => ?_) (fun hB => ?_) <;> try (exfalso; omega)))|refine sq ?_|refine rg ?_|refine xc ?_|refine nl ?_|refine sk ?_|refine bk ?_|refine xb ?_
    exact lp (i + 1) hlt
  obtain rfl : i = qs.length := by omega
  repeat' first|refine lda ?_|refine srz ?_|refine lnw (N := qs.length) (xs := rcs qs hs) ?_|(refine wo ?_; first|(refine ao ?_; first|refine oa ?_)|refine oa ?_)|(refine gc ?_; first|(refine ci (fun hB => ?_) (fun hB => ?_) <;> try (exfalso; omega)))|refine sq ?_|refine rg ?_|refine xc ?_|refine nl ?_|refine bk ?_|refine xe ?_
  refine TC.loop (ι := FoG) (fun g => [(27, I g.i)]) (fun g => [pt c6 (rrow ((qs.take g.i).foldl opf s0) (g.vn, g.vd)) TRt, own T64 g.vn (Us (dg ((qs.take g.i).foldl opf s0).num.natAbs)), own T64 g.vd (Us (dg ((qs.take g.i).foldl opf s0).den))]) (fun g => g.i ≤ qs.length ∧ g.vn.oneCell' = true ∧ g.vd.oneCell' = true) (fun g => qs.length - g.i) ⟨0, sn, sd⟩ [1, 2, 6, 7, 25, 26] ⟨Nat.zero_le _, hn, hd⟩ ?_
  rintro ⟨i, vn, vd⟩ ⟨hi, hvn, hvd⟩
  dsimp only at hi hvn hvd ⊢
  by_cases hlt : i < qs.length
  · refine TC.fact (fun w hw => fr_one (hs := hs) (qs := qs) (by first | (apply has_vw; (repeat (first | apply List.Mem.head | apply List.Mem.tail)); first | done | fail) | (apply has_own; (repeat (first | apply List.Mem.head | apply List.Mem.tail)); first | done | fail) | (apply has_ro; (repeat (first | apply List.Mem.head | apply List.Mem.tail)); first | done | fail) | apply has_nil | ((with_reducible apply has_el); (focus (first | (apply has_vels; (repeat (first | apply List.Mem.head | apply List.Mem.tail)); first | done | fail) | (apply has_rels; (repeat (first | apply List.Mem.head | apply List.Mem.tail)); first | done | fail))); omega) | (apply has_pt; (repeat (first | apply List.Mem.head | apply List.Mem.tail)); first | done | fail) | (apply has_lpt; (repeat (first | apply List.Mem.head | apply List.Mem.tail)); first | done | fail) | (apply has_vels; (repeat (first | apply List.Mem.head | apply List.Mem.tail)); first | done | fail) | (apply has_rels; (repeat (first | apply List.Mem.head | apply List.Mem.tail)); first | done | fail) | with_reducible assumption | ((with_reducible apply has_elg); (focus (first | (apply has_velg; (repeat (first | apply List.Mem.head | apply List.Mem.tail)); first | done | fail) | (apply has_relg; (repeat (first | apply List.Mem.head | apply List.Mem.tail)); first | done | fail))); omega) | (apply has_velg; (repeat (first | apply List.Mem.head | apply List.Mem.tail)); first | done | fail) | (apply has_relg; (repeat (first | apply List.Mem.head | apply List.Mem.tail)); first | done | fail) | (apply has_vwf; (repeat (first | apply List.Mem.head | apply List.Mem.tail)); first | done | fail) | (apply has_oww; (repeat (first | apply List.Mem.head | apply List.Mem.tail)); first | done | fail)) hl hlt w hw) fun ho => ?_
    obtain ⟨ho1, ho2⟩ := ho
    have hrow := rcs_row hl hlt
    have hO := hop i hlt vn vd hvn hvd ho1 ho2
    have hst := foldl_take opf s0 hlt 0
    obtain ⟨p, hp⟩ : ∃ p, p = (qs.take i).foldl opf s0 := ⟨_, rfl⟩
    obtain ⟨p2, hp2⟩ : ∃ p, p = (qs.take (i + 1)).foldl opf s0 := ⟨_, rfl⟩
    rw [← hp, ← hp2] at hst
    rw [← hp] at hO ⊢
    rw [← hst] at hO
    unfold FQ at hO
    repeat' first|refine ixws (i := (i : Int)) (N := qs.length) (xs := rcs qs hs) ?_|refine ldaw (N := qs.length) (xs := rcs qs hs) (m := 3 * i) hrow ?_|refine al fun c9 => ?_|refine srz ?_ (hj := Nat.le_of_ble_eq_true rfl)|refine lda ?_|(refine cav (cap := #[]) (vs := [rv p vn vd, rv (qs.getD i 0) (hs.getD i nS2).1 (hs.getD i nS2).2]) hO ?_ (hp := has1 (by first | (apply has_vw; (repeat (first | apply List.Mem.head | apply List.Mem.tail)); first | done | fail) | (apply has_own; (repeat (first | apply List.Mem.head | apply List.Mem.tail)); first | done | fail) | (apply has_ro; (repeat (first | apply List.Mem.head | apply List.Mem.tail)); first | done | fail) | apply has_nil | ((with_reducible apply has_el); (focus (first | (apply has_vels; (repeat (first | apply List.Mem.head | apply List.Mem.tail)); first | done | fail) | (apply has_rels; (repeat (first | apply List.Mem.head | apply List.Mem.tail)); first | done | fail))); omega) | (apply has_pt; (repeat (first | apply List.Mem.head | apply List.Mem.tail)); first | done | fail) | (apply has_lpt; (repeat (first | apply List.Mem.head | apply List.Mem.tail)); first | done | fail) | (apply has_vels; (repeat (first | apply List.Mem.head | apply List.Mem.tail)); first | done | fail) | (apply has_rels; (repeat (first | apply List.Mem.head | apply List.Mem.tail)); first | done | fail) | with_reducible assumption | ((with_reducible apply has_elg); (focus (first | (apply has_velg; (repeat (first | apply List.Mem.head | apply List.Mem.tail)); first | done | fail) | (apply has_relg; (repeat (first | apply List.Mem.head | apply List.Mem.tail)); first | done | fail))); omega) | (apply has_velg; (repeat (first | apply List.Mem.head | apply List.Mem.tail)); first | done | fail) | (apply has_relg; (repeat (first | apply List.Mem.head | apply List.Mem.tail)); first | done | fail) | (apply has_vwf; (repeat (first | apply List.Mem.head | apply List.Mem.tail)); first | done | fail) | (apply has_oww; (repeat (first | apply List.Mem.head | apply List.Mem.tail)); first | done | fail)) (has1 (by first | (apply has_vw; (repeat (first | apply List.Mem.head | apply List.Mem.tail)); first | done | fail) | (apply has_own; (repeat (first | apply List.Mem.head | apply List.Mem.tail)); first | done | fail) | (apply has_ro; (repeat (first | apply List.Mem.head | apply List.Mem.tail)); first | done | fail) | apply has_nil | ((with_reducible apply has_el); (focus (first | (apply has_vels; (repeat (first | apply List.Mem.head | apply List.Mem.tail)); first | done | fail) | (apply has_rels; (repeat (first | apply List.Mem.head | apply List.Mem.tail)); first | done | fail))); omega) | (apply has_pt; (repeat (first | apply List.Mem.head | apply List.Mem.tail)); first | done | fail) | (apply has_lpt; (repeat (first | apply List.Mem.head | apply List.Mem.tail)); first | done | fail) | (apply has_vels; (repeat (first | apply List.Mem.head | apply List.Mem.tail)); first | done | fail) | (apply has_rels; (repeat (first | apply List.Mem.head | apply List.Mem.tail)); first | done | fail) | with_reducible assumption | ((with_reducible apply has_elg); (focus (first | (apply has_velg; (repeat (first | apply List.Mem.head | apply List.Mem.tail)); first | done | fail) | (apply has_relg; (repeat (first | apply List.Mem.head | apply List.Mem.tail)); first | done | fail))); omega) | (apply has_velg; (repeat (first | apply List.Mem.head | apply List.Mem.tail)); first | done | fail) | (apply has_relg; (repeat (first | apply List.Mem.head | apply List.Mem.tail)); first | done | fail) | (apply has_vwf; (repeat (first | apply List.Mem.head | apply List.Mem.tail)); first | done | fail) | (apply has_oww; (repeat (first | apply List.Mem.head | apply List.Mem.tail)); first | done | fail)) (has1 (has_fr (by first | (apply has_vw; (repeat (first | apply List.Mem.head | apply List.Mem.tail)); first | done | fail) | (apply has_own; (repeat (first | apply List.Mem.head | apply List.Mem.tail)); first | done | fail) | (apply has_ro; (repeat (first | apply List.Mem.head | apply List.Mem.tail)); first | done | fail) | apply has_nil | ((with_reducible apply has_el); (focus (first | (apply has_vels; (repeat (first | apply List.Mem.head | apply List.Mem.tail)); first | done | fail) | (apply has_rels; (repeat (first | apply List.Mem.head | apply List.Mem.tail)); first | done | fail))); omega) | (apply has_pt; (repeat (first | apply List.Mem.head | apply List.Mem.tail)); first | done | fail) | (apply has_lpt; (repeat (first | apply List.Mem.head | apply List.Mem.tail)); first | done | fail) | (apply has_vels; (repeat (first | apply List.Mem.head | apply List.Mem.tail)); first | done | fail) | (apply has_rels; (repeat (first | apply List.Mem.head | apply List.Mem.tail)); first | done | fail) | with_reducible assumption | ((with_reducible apply has_elg); (focus (first | (apply has_velg; (repeat (first | apply List.Mem.head | apply List.Mem.tail)); first | done | fail) | (apply has_relg; (repeat (first | apply List.Mem.head | apply List.Mem.tail)); first | done | fail))); omega) | (apply has_velg; (repeat (first | apply List.Mem.head | apply List.Mem.tail)); first | done | fail) | (apply has_relg; (repeat (first | apply List.Mem.head | apply List.Mem.tail)); first | done | fail) | (apply has_vwf; (repeat (first | apply List.Mem.head | apply List.Mem.tail)); first | done | fail) | (apply has_oww; (repeat (first | apply List.Mem.head | apply List.Mem.tail)); first | done | fail)) hl hlt).1 (has1 (has_fr (by first | (apply has_vw; (repeat (first | apply List.Mem.head | apply List.Mem.tail)); first | done | fail) | (apply has_own; (repeat (first | apply List.Mem.head | apply List.Mem.tail)); first | done | fail) | (apply has_ro; (repeat (first | apply List.Mem.head | apply List.Mem.tail)); first | done | fail) | apply has_nil | ((with_reducible apply has_el); (focus (first | (apply has_vels; (repeat (first | apply List.Mem.head | apply List.Mem.tail)); first | done | fail) | (apply has_rels; (repeat (first | apply List.Mem.head | apply List.Mem.tail)); first | done | fail))); omega) | (apply has_pt; (repeat (first | apply List.Mem.head | apply List.Mem.tail)); first | done | fail) | (apply has_lpt; (repeat (first | apply List.Mem.head | apply List.Mem.tail)); first | done | fail) | (apply has_vels; (repeat (first | apply List.Mem.head | apply List.Mem.tail)); first | done | fail) | (apply has_rels; (repeat (first | apply List.Mem.head | apply List.Mem.tail)); first | done | fail) | with_reducible assumption | ((with_reducible apply has_elg); (focus (first | (apply has_velg; (repeat (first | apply List.Mem.head | apply List.Mem.tail)); first | done | fail) | (apply has_relg; (repeat (first | apply List.Mem.head | apply List.Mem.tail)); first | done | fail))); omega) | (apply has_velg; (repeat (first | apply List.Mem.head | apply List.Mem.tail)); first | done | fail) | (apply has_relg; (repeat (first | apply List.Mem.head | apply List.Mem.tail)); first | done | fail) | (apply has_vwf; (repeat (first | apply List.Mem.head | apply List.Mem.tail)); first | done | fail) | (apply has_oww; (repeat (first | apply List.Mem.head | apply List.Mem.tail)); first | done | fail)) hl hlt).2 has0)))); rintro _ _ ⟨vn2, vd2, rfl, hvn2, hvd2, rfl⟩)|(refine wo ?_; first|(refine ao ?_; first|refine aw ?_|refine oa ?_)|refine oa ?_)|(refine gc ?_; first|(refine ci (fun hB => ?_) (fun hB => ?_) <;> try (exfalso; omega)))|refine sq ?_|refine rg ?_|refine xc ?_|refine nl ?_|refine sk ?_|refine bk ?_|refine xb ?_
    exact lp ⟨i + 1, vn2, vd2⟩ ⟨hlt, hvn2, hvd2⟩ (hf := by dsimp only; rw [← hp2]; first | apply Fit.all | ((repeat (first | (apply Fit.nilN; (repeat (first | apply nrm_nil | apply nrm_cons)); try apply nrm_rfl) | (apply Fit.cons; focus ((repeat (first | apply Tk.here | apply Tk.there)); first | done | fail)))); first | done | fail))
  · obtain rfl : i = qs.length := by omega
    rw [List.take_length]
    generalize qs.foldl opf s0 = p at *
    repeat' first|refine lda ?_|refine srz ?_ (hj := Nat.le_of_ble_eq_true rfl)|(refine wo ?_; first|(refine ao ?_; first|refine oa ?_)|refine sr ?_)|(refine gc ?_; first|(refine ci (fun hB => ?_) (fun hB => ?_) <;> try (exfalso; omega)))|refine sq ?_|refine rg ?_|refine xc ?_|refine nl ?_|refine xe ?_|refine rt ?_
    refine rD (foldD_tr c c6) ?_ (vs := []) (cap := #[ptr c, ptr c6])
    rintro _ _ rfl
    refine rDn (v := tup2 (rv p vn vd) (I 0)) ⟨vn, vd, rfl, hvn, hvd, rfl⟩ (fun w hw a ha => ?_)
    exact res_ac (E := env) ha rfl rfl rfl rfl rfl (pt_at (b := c6) (cs := rrow p (vn, vd)) (T := TRt) (by (repeat (first | apply List.Mem.head | apply List.Mem.tail)); first | done | fail) hw) rfl rfl rfl rfl rfl (ptcell (cs := [I 0]) (T := 36) hw (by (repeat (first | apply List.Mem.head | apply List.Mem.tail)); first | done | fail) rfl)
end Go.Art
set_option linter.unusedSimpArgs false
set_option linter.unusedVariables false
namespace Go.Art
open Go Go.Proofs Go.RowKit
theorem has_velg_nil {g : Int → Value} {F : List Ch} : Has F (velg g [] []) := ⟨fun _ _ => ⟨rfl, fun i hi => by simp at hi⟩, fun _ h => h, fun _ h => h, fun b hb => by
  rcases hb with hb | hb | ⟨i, hi, _⟩
  · exact hb.elim
  · exact hb.elim
  · simp at hi⟩
theorem has_velg_cons {g : Int → Value} {F : List Ch} {v : Value} {l : List Int} {hs : List Value} {ls : List (List Int)} (h : Has F (vw v (l.map g))) (k : Has F (velg g hs ls)) : Has F (velg g (v :: hs) (l :: ls)) := by
  have hb : ∀ b, (velg g (v :: hs) (l :: ls)).ft b → (vw v (l.map g)).ft b ∨ (velg g hs ls).ft b := fun b hb => by
    rcases hb with hb | hb | ⟨i, hi, h1, h2⟩
    · exact hb.elim
    · exact hb.elim
    · cases i with
      | zero => exact .inl (.inr (.inr ⟨h1, h2⟩))
      | succ i => exact .inr (.inr (.inr ⟨i, by simpa using hi, h1, h2⟩))
  refine ⟨fun w hw => ?_, fun _ h => h, fun _ h => h, fun b hx => ?_⟩
  · obtain ⟨k1, k2⟩ := (k.P w hw : elgP g hs ls w)
    refine ⟨by simp [k1], fun i hi => ?_⟩
    cases i with
    | zero => exact h.P w hw
    | succ i => exact k2 i (by simpa using hi)
  · rcases hb b hx with h1 | h1
    · exact h.ft b h1
    · exact k.ft b h1
theorem has_vfr_nil {F : List Ch} : Has F (vfr [] []) := has_velg_nil
theorem has_vfr_cons {F : List Ch} {v1 v2 : Value} {q : Rat} {hs : List (Value × Value)} {qs : List Rat} (h1 : Has F (vw v1 (Us (dg q.num.natAbs)))) (h2 : Has F (vw v2 (Us (dg q.den)))) (k : Has F (vfr hs qs)) : Has F (vfr ((v1, v2) :: hs) (q :: qs)) := by
  rw [Us_eq] at h1 h2
  exact has_velg_cons h1 (has_velg_cons h2 k)
theorem FB_mk {a D B : Nat} (hD : D ≠ 0) (ha : (dg a).length ≤ B) (hd : (dg D).length ≤ B) : FB (mkRat (a : Int) D) B := by
  refine ⟨?_, ?_⟩
  · rw [mk_abs _ hD, Int.natAbs_natCast]
    exact Nat.le_trans (dg_mono (Nat.div_le_self _ _)) ha
  · rw [mk_den _ hD]
    exact Nat.le_trans (dg_mono (Nat.div_le_self _ _)) hd
theorem FB_mk1 {a D : Nat} (hD : D ≠ 0) (ha : a < 18446744073709551616) (hd : D < 18446744073709551616) : FB (mkRat (a : Int) D) 1 := FB_mk hD (dg_len1 ha) (dg_len1 hd)
attribute [local irreducible] Fit pt own ro vw mpc lpt vels rels mow lrc dfr
attribute [local irreducible] lmp lme mit velg relg bnd owl
theorem FAdd_tr (lv : Value) (qs : List Rat) (hs : List (Value × Value)) (hl : hs.length = qs.length) (hFB : ∀ i, i < qs.length → FB (qs.getD i 0) 8589934592) (hP : ∀ i, i < qs.length → FB ((qs.take i).foldl (· + ·) 0) 8589934592) :
    Tr Tryz.prog 40 [lv] [vwf lv qs.length (rcs qs hs), vfr hs qs] [] (FQ2 (qs.foldl (· + ·) 0) 0) := by
  have hF := fun o ho => Fold_tr (· + ·) 80 0 nS o lv qs hs rfl ho hl (fun i hi => (hFB i hi).le (by decide)) (fun i hi v1 v2 h1 h2 h3 h4 => FSum_tr _ _ v1 v2 _ _ h1 h2 h3 h4 (hP i hi) (hFB i hi))
  have e1 : dg (0 : Rat).num.natAbs = [] := by rw [show (0 : Rat).num.natAbs = 0 from rfl, dg_zero]
  have e2 : dg (0 : Rat).den = [1] := by rw [show (0 : Rat).den = 1 from rfl, dg_pos (by decide)]; rw [show 1 / 18446744073709551616 = 0 from rfl, dg_zero]
  rw [e1, e2] at hF
  unfold FQ2 at hF ⊢
  generalize qs.foldl (· + ·) (0 : Rat) = p at *
  refine Tr.enter env _ Tryz.func40 (by kernel_rfl) rfl Tryz.ntmps40 rfl (by repeat (first | exact has00 | refine has01 ?_)) fun w0 => ?_
  refine TC.im (own_nil T64 _) ?_
  repeat' first|(refine gca ?_; first|(refine ca one_tr ?_; rintro o _ ⟨ho, rfl⟩)|(refine ca (hF o ho) ?_; rintro _ _ ⟨vn, vd, rfl, hvn, hvd, rfl⟩))|refine al fun c => ?_|refine bdm ?_|refine srz ?_|(refine wo ?_; first|refine oa ?_)|refine sq ?_|refine rg ?_|refine xc ?_|refine nl ?_|refine rt ?_
  exact rca (cs := [.bool (decide (p.num < 0)), vn, vd]) (vs := [.bool (decide (p.num < 0)), vn, vd]) (T := TRt) ⟨vn, vd, rfl, hvn, hvd, rfl⟩
theorem FAdd0_tr : Tr Tryz.prog 40 [nS] [] [] (FQ2 0 0) := by
  have h := FAdd_tr nS [] [] rfl (fun i hi => absurd hi (Nat.not_lt_zero _)) (fun i hi => absurd hi (Nat.not_lt_zero _))
  refine ⟨fun w hw => h.run w ?_, has00⟩
  refine Sat.app.2 ⟨?_, hw, fun a ha c hc => nomatch hc⟩
  have g1 : Has [] (vwf nS 0 []) := ⟨fun w _ => ⟨none, 0, rfl, Nat.le_refl _, by unfold maxLen; omega, fun h => absurd h (Nat.lt_irrefl _), fun i u h => by simp at h⟩, fun _ h => h, fun _ h => h, fun b hb => by rcases hb with hb | hb | hb; exact hb.elim; exact hb.elim; exact absurd rfl hb.1⟩
  have := lend (pre := [vwf nS 0 [], vfr [] []]) (A := []) (F := []) (w := w) (Sat.nil w) (has1 g1 (has1 has_vfr_nil has0))
  rw [List.append_nil] at this
  exact this
end Go.Art
set_option linter.unusedSimpArgs false
set_option linter.unusedVariables false
namespace Go.Art
open Go Go.Proofs Go.RowKit
theorem setW_err {tot : Int} {cut oth : List Int} {k : Int} {x : Lw} {at1 e : Int} {x2 : Lw} (h1 : rwE tot cut oth k = 0) (h2 : (plcW tot cut oth x).1 = (at1, 0)) (h3 : (plcW tot cut oth x).2.1 = x2) (h4 : (ordO k (at1 + 1) x2).1 = ([], e)) : (setW tot cut oth k x).1 = ([], e) := by
  unfold setW
  rw [if_pos h1, h2, if_pos rfl, h3]
  unfold pickO
  rw [h4, srt_id .nil]
theorem setW_srt {tot : Int} {cut oth : List Int} {k : Int} {x : Lw} {at1 : Int} {x2 : Lw} {l m : List Int} (h1 : rwE tot cut oth k = 0) (h2 : (plcW tot cut oth x).1 = (at1, 0)) (h3 : (plcW tot cut oth x).2.1 = x2) (h4 : (ordO k (at1 + 1) x2).1 = (l, 0)) (hp : l.Perm m) (hs : m.Pairwise (· ≤ ·)) : (setW tot cut oth k x).1 = (m, 0) := by
  unfold setW
  rw [if_pos h1, h2, if_pos rfl, h3]
  unfold pickO
  rw [h4]
  exact congrArg (·, (0 : Int)) (((srt_perm l).trans hp).eq_of_pairwise (fun a b _ _ h1 h2 => by omega) (srt_sorted l) hs)
theorem few3 : (setW 4 [2, 4] [1, 1] 3 (.inr ([1, 0, 2, 1], false))).1 = ([0, 2], 0) := setW_srt (at1 := 1) (x2 := .inr ([2, 1], false)) (l := [2, 0]) (by decide) (by decide) (by kernel_rfl) (by decide) (List.Perm.swap _ _ _) (by simp)
theorem few4 : (setW 4 [2, 4] [1, 1] 3 (.inr ([0, 1], false))).1 = ([], 12) := setW_err (at1 := 0) (x2 := .inr ([], false)) (by decide) (by decide) (by kernel_rfl) (by decide)
theorem few5 : (setW 4 [2, 4] [1, 1] 1 (.inr ([0, 0], false))).1 = ([], 3) := by decide
theorem mea2 : meaW 4 [2, 4] [1, 1] 3 1 = (rqf (mkRat 1 24), 0) := by
  rw [meaW_ok (by decide) (by decide)]; rfl
theorem mea3 : meaW 4 [2, 4] [1, 1] 3 3 = (rqn, 3) := by
  unfold meaW; rw [if_pos (by decide), if_pos (by decide)]
theorem cha2 : chaW [1, 3] 3 2 = (rqf (mkRat 1 4), 0) := by
  unfold chaW; rw [if_pos (by decide), if_neg (by decide)]; rfl
theorem cha3 : chaW [1, 3] 1 1 = (rqn, 13) := by
  unfold chaW; rw [if_neg (by decide)]
theorem fewL : (allL 4 [2, 4] [1, 1] 3).length = 42 ∧ (allL 4 [2, 4] [1, 1] 3).getD 0 [] = [0, 0, 0] := ⟨by kernel_rfl, by kernel_rfl⟩
theorem rows1 : ∃ L : List (List Int), rowsW 4 [2, 4] [1, 1] 3 = (L, 0) ∧ L.length = 42 ∧ L.getD 0 [] = [0, 0, 0] := by
  refine ⟨allL 4 [2, 4] [1, 1] 3, ?_, fewL.1, fewL.2⟩
  unfold rowsW
  rw [if_pos (by decide), if_neg]
  · rfl
  · rw [show (3 : Int).toNat = 3 from rfl, fewL.1]; decide
attribute [local irreducible] Fit pt own ro vw mpc lpt vels rels mow lrc dfr
attribute [local irreducible] lmp lme mit velg relg bnd owl dfrl
theorem RowKnown_tr : Tr Tryz.prog 6 [] [] [] fun v D => v = .bool true ∧ D = [] := by
  have hM := fun c o hc ho => MeaW_tr 4 3 1 c o [2, 4] [1, 1] hc ho
  have hN := fun c o hc ho => MeaW_tr 4 3 3 c o [2, 4] [1, 1] hc ho
  have hC := fun s => ChaW_tr s [1, 3] 3 2
  have hE := fun s => ChaW_tr s [1, 3] 1 1
  have hR := fun c o hc ho => Rows_tr 4 3 c o [2, 4] [1, 1] hc ho
  obtain ⟨L, hL1, hL2, hL3⟩ := rows1
  simp only [hL1] at hR
  simp only [mea2] at hM
  simp only [mea3] at hN
  simp only [cha2] at hC
  simp only [cha3] at hE
  unfold FW at hM hC hN hE
  dsimp only at hM hC hN hE hR
  have hI1 := fun n1 d1 => is_tr (rqf (mkRat 1 24)) 0 n1 d1 1 24 (by decide) (by decide) (by decide)
  have hI2 := fun n1 d1 => is_tr (rqf (mkRat 1 4)) 0 n1 d1 1 4 (by decide) (by decide) (by decide)
  simp only [show ((1 : Nat) : Int) = 1 from rfl, and_self, decide_true] at hI1 hI2
  have hD1 := fun lv wv => draws_tr 3 0 lv wv [1, 0, 2, 1] [0, 2] (by decide)
  have hD2 := fun lv wv => draws_tr 3 12 lv wv [0, 1] [] (by decide)
  have hD3 := fun lv wv => draws_tr 1 3 lv wv [0, 0] [] (by decide)
  rw [few3] at hD1
  rw [few4] at hD2
  rw [few5] at hD3
  simp only [decide_true] at hD1 hD2 hD3
  generalize mkRat 1 24 = q1 at *
  generalize mkRat 1 4 = q2 at *
  refine Tr.enter env _ Tryz.func6 (by kernel_rfl) rfl Tryz.ntmps6 rfl (by repeat (first | exact has00 | refine has01 ?_)) fun w0 => ?_
  repeat' first|(refine gca ?_; first|(refine ca few_tr ?_; rintro _ _ ⟨c, o, rfl, hc, ho, rfl⟩)|(refine ca (hM c o hc ho) ?_; rintro _ _ ⟨n1, d1, rfl, hn1, hd1, rfl⟩)|(refine ca (hN c o hc ho) ?_; rintro _ _ ⟨n3, d3, rfl, hn3, hd3, rfl⟩)|(refine ca (hR c o hc ho) ?_; rintro _ _ ⟨rv, hs, rfl, hrv, hlr, rfl⟩; have hg0 : hs[0]? = some (hs.getD 0 nS) := (by rw [List.getD_eq_getElem?_getD, List.getElem?_eq_getElem (by omega)]; rfl))|(refine ca (hC _) ?_; rintro _ _ ⟨n2, d2, rfl, hn2, hd2, rfl⟩)|(refine ca (hE _) ?_; rintro _ _ ⟨n4, d4, rfl, hn4, hd4, rfl⟩)|(refine ca (hD1 _ _) ?_; rintro _ _ ⟨rfl, rfl⟩)|(refine ca (hD2 _ _) ?_; rintro _ _ ⟨rfl, rfl⟩)|(refine ca (hD3 _ _) ?_; rintro _ _ ⟨rfl, rfl⟩)|(refine ca (hI1 n1 d1) ?_; rintro _ _ ⟨rfl, rfl⟩)|(refine ca (hI2 n2 d2) ?_; rintro _ _ ⟨rfl, rfl⟩)|(refine ca (SameIntsT_tr (hs.getD 0 nS) _ [0, 0, 0]) ?_ (hp := has1 (by rw [← hL3]; exact has_elg (g := I) (hs := hs) (ls := L) (i := 0) (has_owl (e := TLI) (by omega) (by (repeat (first | apply List.Mem.head | apply List.Mem.tail)); first | done | fail)) (by omega)) (has1 (by first | (apply has_vw; (repeat (first | apply List.Mem.head | apply List.Mem.tail)); first | done | fail) | (apply has_own; (repeat (first | apply List.Mem.head | apply List.Mem.tail)); first | done | fail) | (apply has_ro; (repeat (first | apply List.Mem.head | apply List.Mem.tail)); first | done | fail) | apply has_nil | ((with_reducible apply has_el); (focus (first | (apply has_vels; (repeat (first | apply List.Mem.head | apply List.Mem.tail)); first | done | fail) | (apply has_rels; (repeat (first | apply List.Mem.head | apply List.Mem.tail)); first | done | fail))); omega) | (apply has_pt; (repeat (first | apply List.Mem.head | apply List.Mem.tail)); first | done | fail) | (apply has_lpt; (repeat (first | apply List.Mem.head | apply List.Mem.tail)); first | done | fail) | (apply has_vels; (repeat (first | apply List.Mem.head | apply List.Mem.tail)); first | done | fail) | (apply has_rels; (repeat (first | apply List.Mem.head | apply List.Mem.tail)); first | done | fail) | with_reducible assumption | ((with_reducible apply has_elg); (focus (first | (apply has_velg; (repeat (first | apply List.Mem.head | apply List.Mem.tail)); first | done | fail) | (apply has_relg; (repeat (first | apply List.Mem.head | apply List.Mem.tail)); first | done | fail))); omega) | (apply has_velg; (repeat (first | apply List.Mem.head | apply List.Mem.tail)); first | done | fail) | (apply has_relg; (repeat (first | apply List.Mem.head | apply List.Mem.tail)); first | done | fail) | (apply has_vwf; (repeat (first | apply List.Mem.head | apply List.Mem.tail)); first | done | fail) | (apply has_oww; (repeat (first | apply List.Mem.head | apply List.Mem.tail)); first | done | fail)) has0)); rintro _ _ ⟨rfl, rfl⟩)|(refine ca awake_tr ?_; rintro _ _ ⟨rfl, rfl⟩))|refine slz fun v hv => ?_|refine al fun b1 => ?_|refine srz ?_|refine lda ?_|refine le (xs := hs) (j := 0) ?_ (hj := hg0)|(refine wo ?_; first|(refine ao ?_; first|refine oa ?_)|refine oa ?_|refine ln ?_|refine ix ?_|refine gy ?_|(refine gsn (fun hB => ?_) (fun hB => ?_) <;> try (exfalso; omega)))|(refine gc ?_; first|refine cf ?_)|refine sq ?_|refine rg ?_|refine xc ?_|refine nl ?_|refine sk ?_|refine rt ?_
  exact r1 ⟨rfl, rfl⟩
end Go.Art
set_option linter.unusedSimpArgs false
set_option linter.unusedVariables false
namespace Go.Art
open Go Go.Proofs Go.RowKit
theorem Tr.pre {P : Program} {f : FuncId} {args : List Value} {pre pre' A : List Ch} {R : Value → List Ch → Prop} (h : Tr P f args pre A R) (hp : ∀ c ∈ pre, Has pre' c) (hl : ∀ c ∈ pre', ∀ b, ¬ c.wr b ∧ ¬ c.rd b) : Tr P f args pre' A R :=
  ⟨fun w hw => h.run w (lend (hw.perm List.perm_append_comm) hp), hl⟩
theorem FAdd2_tr (q r : Rat) (lv v1 v2 v3 v4 : Value) (hq : FB q 8589934592) (hr : FB r 8589934592) :
    Tr Tryz.prog 40 [lv] [vwf lv 2 (rrow q (v1, v2) ++ rrow r (v3, v4)), vw v1 (Us (dg q.num.natAbs)), vw v2 (Us (dg q.den)), vw v3 (Us (dg r.num.natAbs)), vw v4 (Us (dg r.den))] [] (FQ2 (q + r) 0) := by
  have h := FAdd_tr lv [q, r] [(v1, v2), (v3, v4)] rfl (fun i hi => by
    match i, hi with
    | 0, _ => exact hq
    | 1, _ => exact hr) (fun i hi => by
    match i, hi with
    | 0, _ => exact ⟨by rw [show (([q, r].take 0).foldl (· + ·) (0 : Rat)).num.natAbs = 0 from rfl, dg_zero]; exact Nat.zero_le _, by rw [show (([q, r].take 0).foldl (· + ·) (0 : Rat)).den = 1 from rfl]; exact Nat.le_trans (dg_len1 (by decide)) (by decide)⟩
    | 1, _ =>
      show FB (0 + q) _
      rw [Rat.zero_add]; exact hq)
  rw [show [q, r].foldl (· + ·) (0 : Rat) = q + r by show 0 + q + r = q + r; rw [Rat.zero_add]] at h
  refine h.pre ?_ (by repeat (first | exact has00 | refine has01 ?_))
  refine has1 (has_vwf (List.Mem.head _)) (has1 (has_vfr_cons (has_vw (by simp)) (has_vw (by simp)) (has_vfr_cons (has_vw (by simp)) (has_vw (by simp)) has_vfr_nil)) has0)
theorem allL_ok {tbl : List Int} {k : Nat} (hk : 1 ≤ k ∧ k ≤ 4) (hz : solE (madeT tbl k) k = 0) :
    rwE (madeT tbl k).sum (alF (madeT tbl k)).cut (alF (madeT tbl k)).oth k = 0 ∧ (alF (madeT tbl k)).cut.length = (madeT tbl k).length ∧ (1 ≤ (madeT tbl k).length ∧ (madeT tbl k).length ≤ k) ∧ 1 ≤ (madeT tbl k).sum ∧ (madeT tbl k).sum ≤ 20 := by
  obtain ⟨z1, z2, z3, z4⟩ := solE_zero hz
  have hp := sum_posT z3 z4
  obtain ⟨h1, h2, _⟩ := alF_ok z3 (by omega) hp
  have hs := madeT_sum (tbl := tbl) (k := k)
  refine ⟨?_, h2, by omega, by omega, by omega⟩
  unfold rwE
  rw [if_pos h1, if_neg (by omega)]
theorem row_pack {tot : Int} {cut oth : List Int} {k : Nat} {l : List Int} (hk : rwE tot cut oth k = 0) (hk4 : k ≤ 4) (h : l ∈ allL tot cut oth k) : ∃ S : List Int, setW tot cut oth k (.inr (l, false)) = ((S, 0), (.inr ([], false), (l.length : Int))) ∧ (S.length + 2 = l.length ∧ l.length ≤ 6) ∧
    meaW tot cut oth k S.length = (rqf (mkRat ((wt k l : Nat) : Int) (cut.length * (tot.toNat * 24))), 0) ∧ wt k l ≤ 24 := by
  obtain ⟨c, x, js, hc, hx, hj, rfl⟩ := allL_row h
  obtain ⟨hE, k1, k2, k3⟩ := rwE_ok hk
  have hb := alE_bnd hE
  have hin := alPick_in hE (c := c) (l := x) (by omega)
  have hjl := endsL_mem _ _ _ _ hj
  have hsl : (srt (ordF 0 (upto k) js)).length = js.length := by rw [(srt_perm _).length_eq, ordF_len]
  simp only [List.length_nil, Nat.zero_add] at hjl
  have hd : js.length ≤ k := by omega
  have hd1 : 1 ≤ js.length := by omega
  refine ⟨srt (ordF 0 (upto k) js), ?_, ?_, ?_, ?_⟩
  · rw [setW_row hk hc hx hj]
    simp only [List.length_cons, Prod.mk.injEq, true_and]
    omega
  · refine ⟨?_, ?_⟩
    · rw [hsl]; simp only [List.length_cons]
    · simp only [List.length_cons]; omega
  · rw [hsl, meaW_ok (d := (js.length : Int)) hk (by omega), Int.toNat_natCast, Int.toNat_natCast, mea_wt (n := cut.length) (T := tot.toNat) (by omega) (by omega) hk4 hd]
    rfl
  · unfold wt
    exact Nat.div_le_self _ _
theorem take_mapsum {α : Type} (f : α → Nat) {l : List α} {i : Nat} (h : i < l.length) (z : α) [Inhabited α] : ((l.take (i + 1)).map f).sum = ((l.take i).map f).sum + f (l.getD i z) := by
  rw [take_succ' h z, List.map_append, List.sum_append]; simp
theorem take_mapsum_le {α : Type} (f : α → Nat) (m : Nat) {l : List α} (h : ∀ x ∈ l, f x ≤ m) (i : Nat) : ((l.take i).map f).sum ≤ l.length * m := by
  have key : ∀ l : List α, (∀ x ∈ l, f x ≤ m) → (l.map f).sum ≤ l.length * m := by
    intro l
    induction l with
    | nil => simp
    | cons a r ih => intro h; have := h a (by simp); have := ih (fun x hx => h x (by simp [hx])); simp only [List.map_cons, List.sum_cons, List.length_cons, Nat.succ_mul]; omega
  refine Nat.le_trans (key _ fun x hx => h x (List.mem_of_mem_take hx)) ?_
  exact Nat.mul_le_mul_right m (by rw [List.length_take]; omega)
structure WhG where
  i : Nat
  vn : Value
  vd : Value
attribute [local irreducible] Fit pt own ro vw mpc lpt vels rels mow lrc dfr
attribute [local irreducible] lmp lme mit velg relg bnd owl madeT
end Go.Art
