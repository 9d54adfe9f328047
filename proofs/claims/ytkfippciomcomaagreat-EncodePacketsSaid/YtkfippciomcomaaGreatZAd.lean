/- Texts put together: Xi Bs Er En Sb Sz Oa Ob Gh Gp Ga Gl. Conditions: none. -/
import Derived.Test.YtkfippciomcomaaGreatZAc
set_option linter.unusedSimpArgs false
set_option linter.unusedVariables false
namespace Go.Art
open Go Go.Proofs Go.RowKit
attribute [local irreducible] Fit pt own ro vw mpc lpt vels rels mow lrc dfr
attribute [local irreducible] lmp lme mit velg relg
theorem Clone_tr (b : Value) (m : List Int) (hm : m.length ≤ 1099511627776) : Tr Tryz.prog 34 [b] [vw b (By m)] [] fun v D => v.oneCell' = true ∧ D = [own TyB v (By m)] := by
  refine Tr.enter env _ Tryz.func34 (by kernel_rfl) rfl Tryz.ntmps34 rfl (by repeat (first | exact has00 | refine has01 ?_)) fun w0 => ?_
  refine TC.fact (p := ∃ o c, b = .slice o m.length c ∧ (o = none → m = [])) (fun w hw => by
    obtain ⟨o, c, h1, h2, h3, h4⟩ := has_sl hw (v := b) (xs := By m) (by first | (apply has_vw; (repeat (first | apply List.Mem.head | apply List.Mem.tail)); first | done | fail) | (apply has_own; (repeat (first | apply List.Mem.head | apply List.Mem.tail)); first | done | fail) | (apply has_ro; (repeat (first | apply List.Mem.head | apply List.Mem.tail)); first | done | fail) | apply has_nil | ((with_reducible apply has_el); (focus (first | (apply has_vels; (repeat (first | apply List.Mem.head | apply List.Mem.tail)); first | done | fail) | (apply has_rels; (repeat (first | apply List.Mem.head | apply List.Mem.tail)); first | done | fail))); omega) | (apply has_pt; (repeat (first | apply List.Mem.head | apply List.Mem.tail)); first | done | fail) | (apply has_lpt; (repeat (first | apply List.Mem.head | apply List.Mem.tail)); first | done | fail) | (apply has_vels; (repeat (first | apply List.Mem.head | apply List.Mem.tail)); first | done | fail) | (apply has_rels; (repeat (first | apply List.Mem.head | apply List.Mem.tail)); first | done | fail) | with_reducible assumption | ((with_reducible apply has_elg); (focus (first | (apply has_velg; (repeat (first | apply List.Mem.head | apply List.Mem.tail)); first | done | fail) | (apply has_relg; (repeat (first | apply List.Mem.head | apply List.Mem.tail)); first | done | fail))); omega) | (apply has_velg; (repeat (first | apply List.Mem.head | apply List.Mem.tail)); first | done | fail) | (apply has_relg; (repeat (first | apply List.Mem.head | apply List.Mem.tail)); first | done | fail) | (apply has_vwf; (repeat (first | apply List.Mem.head | apply List.Mem.tail)); first | done | fail))
    rw [By_len] at h1
    refine ⟨o, c, h1, fun e => ?_⟩
    subst e
    cases m with
    | nil => rfl
    | cons x r => obtain ⟨_, h, _⟩ := h4 0 _ (by rfl); cases h) fun ⟨o, c, hb, hn⟩ => ?_
  subst hb
  cases o with
  | none =>
    have := hn rfl
    subst this
    repeat' first|(refine wo ?_; first|(refine ao ?_; first|refine isl ?_)|refine oa ?_)|(refine gc ?_; first|refine ct ?_)|refine sq ?_|refine rg ?_|refine xc ?_|refine nl ?_|refine rt ?_
    refine TX.im (own_nil TyB _) ?_
    exact r1 ⟨rfl, rfl⟩
  | some o =>
    repeat' first|(refine wo ?_; first|(refine ao ?_; first|refine isl ?_)|refine oa ?_)|(refine gc ?_; first|refine cf ?_)|refine sq ?_|refine rg ?_|refine xc ?_|refine nl ?_|refine sk ?_
    refine sl0 fun v0 => ?_
    repeat' first|(refine wo ?_; first|refine oa ?_)
    refine ap (xs := []) (news := By m) (fun v => ?_) (h1 := By_one _) (hby := by rw [By_len]; simp; omega) (h63 := by rw [By_len]; simp; omega)
    refine TO.one (v := v) (xs := By m) fun hv => ?_
    repeat' first|(refine wo ?_; first|refine oa ?_)|refine xc ?_|refine nl ?_|refine rt ?_
    exact r1 ⟨hv, rfl⟩
theorem Into_tr (a b : Value) (l m : List Int) (hl : l.length = m.length) : Tr Tryz.prog 57 [a, b] [vw b (By m)] [own TyB a (By l)] fun v D => v = I 0 ∧ D = [own TyB a (By (xorL l m))] := by
  have h1 := By_len l
  have h2 := By_len m
  refine Tr.enter env _ Tryz.func57 (by kernel_rfl) rfl Tryz.ntmps57 rfl (by repeat (first | exact has00 | refine has01 ?_)) fun w0 => ?_
  repeat' first|(refine gca ?_; first|(refine ca (add_tr a b l m hl) ?_; rintro _ _ rfl))|refine ln (xs := By l) ?_|refine ln (xs := By m) ?_|(refine wo ?_; first|(refine ao ?_; first|refine oa ?_)|refine oa ?_)|(refine gc ?_; first|(refine cn (fun hB => ?_) (fun hB => ?_) <;> try (exfalso; omega)))|refine sq ?_|refine rg ?_|refine xc ?_|refine nl ?_|refine sk ?_|refine rt ?_
  exact r1 ⟨rfl, rfl⟩
end Go.Art
set_option linter.unusedSimpArgs false
set_option linter.unusedVariables false
namespace Go.Art
open Go Go.Proofs Go.RowKit
def lastOf (is : List Int) (i : Nat) : Int := if i = 0 then -1 else is.getD (i - 1) 0
structure Rise (is : List Int) (k : Int) : Prop where
  up : ∀ i : Nat, i < is.length → lastOf is i < is.getD i 0
  lt : ∀ x ∈ is, 0 ≤ x ∧ x < k
def sumI (ls : List (List Int)) (is : List Int) (z : List Int) : Nat → List Int
  | 0 => z
  | i + 1 => xorL (sumI ls is z i) (ls.getD (is.getD i 0).toNat [])
theorem sumI_len {ls : List (List Int)} {is z : List Int} {size : Nat} (hr : Rise is ls.length) (hls : ∀ m ∈ ls, m.length = size) (hz : z.length = size) (i : Nat) : i ≤ is.length → (sumI ls is z i).length = size := by
  induction i with
  | zero => exact fun _ => hz
  | succ i ih =>
    intro h
    have h1 := ih (by omega)
    have hx := hr.lt _ (mem_getD.2 ⟨i, by omega, rfl⟩)
    have h2 := hls _ (getD_memL (ls := ls) (i := (is.getD i 0).toNat) (by omega))
    unfold sumI
    rw [xorL_len (by rw [h1, h2]), h1]
section
variable {P : Program} {E : Env P} {n : Sh} {X : Cx} {s : List K} {fr : Fr} {A : List Ch} {ops : Array Oper} {rest : List Oper} {d : Nat} {ty t : TypeId} {pos : String} {after : Array Edge} {x y : Operand} {k1 : IntKind} {m : Int} {by_ : Nat}
theorem mkb {e : TypeId} (k : ∀ v', TO E n X s ops rest ((d, v') :: fr) (own e v' (By (List.replicate m.toNat 0)) :: A)) (hx : ev fr x = some (.int k1 m) := by rfl) (hy : ev fr y = some (.int k1 m) := by rfl) (ht : lk E.und t = some (.slice e) := by rfl) (he : lk E.inf e = some (y8 0, 1, by_) := by rfl)
    (h0 : 0 ≤ m := by omega) (hby : m ≤ 35184372088832 := by omega) (h8 : by_ ≤ 8 := by decide) (hd : Nat.blt d n.n = true := by rfl) : TO E n X s ops (⟨some d, .makeSlice t x y, ty, pos, after, none⟩ :: rest) fr A :=
  mk (fun v' => by have := k v'; rwa [By, List.map_replicate] at this) hx hy ht he rfl h0 (Nat.le_trans (Nat.mul_le_mul_right _ h8) (by omega)) (by omega) hd
end
attribute [local irreducible] Fit pt own ro vw mpc lpt vels rels mow lrc dfr
attribute [local irreducible] lmp lme mit velg relg
abbrev TyV : TypeId := 41
abbrev TyO : TypeId := 4
theorem Named1_tr (l Dm bad p8 c1 c2 c3 : Nat) (rec : Loop) (sv s o : Value) (hs : List Value) (ls : List (List Int)) (is : List Int) (size : Nat) (z : List Int) (hr : Rise is ls.length) (hls : ∀ m ∈ ls, m.length = size) (hz : z.length = size)
    (hy : ∀ acc m h, acc.length = size → m.length = size → Ty Tryz.prog l [h] [vw h (By m)] [lrc l rec .ready none, dfr Dm, pt p8 [o] TyV, own TyB o (By acc)] fun ok B => ok = true ∧ B = [lrc l rec .ready none, dfr Dm, pt p8 [o] TyV, own TyB o (By (xorL acc m))]) :
    Tr Tryz.prog 72 [yv l, ptr c1, ptr c2, ptr c3] [lpt c1 [sv] 22, lpt c2 [s] 30, lpt c3 [ptr bad] 95, vw sv (Is is), vw s hs, velg y8 hs ls] [lrc l rec .ready none, dfr Dm, pt bad [.bool false] TyO, pt p8 [o] TyV, own TyB o (By z)]
      fun _ B => B = [lrc l rec .ready none, dfr Dm, pt bad [.bool false] TyO, pt p8 [o] TyV, own TyB o (By (sumI ls is z is.length))] := by
  have hlen := sumI_len hr hls hz
  refine Tr.enter env _ Tryz.func72 (by kernel_rfl) rfl Tryz.ntmps72 rfl (by repeat (first | exact has00 | refine has01 ?_)) fun w0 => ?_
  refine TC.leni (v := sv) (l := is) fun hil => ?_
  refine TC.elg (g := y8) (hs := hs) (ls := ls) (fun hl => ?_)
  refine TC.fact (vw_len (v := s) (xs := hs) (by first | (apply has_vw; (repeat (first | apply List.Mem.head | apply List.Mem.tail)); first | done | fail) | (apply has_own; (repeat (first | apply List.Mem.head | apply List.Mem.tail)); first | done | fail) | (apply has_ro; (repeat (first | apply List.Mem.head | apply List.Mem.tail)); first | done | fail) | apply has_nil | ((with_reducible apply has_el); (focus (first | (apply has_vels; (repeat (first | apply List.Mem.head | apply List.Mem.tail)); first | done | fail) | (apply has_rels; (repeat (first | apply List.Mem.head | apply List.Mem.tail)); first | done | fail))); omega) | (apply has_pt; (repeat (first | apply List.Mem.head | apply List.Mem.tail)); first | done | fail) | (apply has_lpt; (repeat (first | apply List.Mem.head | apply List.Mem.tail)); first | done | fail) | (apply has_vels; (repeat (first | apply List.Mem.head | apply List.Mem.tail)); first | done | fail) | (apply has_rels; (repeat (first | apply List.Mem.head | apply List.Mem.tail)); first | done | fail) | with_reducible assumption | ((with_reducible apply has_elg); (focus (first | (apply has_velg; (repeat (first | apply List.Mem.head | apply List.Mem.tail)); first | done | fail) | (apply has_relg; (repeat (first | apply List.Mem.head | apply List.Mem.tail)); first | done | fail))); omega) | (apply has_velg; (repeat (first | apply List.Mem.head | apply List.Mem.tail)); first | done | fail) | (apply has_relg; (repeat (first | apply List.Mem.head | apply List.Mem.tail)); first | done | fail) | (apply has_vwf; (repeat (first | apply List.Mem.head | apply List.Mem.tail)); first | done | fail))) fun hsl => ?_
  repeat' first|(refine wo ?_; first|refine oa ?_|refine ldl ?_|refine lnm ?_)|refine sq ?_|refine rg ?_|refine xc ?_|refine nl ?_|refine bk ?_
  refine TC.loop (ι := Nat) (fun i => [(10, I i), (5, I (lastOf is i))]) (fun i => [lrc l rec .ready none, dfr Dm, pt bad [.bool false] TyO, pt p8 [o] TyV, own TyB o (By (sumI ls is z i))]) (fun i => i ≤ is.length) (fun i => is.length - i) 0 [0, 1, 2, 3, 8, 9] (by omega) ?_
  intro i hi
  by_cases hlt : i < is.length
  · have hx := hr.lt _ (mem_getD.2 ⟨i, hlt, rfl⟩)
    have hu := hr.up i hlt
    have hn : lastOf is (i + 1) = is.getD i 0 := rfl
    have hsm : sumI ls is z (i + 1) = xorL (sumI ls is z i) (ls.getD (is.getD i 0).toNat []) := rfl
    have hl1 := hlen i hi
    generalize hs1 : sumI ls is z (i + 1) = S1 at *
    generalize sumI ls is z i = S0 at *
    generalize hxe : is.getD i 0 = x at *
    generalize hle : lastOf is i = la at *
    have hxl : x.toNat < ls.length := by omega
    have hm := hls _ (getD_memL hxl)
    repeat' first|refine lie hxe ?_|(refine wo ?_; first|(refine ao ?_; first|refine oa ?_)|refine oa ?_|refine ld ?_|refine ldl ?_|refine ixmn ?_|refine lv ?_|refine ln ?_|refine ix ?_|refine sr ?_|refine gy ?_|(refine gsi (fun hB => ?_) (fun hB => ?_) <;> try (exfalso; omega)))|(refine gc ?_; first|(refine ci (fun hB => ?_) (fun hB => ?_) <;> try (exfalso; omega)))|refine sq ?_|refine rg ?_|refine xc ?_|refine nl ?_|refine sk ?_|refine bk ?_
    refine cy (hy S0 (ls.getD x.toNat []) (hs.getD x.toNat nS) hl1 hm) ?_ (hp := has1 (has_elg (has_velg (by (repeat (first | apply List.Mem.head | apply List.Mem.tail)); first | done | fail)) hxl) has0)
    rintro _ _ ⟨rfl, rfl⟩
    rw [← hsm, show decide ((hs.length : Int) ≤ x) = false from decide_eq_false hB]
    repeat' first|(refine wo ?_; first|(refine ao ?_; first|refine aw ?_)|refine oa ?_|refine gy ?_)|(refine gc ?_; first|refine cf ?_)|refine rg ?_|refine xc ?_|refine nl ?_|refine sk ?_|refine xb ?_
    refine lp (i + 1) (by omega) (hs := by rw [hn]; (repeat (refine Sub.cons rfl (by first | rfl | go_num) ?_)); exact Sub.nil) (hf := by rw [hs1]; first | apply Fit.all | ((repeat (first | (apply Fit.nilN; (repeat (first | apply nrm_nil | apply nrm_cons)); try apply nrm_rfl) | (apply Fit.cons; focus ((repeat (first | apply Tk.here | apply Tk.there)); first | done | fail)))); first | done | fail))
  · obtain rfl : i = is.length := by omega
    repeat' first|(refine wo ?_; first|(refine ao ?_; first|refine oa ?_))|(refine gc ?_; first|(refine ci (fun hB => ?_) (fun hB => ?_) <;> try (exfalso; omega)))|refine sq ?_|refine rg ?_|refine xc ?_|refine nl ?_|refine xe ?_
    exact e0 rfl
def sumL (ls : List (List Int)) (is : List Int) : List Int := sumI ls is (List.replicate (ls.getD 0 []).length 0) is.length
theorem Sum_tr (s sv : Value) (hs : List Value) (ls : List (List Int)) (is : List Int) (hE : blkE ls = 0) (hr : Rise is ls.length) (hne : 0 < is.length) : Tr Tryz.prog 36 [s, sv] [vw s hs, velg y8 hs ls, vw sv (Is is)] []
    fun v D => ∃ o, v = tup2 o (I 0) ∧ o.oneCell' = true ∧ D = [own TyB o (By (sumL ls is))] := by
  obtain ⟨hk, hsz, hal⟩ := blkE_zero hE
  have hN : ∀ b, s.oneCell' = true → sv.oneCell' = true → Tr Tryz.prog 56 [s, sv, ptr b] [] [] fun v D => ∃ c1 c2 c3, v = .func (.func 72) #[] #[ptr c1, ptr c2, ptr c3] ∧ D = [pt c1 [sv] 22, pt c2 [s] 30, pt c3 [ptr b] 95] := fun b h1 h2 => by
    refine Tr.enter env _ Tryz.func56 (by kernel_rfl) rfl Tryz.ntmps56 rfl (by repeat (first | exact has00 | refine has01 ?_)) fun w0 => ?_
    repeat' first|refine bx1 fun c => ?_|(refine wo ?_; first|refine oa ?_)|refine sq ?_|refine rg ?_|refine xc ?_|refine nl ?_|refine rt ?_
    rename_i c2 c1
    exact r1 ⟨c1, c2, c, rfl, rfl⟩
  refine Tr.enterM env _ Tryz.func36 (by kernel_rfl) rfl Tryz.ntmps36 rfl (by (repeat (first | exact has00 | refine has01 ?_)); first | done | fail) fun w0 => ?_
  refine TC.leni (v := sv) (l := is) fun hil => ?_
  refine TC.elg (g := y8) (hs := hs) (ls := ls) (fun hl => ?_)
  refine TC.fact (vw_len (v := s) (xs := hs) (by first | (apply has_vw; (repeat (first | apply List.Mem.head | apply List.Mem.tail)); first | done | fail) | (apply has_own; (repeat (first | apply List.Mem.head | apply List.Mem.tail)); first | done | fail) | (apply has_ro; (repeat (first | apply List.Mem.head | apply List.Mem.tail)); first | done | fail) | apply has_nil | ((with_reducible apply has_el); (focus (first | (apply has_vels; (repeat (first | apply List.Mem.head | apply List.Mem.tail)); first | done | fail) | (apply has_rels; (repeat (first | apply List.Mem.head | apply List.Mem.tail)); first | done | fail))); omega) | (apply has_pt; (repeat (first | apply List.Mem.head | apply List.Mem.tail)); first | done | fail) | (apply has_lpt; (repeat (first | apply List.Mem.head | apply List.Mem.tail)); first | done | fail) | (apply has_vels; (repeat (first | apply List.Mem.head | apply List.Mem.tail)); first | done | fail) | (apply has_rels; (repeat (first | apply List.Mem.head | apply List.Mem.tail)); first | done | fail) | with_reducible assumption | ((with_reducible apply has_elg); (focus (first | (apply has_velg; (repeat (first | apply List.Mem.head | apply List.Mem.tail)); first | done | fail) | (apply has_relg; (repeat (first | apply List.Mem.head | apply List.Mem.tail)); first | done | fail))); omega) | (apply has_velg; (repeat (first | apply List.Mem.head | apply List.Mem.tail)); first | done | fail) | (apply has_relg; (repeat (first | apply List.Mem.head | apply List.Mem.tail)); first | done | fail) | (apply has_vwf; (repeat (first | apply List.Mem.head | apply List.Mem.tail)); first | done | fail))) fun hsl => ?_
  refine TC.one (v := s) (xs := hs) fun h1s => ?_
  refine TC.one (v := sv) (xs := Is is) fun h1v => ?_
  repeat' first|(refine gca ?_; first|(refine ca (BCheck_tr s hs ls) ?_; rintro _ _ ⟨rfl, rfl⟩; rw [hE]))|refine al fun p => ?_|(refine wo ?_; first|(refine ao ?_; first|refine oa ?_)|refine oa ?_|refine lnm ?_|refine lv ?_|refine ix ?_|refine sr ?_)|(refine gc ?_; first|refine cf ?_)|refine sq ?_|refine rg ?_|refine xc ?_|refine nl ?_|refine sk ?_
  rw [show Int.toNat 0 = 0 from rfl, show decide ((is.length : Int) = 0) = false from decide_eq_false (by omega)]
  refine mkb fun o => ?_
  rw [show ((ls.getD 0 []).length : Int).toNat = (ls.getD 0 []).length from rfl]
  refine TO.one (v := o) (xs := By (List.replicate (ls.getD 0 []).length 0)) fun ho => ?_
  repeat' first|(refine gca ?_; first|(refine ca (hN p h1s h1v) ?_; rintro _ _ ⟨c1, c2, c3, rfl, rfl⟩))|refine al fun p8 => ?_|(refine wo ?_; first|refine oa ?_|refine sr ?_)|refine sq ?_|refine rg ?_|refine xc ?_|refine nl ?_|refine bk ?_
  refine TC.range [lpt c1 [sv] 22, lpt c2 [s] 30, lpt c3 [ptr p] 95, vw sv (Is is), vw s hs, velg y8 hs ls] [pt p [.bool false] TyO, pt p8 [o] TyV, own TyB o (By (List.replicate (ls.getD 0 []).length 0))]
    (fun l rec Dm pend B' => pend = none ∧ B' = [dfr Dm, pt p [.bool false] TyO, pt p8 [o] TyV, own TyB o (By (sumL ls is))]) ?_ ?_
  · intro rec l Dm hrec
    refine (Named1_tr l Dm p p8 c1 c2 c3 rec sv s o hs ls is (ls.getD 0 []).length (List.replicate (ls.getD 0 []).length 0) hr hal (List.length_replicate ..) ?_).mono ?_
    · intro acc m h h1 h2
      refine Ty.intro env hrec (by (repeat (first | exact has00 | refine has01 ?_)); first | done | fail) fun w1 => ?_
      repeat' first|(refine gca ?_; first|(refine ca (Into_tr o h acc m (by omega)) ?_; rintro _ _ ⟨rfl, rfl⟩))|refine xbeg ?_|(refine wo ?_; first|refine oa ?_|refine ld ?_)|refine rg ?_|refine nl ?_|refine bk ?_|refine xb ?_
      exact yn ⟨rfl, rfl⟩
    · rintro v B rfl
      exact ⟨.ready, none, _, rfl, by decide, rfl, rfl⟩
  · rintro l rec Dm pend B' ⟨rfl, rfl⟩
    show TX env _ _ _ _ _ _
    repeat' first|(refine wo ?_; first|refine oa ?_|refine ld ?_)|(refine gc ?_; first|refine cf ?_)|refine sq ?_|refine rg ?_|refine xc ?_|refine nl ?_|refine sk ?_|refine rt ?_|refine xb ?_
    exact m2 ⟨o, rfl, ho, rfl⟩
end Go.Art
set_option linter.unusedSimpArgs false
set_option linter.unusedVariables false
namespace Go.Art
open Go

def InjL (l : List Int) : Prop := ∀ a b, a < l.length → b < l.length → l.getD a 0 = l.getD b 0 → a = b
theorem InjL.swp {l : List Int} (h : InjL l) {i j : Nat} (hi : i < l.length) (hj : j < l.length) : InjL (swp l i j) := by
  intro a b ha hb he
  rw [swp_length] at ha hb
  rw [swp_get l a hi hj, swp_get l b hi hj] at he
  by_cases a1 : a = i
  · rw [if_pos a1] at he
    by_cases b1 : b = i
    · omega
    · rw [if_neg b1] at he
      by_cases b2 : b = j
      · rw [if_pos b2] at he; have := h _ _ hj hi he; omega
      · rw [if_neg b2] at he; have := h _ _ hj hb he; omega
  · rw [if_neg a1] at he
    by_cases a2 : a = j
    · rw [if_pos a2] at he
      by_cases b1 : b = i
      · rw [if_pos b1] at he; have := h _ _ hi hj he; omega
      · rw [if_neg b1] at he
        by_cases b2 : b = j
        · omega
        · rw [if_neg b2] at he; have := h _ _ hi hb he; omega
    · rw [if_neg a2] at he
      by_cases b1 : b = i
      · rw [if_pos b1] at he; have := h _ _ ha hj he; omega
      · rw [if_neg b1] at he
        by_cases b2 : b = j
        · rw [if_pos b2] at he; have := h _ _ ha hi he; omega
        · rw [if_neg b2] at he; exact h _ _ ha hb he
theorem ordL_in (k : Nat) : ∀ (m i : Nat) (l : List Int) (st : BitVec 64), l.length = k → i + m ≤ k → InjL l →
    (∀ x ∈ (ordL k m i l st).1, ∃ j, i ≤ j ∧ j < k ∧ l.getD j 0 = x) ∧ (ordL k m i l st).1.Nodup
  | 0, _, _, _, _, _, _ => ⟨fun x hx => (by unfold ordL at hx; cases hx), (by unfold ordL; exact List.nodup_nil)⟩
  | m + 1, i, l, st, hl, him, hn => by
    have hs := sdraw_lt (n := k - i) (by omega) st
    unfold ordL
    dsimp only
    generalize (sdraw (k - i) st).1 = s at *
    generalize (sdraw (k - i) st).2 = st2 at *
    have hi : i < l.length := by omega
    have hj : i + s < l.length := by omega
    obtain ⟨h1, h2⟩ := ordL_in k m (i + 1) (swp l i (i + s)) st2 (by rw [swp_length, hl]) (by omega) (hn.swp hi hj)
    refine ⟨fun x hx => ?_, List.nodup_cons.2 ⟨fun hx => ?_, h2⟩⟩
    · rcases List.mem_cons.1 hx with rfl | hx
      · exact ⟨i + s, by omega, by omega, rfl⟩
      · obtain ⟨j, j1, j2, rfl⟩ := h1 x hx
        rw [swp_get l j hi hj, if_neg (by omega)]
        split
        · exact ⟨i, by omega, by omega, rfl⟩
        · exact ⟨j, by omega, j2, rfl⟩
    · obtain ⟨j, j1, j2, he⟩ := h1 _ hx
      have e2 : (swp l i (i + s)).getD i 0 = l.getD (i + s) 0 := by rw [swp_get l i hi hj, if_pos rfl]
      have := hn.swp hi hj i j (by rw [swp_length]; omega) (by rw [swp_length]; omega) (by rw [e2, he])
      omega
theorem upto_inj (k : Nat) : InjL (upto k) := fun a b ha hb he => by
  rw [upto_length] at ha hb
  rw [upto_get k a ha, upto_get k b hb] at he
  omega
theorem srt_rise {l : List Int} {k : Int} (hn : l.Nodup) (hk : ∀ x ∈ l, 0 ≤ x ∧ x < k) : Rise (srt l) k := by
  have hp := srt_perm l
  have hs := srt_sorted l
  have hd : (srt l).Nodup := hp.nodup_iff.2 hn
  have hm : ∀ x ∈ srt l, 0 ≤ x ∧ x < k := fun x hx => hk x (hp.mem_iff.1 hx)
  refine ⟨fun i hi => ?_, hm⟩
  unfold lastOf
  split
  · have := hm _ (mem_getD.2 ⟨i, hi, rfl⟩); omega
  · rename_i h0
    have h1 := List.pairwise_iff_getElem.1 hs (i - 1) i (by omega) hi (by omega)
    have h2 := List.pairwise_iff_getElem.1 hd (i - 1) i (by omega) hi (by omega)
    simp only [List.getD_eq_getElem?_getD, List.getElem?_eq_getElem hi, List.getElem?_eq_getElem (show i - 1 < (srt l).length by omega), Option.getD_some]
    omega
theorem pick_rise {k d : Int} (h : Sized k d) (st : BitVec 64) : (pickR k d st).2 = 0 ∧ Rise (pickR k d st).1 k ∧ ((pickR k d st).1.length : Int) = d := by
  obtain ⟨h1, h2, h3, h4⟩ := id h
  unfold pickR ordR
  rw [if_pos h]
  obtain ⟨g1, g2⟩ := ordL_in k.toNat d.toNat 0 (upto k.toNat) st (upto_length _) (by omega) (upto_inj _)
  refine ⟨rfl, srt_rise g2 fun x hx => ?_, ?_⟩
  · obtain ⟨j, j1, j2, rfl⟩ := g1 x hx
    rw [upto_get _ _ j2]; omega
  · dsimp only; rw [srt_length, ordL_len]; omega
def tabOk (t : List Int) (k : Int) : Prop := (1 ≤ k ∧ k ≤ 65536) ∧ (1 ≤ t.length ∧ t.length ≤ k) ∧ (∀ w ∈ t, 0 ≤ w ∧ w ≤ 16777215) ∧ ∃ w ∈ t, 0 < w
theorem sum_pos' {t : List Int} (h : ∀ w ∈ t, 0 ≤ w ∧ w ≤ 16777215) (hp : ∃ w ∈ t, 0 < w) : 0 < t.sum := by
  induction t with
  | nil => obtain ⟨w, hw, _⟩ := hp; cases hw
  | cons a r ih =>
    have h1 := h a (by simp)
    have h2 := sum_bound (t := r) fun w hw => h w (by simp [hw])
    rw [List.sum_cons]
    obtain ⟨w, hw, hw0⟩ := hp
    rcases List.mem_cons.1 hw with rfl | hw
    · omega
    · have := ih (fun w hw => h w (by simp [hw])) ⟨w, hw, hw0⟩; omega
def numOk (n : Int) : Prop := 0 ≤ n ∧ n ≤ 4294967295
instance (n : Int) : Decidable (numOk n) := by unfold numOk; infer_instance
def setT (t : List Int) (k seed block id : Int) : List Int := (setR t.sum (alF t).cut (alF t).oth k (seedOf (c64 seed) (c64 block) (c64 id))).1
theorem setR_ok {t : List Int} {k : Int} (h : solE t k = 0) (st : BitVec 64) : (setR t.sum (alF t).cut (alF t).oth k st).2 = 0 ∧ Rise (setR t.sum (alF t).cut (alF t).oth k st).1 k ∧
    (1 ≤ (setR t.sum (alF t).cut (alF t).oth k st).1.length ∧ (setR t.sum (alF t).cut (alF t).oth k st).1.length ≤ t.length) ∧ 0 < t.getD ((setR t.sum (alF t).cut (alF t).oth k st).1.length - 1) 0 := by
  obtain ⟨h1, h2, h3, h4⟩ := solE_zero h
  have hs := sum_pos' h3 h4
  obtain ⟨g1, g2, g3⟩ := alF_ok h3 (by omega) hs
  have hp := plc_in g1 st
  rw [g2] at hp
  have hpos : 0 < t.getD (plcR t.sum (alF t).cut (alF t).oth st).1.toNat 0 := by
    have l1 := sdraw_lt (n := t.length) (by omega) st
    have l2 := sdraw_lt (n := t.sum.toNat) (by omega) (sdraw t.length st).2
    unfold plcR
    rw [g2]
    dsimp only
    exact g3 _ _ (by omega) (by omega)
  unfold setR
  obtain ⟨q1, q2, q3⟩ := pick_rise (k := k) (d := (plcR t.sum (alF t).cut (alF t).oth st).1 + 1) (by unfold Sized; omega) (plcR t.sum (alF t).cut (alF t).oth st).2
  generalize pickR k ((plcR t.sum (alF t).cut (alF t).oth st).1 + 1) (plcR t.sum (alF t).cut (alF t).oth st).2 = R at *
  refine ⟨q1, q2, by omega, ?_⟩
  rw [show R.1.length - 1 = (plcR t.sum (alF t).cut (alF t).oth st).1.toNat by omega]
  exact hpos
end Go.Art
set_option linter.unusedSimpArgs false
set_option linter.unusedVariables false
namespace Go.Art
open Go Go.Proofs Go.RowKit
section
variable {P : Program} {E : Env P} {n : Sh} {X : Cx} {s : List K} {fr : Fr} {A A' : List Ch} {ops : Array Oper} {rest : List Oper} {d : Nat} {ty t : TypeId} {pos : String} {after : Array Edge}
theorem bdg {sz by_ : Nat} {cs : List Value} {fl : List Field} {zs : List Value} {pl : List (Nat × Nat)} {parts : List (Nat × Operand)} {ps : List (Nat × Value)} (k : TO E n X s ops rest ((d, .agg cs.toArray) :: fr) A) (hv : evps fr parts = some ps := by rfl)
    (ht : lk E.und t = some (.struct fl.toArray) := by rfl) (he : lk E.inf t = some (.agg zs.toArray, sz, by_) := by rfl) (hpl : places E.inf fl = some pl := by rfl) (hs : setParts pl zs ps = some cs := by rfl) (hd : Nat.blt d n.n = true := by rfl) :
    TO E n X s ops (⟨some d, .build t parts.toArray, ty, pos, after, none⟩ :: rest) fr A := TO.val (fun _ _ => R_build ht he hpl hv hs) k hd
theorem ldla {b j sz by_ : Nat} {cs vs : List Value} {T : TypeId} {dt : TypeDesc} {z : Value} {x : Operand} (k : TO E n X s ops rest ((d, .agg vs.toArray) :: fr) A) (hx : ev fr x = some (.pointer (some ⟨b, j, none⟩)) := by rfl) (hm : lpt b cs T ∈ A := by (repeat (first | apply List.Mem.head | apply List.Mem.tail)); first | done | fail) (ht : lk E.und t = some dt := by rfl) (hg : aggB dt = true := by rfl) (hi : lk E.inf t = some (z, sz, by_) := by rfl)
    (hv : (cs.drop j).take sz = vs := by rfl) (hl : vs.length = sz := by rfl) (hd : Nat.blt d n.n = true := by rfl) : TO E n X s ops (⟨some d, .load t x, ty, pos, after, none⟩ :: rest) fr A := TO.val (fun _ h => R_loadA ht hg hi hx (h.h (lpt b cs T) hm) hv hl) k hd
end
attribute [local irreducible] Fit pt own ro vw mpc lpt vels rels mow lrc dfr
attribute [local irreducible] lmp lme mit velg relg
abbrev TEnc : TypeId := 68
abbrev TSam : TypeId := 54
abbrev nP : Value := .pointer none
theorem number_tr (n : Int) : Tr Tryz.prog 40 [I n] [] [] fun v D => v = .bool (decide (numOk n)) ∧ D = [] := by
  refine Tr.enter env _ Tryz.func40 (by kernel_rfl) rfl Tryz.ntmps40 rfl (by repeat (first | exact has00 | refine has01 ?_)) fun w0 => ?_
  repeat' first|(refine wo ?_; first|(refine ao ?_; first|refine oa ?_)|refine oa ?_|refine gy ?_|refine gn ?_|(refine gsi (fun hB => ?_) (fun hB => ?_) <;> try (exfalso; omega)))|refine sq ?_|refine rg ?_|refine xc ?_|refine nl ?_|refine rt ?_
  all_goals refine r1 ⟨?_, rfl⟩
  all_goals first
    | rw [decide_eq_false (fun h : numOk n => by unfold numOk at h; omega)]
    | (congr 1; exact decide_eq_decide.2 ⟨fun h => by unfold numOk; omega, fun h => by unfold numOk at h; omega⟩)
def setW (t : List Int) (k seed blk id : Int) : List Int × Int := if numOk id then (setT t k seed blk id, 0) else ([], 3)
theorem sset_tr (t : List Int) (k seed blk id : Int) (cv ov : Value) (hE : solE t k = 0) (hc : cv.oneCell' = true) (ho : ov.oneCell' = true) :
    Tr Tryz.prog 26 [.agg #[I t.sum, cv, ov, I k, I seed, I blk], I id] [vw cv (Is (alF t).cut), vw ov (Is (alF t).oth)] []
      fun v D => ∃ o, v = tup2 o (I (setW t k seed blk id).2) ∧ D = [own 3 o (Is (setW t k seed blk id).1)] := by
  obtain ⟨h1, h2, h3, h4⟩ := solE_zero hE
  obtain ⟨g1, g2, g3⟩ := alF_ok h3 (by omega) (sum_pos' h3 h4)
  refine Tr.enter env _ Tryz.func26 (by kernel_rfl) rfl Tryz.ntmps26 rfl (by repeat (first | exact has00 | refine has01 ?_)) fun w0 => ?_
  repeat' first|(refine gca ?_; first|(refine ca (number_tr id) ?_; rintro _ _ ⟨rfl, rfl⟩))|refine bx fun b => ?_|(refine wo ?_; first|refine oa ?_)|(refine gc ?_; first|(refine cn (fun hB => ?_) (fun hB => ?_) <;> try (exfalso; omega)))|refine sq ?_|refine rg ?_|refine xc ?_|refine nl ?_|refine sk ?_|refine rt ?_
  · refine TX.im (own_nil 3 _) ?_
    rw [show setW t k seed blk id = ([], 3) from if_neg (by assumption)]
    exact r2 ⟨nS, rfl, rfl⟩
  have hn : numOk id := by assumption
  have hz := (setR_ok hE (seedOf (c64 seed) (c64 blk) (c64 id))).1
  refine rs (fun w => w.heap[b]? = some (.cells #[I t.sum, cv, ov, I k, I seed, I blk] TSam (0, 0))) ?_ (fun w hw => pt_at (by (repeat (first | apply List.Mem.head | apply List.Mem.tail)); first | done | fail) hw)
  refine tka 0 ?_
  refine tk 1 (v := .agg #[I t.sum, cv, ov]) (hi := rfl) (fun w h => by exact R_loadA (E := env) (cs := [I t.sum, cv, ov, I k, I seed, I blk]) (vs := [I t.sum, cv, ov]) rfl rfl rfl rfl h rfl rfl) ?_
  refine tka 2 ?_
  refine tkl 3 (cs := [I t.sum, cv, ov, I k, I seed, I blk]) (fun w h => h) ?_
  refine tka 4 ?_
  refine tkl 5 (cs := [I t.sum, cv, ov, I k, I seed, I blk]) (fun w h => h) ?_
  refine tk 6 (v := U (c64 seed)) (hi := rfl) (fun w h => by exact R_toU (E := env) rfl rfl rfl) ?_
  refine tka 7 ?_
  refine tkl 8 (cs := [I t.sum, cv, ov, I k, I seed, I blk]) (fun w h => h) ?_
  refine tk 9 (v := U (c64 blk)) (hi := rfl) (fun w h => by exact R_toU (E := env) rfl rfl rfl) ?_
  refine tka 10 ?_
  refine tk 11 (v := U (c64 id)) (hi := rfl) (fun w h => by exact R_toU (E := env) rfl rfl rfl) ?_
  refine t1 12 ?_
  refine ca (Seeded_tr _ _ _) ?_
  rintro _ _ ⟨lb, lr, rfl, rfl⟩
  repeat' first|refine nl ?_
  refine te (fun w hw => pt_at (by (repeat (first | apply List.Mem.head | apply List.Mem.tail)); first | done | fail) hw) ?_
  refine t1 13 ?_
  refine ca (RwSet_tr t.sum k cv ov (alF t).cut (alF t).oth lb lr _ hc ho g1 (by omega)) ?_
  rintro _ _ ⟨o, st', u, rfl, rfl⟩
  repeat' first|refine nl ?_
  refine te (fun w hw => pt_at (by (repeat (first | apply List.Mem.head | apply List.Mem.tail)); first | done | fail) hw) ?_
  refine tka 14 ?_
  refine tka 15 ?_
  refine tka 16 ?_
  refine tka 17 ?_
  refine t0 ?_
  rw [hz]
  repeat' first|refine xc ?_|refine rt ?_
  rw [show setW t k seed blk id = (setT t k seed blk id, 0) from if_pos hn]
  exact r2 ⟨o, rfl, rfl⟩
def smpE (t : List Int) (k blk : Int) : Int := if solE t k = 0 then (if numOk blk then 0 else 3) else 13
theorem smpE_zero {t : List Int} {k blk : Int} (h : smpE t k blk = 0) : solE t k = 0 ∧ numOk blk := by
  unfold smpE at h
  split at h
  · split at h
    · exact ⟨by assumption, by assumption⟩
    · cases h
  · cases h
theorem sampled_tr (s : Value) (t : List Int) (k seed blk : Int) : Tr Tryz.prog 25 [s, I k, I seed, I blk] [vw s (Is t)] []
    fun v D => (smpE t k blk = 0 ∧ ∃ cv ov, v = tup2 (.agg #[I t.sum, cv, ov, I k, I seed, I blk]) (I 0) ∧ D = [own 3 cv (Is (alF t).cut), own 3 ov (Is (alF t).oth)] ∧ cv.oneCell' = true ∧ ov.oneCell' = true) ∨
      (smpE t k blk ≠ 0 ∧ v = tup2 (.agg #[I 0, nS, nS, I 0, I 0, I 0]) (I (smpE t k blk)) ∧ D = []) := by
  refine Tr.enter env _ Tryz.func25 (by kernel_rfl) rfl Tryz.ntmps25 rfl (by repeat (first | exact has00 | refine has01 ?_)) fun w0 => ?_
  rcases solE_cases t k with hE | hE
  · obtain ⟨h1, h2, h3, h4⟩ := solE_zero hE
    repeat' first|(refine gca ?_; first|(refine ca (SoCheck_tr s t k) ?_; rintro _ _ ⟨rfl, rfl⟩; rw [hE])|(refine ca (number_tr blk) ?_; rintro _ _ ⟨rfl, rfl⟩)|(refine ca (Make_tr s t (by omega) h3 (sum_pos' h3 h4)) ?_; rintro _ _ ⟨cv, ov, rfl, rfl, hc, ho⟩))|refine al fun b => ?_|refine bdz ?_|refine srz ?_|refine lda ?_|(refine wo ?_; first|(refine ao ?_; first|refine oa ?_)|refine oa ?_)|(refine gc ?_; first|refine cf ?_|(refine cn (fun hB => ?_) (fun hB => ?_) <;> try (exfalso; omega)))|refine sq ?_|refine rg ?_|refine xc ?_|refine nl ?_|refine sk ?_|refine rt ?_
    · have e : smpE t k blk = 3 := by rw [smpE, if_pos hE, if_neg (by assumption)]
      rw [e]
      exact rca (.inr ⟨by decide, rfl, rfl⟩)
    · have e : smpE t k blk = 0 := by rw [smpE, if_pos hE, if_pos (by assumption)]
      rw [e]
      exact rca (.inl ⟨rfl, cv, ov, rfl, rfl, hc, ho⟩)
  · have e : smpE t k blk = 13 := by rw [smpE, if_neg (by omega)]
    rw [e]
    repeat' first|(refine gca ?_; first|(refine ca (SoCheck_tr s t k) ?_; rintro _ _ ⟨rfl, rfl⟩; rw [hE]))|refine al fun b => ?_|refine bdz ?_|refine srz ?_|(refine wo ?_; first|(refine ao ?_; first|refine oa ?_)|refine oa ?_)|(refine gc ?_; first|refine ct ?_)|refine sq ?_|refine rg ?_|refine xc ?_|refine nl ?_|refine rt ?_
    exact rca (.inr ⟨by decide, rfl, rfl⟩)
def setofR (t : List Int) (k seed blk id : Int) : List Int × Int := if smpE t k blk = 0 then setW t k seed blk id else ([], smpE t k blk)
theorem snoc_own {g : Int → Value} {e : TypeId} {hs : List Value} {ls : List (List Int)} {v : Value} {l : List Int} {A F : List Ch} (hl : hs.length = ls.length) (hf : Fit A [relg g hs ls, own e v (l.map g)] F) : Im A (relg g (hs ++ [v]) (ls ++ [l]) :: F) :=
by
  unfold Fit at hf
  exact Im.trans hf (Im.trans (Im.cons _ ((im_freeze e v (l.map g)).im F)) (relg_snoc hl v l F))
def newE (t : List Int) (blk : Int) (ls : List (List Int)) : Int := if blkE ls = 0 then smpE t ls.length blk else blkE ls
abbrev encP (b : Nat) (cv ov sy : Value) (hs : List Value) (t : List Int) (seed blk : Int) (ls : List (List Int)) : List Ch :=
  [pt b [I t.sum, cv, ov, I ls.length, I seed, I blk, sy] TEnc, own 3 cv (Is (alF t).cut), own 3 ov (Is (alF t).oth), own TyV sy hs, relg y8 hs ls]
structure NwG where
  i : Nat
  sy : Value
  hs : List Value
theorem New_tr (s sv : Value) (hs : List Value) (ls : List (List Int)) (t : List Int) (seed blk : Int) : Tr Tryz.prog 12 [s, sv, I seed, I blk] [vw s hs, velg y8 hs ls, vw sv (Is t)] []
    fun v D => (newE t blk ls = 0 ∧ ∃ b cv ov sy hs', v = tup2 (ptr b) (I 0) ∧ D = encP b cv ov sy hs' t seed blk ls ∧ cv.oneCell' = true ∧ ov.oneCell' = true ∧ sy.oneCell' = true) ∨ (newE t blk ls ≠ 0 ∧ v = tup2 nP (I (newE t blk ls)) ∧ D = []) := by
  have hS := sampled_tr sv t ls.length seed blk
  refine Tr.enter env _ Tryz.func12 (by kernel_rfl) rfl Tryz.ntmps12 rfl (by repeat (first | exact has00 | refine has01 ?_)) fun w0 => ?_
  refine TC.elg (g := y8) (hs := hs) (ls := ls) (fun hl => ?_)
  refine TC.fact (vw_len (v := s) (xs := hs) (by first | (apply has_vw; (repeat (first | apply List.Mem.head | apply List.Mem.tail)); first | done | fail) | (apply has_own; (repeat (first | apply List.Mem.head | apply List.Mem.tail)); first | done | fail) | (apply has_ro; (repeat (first | apply List.Mem.head | apply List.Mem.tail)); first | done | fail) | apply has_nil | ((with_reducible apply has_el); (focus (first | (apply has_vels; (repeat (first | apply List.Mem.head | apply List.Mem.tail)); first | done | fail) | (apply has_rels; (repeat (first | apply List.Mem.head | apply List.Mem.tail)); first | done | fail))); omega) | (apply has_pt; (repeat (first | apply List.Mem.head | apply List.Mem.tail)); first | done | fail) | (apply has_lpt; (repeat (first | apply List.Mem.head | apply List.Mem.tail)); first | done | fail) | (apply has_vels; (repeat (first | apply List.Mem.head | apply List.Mem.tail)); first | done | fail) | (apply has_rels; (repeat (first | apply List.Mem.head | apply List.Mem.tail)); first | done | fail) | with_reducible assumption | ((with_reducible apply has_elg); (focus (first | (apply has_velg; (repeat (first | apply List.Mem.head | apply List.Mem.tail)); first | done | fail) | (apply has_relg; (repeat (first | apply List.Mem.head | apply List.Mem.tail)); first | done | fail))); omega) | (apply has_velg; (repeat (first | apply List.Mem.head | apply List.Mem.tail)); first | done | fail) | (apply has_relg; (repeat (first | apply List.Mem.head | apply List.Mem.tail)); first | done | fail) | (apply has_vwf; (repeat (first | apply List.Mem.head | apply List.Mem.tail)); first | done | fail))) fun hsl => ?_
  repeat' first|(refine gca ?_; first|(refine ca (BCheck_tr s hs ls) ?_; rintro _ _ ⟨rfl, rfl⟩))|(refine wo ?_; first|(refine ao ?_; first|refine oa ?_)|refine oa ?_|refine ln ?_)|(refine gc ?_; first|(refine cn (fun hB => ?_) (fun hB => ?_) <;> try (exfalso; omega)))|refine sq ?_|refine rg ?_|refine xc ?_|refine nl ?_|refine sk ?_|refine rt ?_
  · rw [show newE t blk ls = blkE ls from if_neg (by assumption)]
    exact r2 (.inr ⟨by assumption, rfl, rfl⟩)
  have hb0 : blkE ls = 0 := by omega
  rw [show newE t blk ls = smpE t ls.length blk from if_pos hb0]
  obtain ⟨hk, hsz, hal⟩ := blkE_zero hb0
  rw [hl]
  repeat' first|(refine gca ?_; first|(refine ca hS ?_; rintro _ _ (⟨he, cv, ov, rfl, rfl, hc, ho⟩ | ⟨he, rfl, rfl⟩)))|refine al fun b => ?_|refine srz ?_|(refine wo ?_; first|(refine ao ?_; first|refine oa ?_)|refine oa ?_)|(refine gc ?_; first|refine cf ?_|(refine cn (fun hB => ?_) (fun hB => ?_) <;> try (exfalso; omega)))|refine sq ?_|refine rg ?_|refine xc ?_|refine nl ?_|refine sk ?_|refine rt ?_
  · repeat' first|refine lda ?_|refine bdg ?_|refine bx fun xp => ?_|(refine wo ?_; first|refine oa ?_|refine ln ?_)|refine sq ?_|refine rg ?_|refine xc ?_|refine nl ?_|refine bk ?_
    have ht0 : ls.take 0 = [] := rfl
    refine TC.im (relg_nil (g := y8) _) ?_
    refine TC.im (own_nil TyV _) ?_
    refine TC.loop (ι := NwG) (fun g => [(38, I g.i)]) (fun g => [pt xp [I t.sum, cv, ov, I ls.length, I seed, I blk, g.sy] TEnc, own TyV g.sy g.hs, relg y8 g.hs (ls.take g.i)]) (fun g => g.i ≤ ls.length ∧ g.sy.oneCell' = true ∧ g.hs.length = g.i) (fun g => ls.length - g.i) ⟨0, nS, []⟩ [36, 37, 13] ⟨by simp, rfl, rfl⟩ ?_ (hf := by dsimp only; first | apply Fit.all | ((repeat (first | (apply Fit.nilN; (repeat (first | apply nrm_nil | apply nrm_cons)); try apply nrm_rfl) | (apply Fit.cons; focus ((repeat (first | apply Tk.here | apply Tk.there)); first | done | fail)))); first | done | fail))
    rintro ⟨i, sy, hs2⟩ ⟨g1, g2, g3⟩
    dsimp only at g1 g2 g3 ⊢
    by_cases hi : i < ls.length
    · repeat' first|refine rs (id := 11) (fun _ => True) ?_ (fun _ _ => trivial)|(refine wo ?_; first|(refine ao ?_; first|refine oa ?_)|refine oa ?_|refine lv ?_|refine ixn ?_)|(refine gc ?_; first|(refine ci (fun hB => ?_) (fun hB => ?_) <;> try (exfalso; omega)))|refine sq ?_|refine rg ?_|refine xc ?_|refine nl ?_|refine sk ?_|refine bk ?_
      refine tka 0 ?_
      refine tka 1 ?_
      refine tka 2 ?_
      refine tka 3 ?_
      refine tka 5 ?_
      refine t2 4 6 ?_ ?_
      · refine ld ?_
        refine nl ?_
        refine te (fun _ _ => trivial) ?_
        refine t1 6 ?_
        refine ca (Clone_tr _ (ls.getD i []) (by have := hal _ (getD_memL hi); omega)) ?_ (hp := has1 (has_elg (has_velg (by (repeat (first | apply List.Mem.head | apply List.Mem.tail)); first | done | fail)) hi) has0)
        rintro c _ ⟨hc1, rfl⟩
        refine nl ?_
        refine te (fun _ _ => trivial) ?_
        refine t1 7 ?_
        refine sli (vs := [c]) (fun v1 => ?_) (h1 := one_cons hc1 one_nil)
        refine nl ?_
        refine te (fun _ _ => trivial) ?_
        refine t1 8 ?_
        refine ap (xs := hs2) (news := [c]) (fun sy2 => ?_) (h1 := one_cons hc1 one_nil)
        refine TO.one (v := sy2) (xs := hs2 ++ [c]) fun hsy => ?_
        refine nl ?_
        refine te (fun _ _ => trivial) ?_
        refine tka 9 ?_
        refine tka 10 ?_
        refine t1 11 ?_
        refine sr ?_
        refine nl ?_
        refine te (fun _ _ => trivial) ?_
        refine t0 ?_
        refine TX.im (snoc_own (g := y8) (e := TyB) (hs := hs2) (ls := ls.take i) (v := c) (l := ls.getD i []) (by rw [g3, List.length_take]; omega) (by first | apply Fit.all | ((repeat (first | (apply Fit.nilN; (repeat (first | apply nrm_nil | apply nrm_cons)); try apply nrm_rfl) | (apply Fit.cons; focus ((repeat (first | apply Tk.here | apply Tk.there)); first | done | fail)))); first | done | fail))) ?_
        rw [← take_succ' hi []]
        repeat' first|(refine wo ?_; first|(refine ao ?_; first|refine aw ?_)|refine oa ?_)|refine rg ?_|refine xc ?_|refine nl ?_|refine xb ?_
        exact lp ⟨i + 1, sy2, hs2 ++ [c]⟩ ⟨by dsimp only; omega, hsy, by simp [g3]⟩
      · refine ca (Clone_tr _ (ls.getD i []) (by have := hal _ (getD_memL hi); omega)) ?_ (hp := has1 (has_elg (has_velg (by (repeat (first | apply List.Mem.head | apply List.Mem.tail)); first | done | fail)) hi) has0)
        rintro c _ ⟨hc1, rfl⟩
        refine nl ?_
        refine te (fun _ _ => trivial) ?_
        refine t2 4 7 ?_ ?_
        · refine ld ?_
          refine nl ?_
          refine te (fun _ _ => trivial) ?_
          refine t1 7 ?_
          refine sli (vs := [c]) (fun v1 => ?_) (h1 := one_cons hc1 one_nil)
          refine nl ?_
          refine te (fun _ _ => trivial) ?_
          refine t1 8 ?_
          refine ap (xs := hs2) (news := [c]) (fun sy2 => ?_) (h1 := one_cons hc1 one_nil)
          refine TO.one (v := sy2) (xs := hs2 ++ [c]) fun hsy => ?_
          refine nl ?_
          refine te (fun _ _ => trivial) ?_
          refine tka 9 ?_
          refine tka 10 ?_
          refine t1 11 ?_
          refine sr ?_
          refine nl ?_
          refine te (fun _ _ => trivial) ?_
          refine t0 ?_
          refine TX.im (snoc_own (g := y8) (e := TyB) (hs := hs2) (ls := ls.take i) (v := c) (l := ls.getD i []) (by rw [g3, List.length_take]; omega) (by first | apply Fit.all | ((repeat (first | (apply Fit.nilN; (repeat (first | apply nrm_nil | apply nrm_cons)); try apply nrm_rfl) | (apply Fit.cons; focus ((repeat (first | apply Tk.here | apply Tk.there)); first | done | fail)))); first | done | fail))) ?_
          rw [← take_succ' hi []]
          repeat' first|(refine wo ?_; first|(refine ao ?_; first|refine aw ?_)|refine oa ?_)|refine rg ?_|refine xc ?_|refine nl ?_|refine xb ?_
          exact lp ⟨i + 1, sy2, hs2 ++ [c]⟩ ⟨by dsimp only; omega, hsy, by simp [g3]⟩
        · refine sli (vs := [c]) (fun v1 => ?_) (h1 := one_cons hc1 one_nil)
          refine nl ?_
          refine te (fun _ _ => trivial) ?_
          refine t1 4 ?_
          refine ld ?_
          refine nl ?_
          refine te (fun _ _ => trivial) ?_
          refine t1 8 ?_
          refine ap (xs := hs2) (news := [c]) (fun sy2 => ?_) (h1 := one_cons hc1 one_nil)
          refine TO.one (v := sy2) (xs := hs2 ++ [c]) fun hsy => ?_
          refine nl ?_
          refine te (fun _ _ => trivial) ?_
          refine tka 9 ?_
          refine tka 10 ?_
          refine t1 11 ?_
          refine sr ?_
          refine nl ?_
          refine te (fun _ _ => trivial) ?_
          refine t0 ?_
          refine TX.im (snoc_own (g := y8) (e := TyB) (hs := hs2) (ls := ls.take i) (v := c) (l := ls.getD i []) (by rw [g3, List.length_take]; omega) (by first | apply Fit.all | ((repeat (first | (apply Fit.nilN; (repeat (first | apply nrm_nil | apply nrm_cons)); try apply nrm_rfl) | (apply Fit.cons; focus ((repeat (first | apply Tk.here | apply Tk.there)); first | done | fail)))); first | done | fail))) ?_
          rw [← take_succ' hi []]
          repeat' first|(refine wo ?_; first|(refine ao ?_; first|refine aw ?_)|refine oa ?_)|refine rg ?_|refine xc ?_|refine nl ?_|refine xb ?_
          exact lp ⟨i + 1, sy2, hs2 ++ [c]⟩ ⟨by dsimp only; omega, hsy, by simp [g3]⟩
    · obtain rfl : i = ls.length := by omega
      rw [List.take_length]
      repeat' first|(refine wo ?_; first|(refine ao ?_; first|refine oa ?_)|refine oa ?_)|(refine gc ?_; first|(refine ci (fun hB => ?_) (fun hB => ?_) <;> try (exfalso; omega)))|refine sq ?_|refine rg ?_|refine xc ?_|refine nl ?_|refine xe ?_|refine rt ?_
      exact r2 (.inl ⟨he, xp, cv, ov, sy, hs2, rfl, rfl, hc, ho, g2⟩)
  · skip
    exact r2 (.inr ⟨by assumption, rfl, rfl⟩)
abbrev encL (b : Nat) (cv ov sy : Value) (hs : List Value) (t : List Int) (seed blk : Int) (ls : List (List Int)) : List Ch :=
  [lpt b [I t.sum, cv, ov, I ls.length, I seed, I blk, sy] TEnc, vw cv (Is (alF t).cut), vw ov (Is (alF t).oth), vw sy hs, velg y8 hs ls]
theorem Enone_tr (b : Nat) (x0 x1 x2 x3 x4 x5 sy : Value) (hs : List Value) : Tr Tryz.prog 38 [ptr b] [lpt b [x0, x1, x2, x3, x4, x5, sy] TEnc, vw sy hs] [] fun v D => v = .bool (decide ((hs.length : Int) = 0)) ∧ D = [] := by
  refine Tr.enter env _ Tryz.func38 (by kernel_rfl) rfl Tryz.ntmps38 rfl (by repeat (first | exact has00 | refine has01 ?_)) fun w0 => ?_
  repeat' first|(refine wo ?_; first|(refine ao ?_; first|refine oa ?_|refine ipe ?_)|refine oa ?_|refine ldl ?_|refine ln ?_|refine gy ?_)|refine sq ?_|refine rg ?_|refine xc ?_|refine nl ?_|refine rt ?_
  exact r1 ⟨rfl, rfl⟩
theorem ESet_tr (b : Nat) (cv ov sy : Value) (hs : List Value) (t : List Int) (seed blk : Int) (ls : List (List Int)) (id : Int) (hE : newE t blk ls = 0) (hc : cv.oneCell' = true) (ho : ov.oneCell' = true) :
    Tr Tryz.prog 19 [ptr b, I id] (encL b cv ov sy hs t seed blk ls) [] fun v D => ∃ o, v = tup2 o (I (setW t ls.length seed blk id).2) ∧ D = [own 3 o (Is (setW t ls.length seed blk id).1)] := by
  have hb0 : blkE ls = 0 := by unfold newE at hE; split at hE <;> omega
  have hs0 : solE t ls.length = 0 := by rw [newE, if_pos hb0] at hE; exact (smpE_zero hE).1
  obtain ⟨hk, hsz, hal⟩ := blkE_zero hb0
  refine Tr.enter env _ Tryz.func19 (by kernel_rfl) rfl Tryz.ntmps19 rfl (by repeat (first | exact has00 | refine has01 ?_)) fun w0 => ?_
  refine TC.elg (g := y8) (hs := hs) (ls := ls) (fun hl => ?_)
  repeat' first|(refine gca ?_; first|(refine ca (Enone_tr b _ _ _ _ _ _ sy hs) ?_; rintro _ _ ⟨rfl, rfl⟩; rw [decide_eq_false (show ¬ (hs.length : Int) = 0 by omega)])|(refine ca (sset_tr t ls.length seed blk id cv ov hs0 hc ho) ?_; rintro _ _ ⟨o, rfl, rfl⟩))|refine ldla ?_|(refine wo ?_; first|refine oa ?_)|(refine gc ?_; first|refine cf ?_)|refine sq ?_|refine rg ?_|refine xc ?_|refine nl ?_|refine sk ?_|refine rt ?_
  exact r2 ⟨o, rfl, rfl⟩
abbrev NoEnc (p : Value) (pre : List Ch) : Prop := Tr Tryz.prog 38 [p] pre [] fun v D => v = .bool true ∧ D = []
theorem newE_zero {t : List Int} {blk : Int} {ls : List (List Int)} (hE : newE t blk ls = 0) : blkE ls = 0 ∧ solE t ls.length = 0 ∧ numOk blk := by
  have hb0 : blkE ls = 0 := by unfold newE at hE; split at hE <;> omega
  rw [newE, if_pos hb0] at hE
  exact ⟨hb0, smpE_zero hE⟩
def pktW (t : List Int) (ls : List (List Int)) (seed blk id : Int) : List Int × Int := if numOk id then (sumL ls (setT t ls.length seed blk id), 0) else ([], 3)
theorem EPacket_tr (b : Nat) (cv ov sy : Value) (hs : List Value) (t : List Int) (seed blk : Int) (ls : List (List Int)) (id : Int) (hE : newE t blk ls = 0) (hc : cv.oneCell' = true) (ho : ov.oneCell' = true) :
    Tr Tryz.prog 17 [ptr b, I id] (encL b cv ov sy hs t seed blk ls) [] fun v D => ∃ o, v = tup2 o (I (pktW t ls seed blk id).2) ∧ o.oneCell' = true ∧ D = [own TyB o (By (pktW t ls seed blk id).1)] := by
  obtain ⟨hb0, hs0, hn0⟩ := newE_zero hE
  obtain ⟨hz, hr, hl1, hl2⟩ := setR_ok hs0 (seedOf (c64 seed) (c64 blk) (c64 id))
  change Rise (setT t ls.length seed blk id) ls.length at hr
  change 1 ≤ (setT t ls.length seed blk id).length ∧ _ at hl1
  have hS := ESet_tr b cv ov sy hs t seed blk ls id hE hc ho
  by_cases hn : numOk id
  · rw [show pktW t ls seed blk id = (sumL ls (setT t ls.length seed blk id), 0) from if_pos hn]
    rw [show setW t ls.length seed blk id = (setT t ls.length seed blk id, 0) from if_pos hn] at hS
    generalize setT t ls.length seed blk id = is at *
    refine Tr.enter env _ Tryz.func17 (by kernel_rfl) rfl Tryz.ntmps17 rfl (by repeat (first | exact has00 | refine has01 ?_)) fun w0 => ?_
    repeat' first|(refine gca ?_; first|(refine ca hS ?_; rintro _ _ ⟨o, rfl, rfl⟩)|(refine ca (Sum_tr sy o hs ls is hb0 hr (by omega)) ?_; rintro _ _ ⟨q, rfl, hq, rfl⟩))|(refine wo ?_; first|(refine ao ?_; first|refine oa ?_)|refine oa ?_|refine ldl ?_)|(refine gc ?_; first|refine cf ?_)|refine sq ?_|refine rg ?_|refine xc ?_|refine nl ?_|refine sk ?_|refine rt ?_
    exact r2 ⟨q, rfl, hq, rfl⟩
  · rw [show pktW t ls seed blk id = ([], 3) from if_neg hn]
    rw [show setW t ls.length seed blk id = ([], 3) from if_neg hn] at hS
    refine Tr.enter env _ Tryz.func17 (by kernel_rfl) rfl Tryz.ntmps17 rfl (by repeat (first | exact has00 | refine has01 ?_)) fun w0 => ?_
    repeat' first|(refine gca ?_; first|(refine ca hS ?_; rintro _ _ ⟨o, rfl, rfl⟩))|(refine wo ?_; first|(refine ao ?_; first|refine oa ?_)|refine oa ?_)|(refine gc ?_; first|refine ct ?_)|refine sq ?_|refine rg ?_|refine xc ?_|refine nl ?_|refine rt ?_
    refine TX.im (own_nil TyB _) ?_
    exact r2 ⟨nS, rfl, rfl, rfl⟩
end Go.Art
set_option linter.unusedSimpArgs false
set_option linter.unusedVariables false
namespace Go.Art
open Go Go.Proofs Go.RowKit

def inB (l : List Int) : Prop := ∀ x ∈ l, 0 ≤ x ∧ x ≤ 255
theorem inB.nil : inB [] := fun _ h => nomatch h
theorem inB.rep (n : Nat) {x : Int} (h : 0 ≤ x ∧ x ≤ 255) : inB (List.replicate n x) := fun y hy => by rw [List.eq_of_mem_replicate hy]; exact h
theorem inB.xor {l m : List Int} : inB (xorL l m) := fun y hy => by
  unfold xorL at hy
  obtain ⟨i, hi, rfl⟩ := List.mem_iff_getElem.1 hy
  rw [List.getElem_zipWith]; exact bxr_range _ _
theorem u8_inj {a b : Int} (ha : 0 ≤ a ∧ a ≤ 255) (hb : 0 ≤ b ∧ b ≤ 255) (h : UInt8.ofNat a.toNat = UInt8.ofNat b.toNat) : a = b := by
  have h1 := congrArg UInt8.toNat h
  simp at h1
  omega
theorem strOf_inj : ∀ {l m : List Int}, inB l → inB m → (l.map fun n => UInt8.ofNat n.toNat) = (m.map fun n => UInt8.ofNat n.toNat) → l = m
  | [], [], _, _, _ => rfl
  | [], _ :: _, _, _, h => by simp at h
  | _ :: _, [], _, _, h => by simp at h
  | a :: l, b :: m, ha, hb, h => by
    simp only [List.map_cons, List.cons.injEq] at h
    rw [u8_inj (ha a (by simp)) (hb b (by simp)) h.1, strOf_inj (fun x hx => ha x (by simp [hx])) (fun x hx => hb x (by simp [hx])) h.2]
theorem toListLoop (b : ByteArray) : ∀ (m i : Nat) (r : List UInt8), b.size - i = m → ByteArray.toList.loop b i r = r.reverse ++ b.data.toList.drop i := by
  intro m
  induction m with
  | zero =>
    intro i r h
    have hs : b.size = b.data.toList.length := rfl
    rw [ByteArray.toList.loop, if_neg (by omega), List.drop_eq_nil_of_le (by omega), List.append_nil]
  | succ m ih =>
    intro i r h
    have hs : b.size = b.data.toList.length := rfl
    have hi : i < b.data.toList.length := by omega
    rw [ByteArray.toList.loop, if_pos (by omega), ih (i + 1) _ (by omega), List.drop_eq_getElem_cons hi, List.reverse_cons, List.append_assoc]
    congr 1
    have : b.get! i = b.data.toList[i] := by
      show b.data[i]! = _
      rw [getElem!_pos b.data i (by simpa using hi)]; simp
    rw [this]; rfl
theorem toList_data (b : ByteArray) : b.toList = b.data.toList := by
  unfold ByteArray.toList
  rw [toListLoop b _ 0 [] rfl]; rfl
theorem str_eq {l m : List Int} (hl : inB l) (hm : inB m) : ((strOfNums l).toList == (strOfNums m).toList) = decide (l = m) := by
  rw [Bool.eq_iff_iff, decide_eq_true_iff, beq_iff_eq, toList_data, toList_data, strOfNums_data, strOfNums_data]
  constructor
  · exact fun h => strOf_inj hl hm h
  · rintro rfl; rfl
section
variable {P : Program} {E : Env P} {n : Sh} {X : Cx} {s : List K} {fr : Fr} {A : List Ch} {ops : Array Oper} {rest : List Oper} {d : Nat} {ty t t' el : TypeId} {pos : String} {after : Array Edge} {v : Value} {x y : Operand} {w : World} {l l' : List Int} {a b : ByteArray}
theorem R_bstr (ht : lk E.und t = some (.slice el)) (he : lk E.und el = some (.int .u8)) (ht' : lk E.und t' = some .string) (hx : ev fr x = some v) (hs : Sl w v (By l)) : OpV P n fr (.convert t t' x) ty w (.string (strOfNums l)) w := ⟨fun ac ha _ _ _ _ => by
  obtain ⟨o, c, rfl, h1, h2, h3⟩ := hs
  have h4 := run_convert_bytes_string (P := P) w t t' el o (By l).length c (E.un ht) (E.un he) (E.un ht')
  have h8 : (convert t t' (.slice o (By l).length c)).run P w = .ok (.string (strOfNums l)) w := by
    rw [h4]
    cases o with
    | none =>
      cases l with
      | nil => rfl
      | cons z r => obtain ⟨_, h, _⟩ := h3 0 _ (by rfl); cases h
    | some ad =>
      have h5 := run_loadCells_list (P := P) w ad (By l) (fun j u hj => by obtain ⟨q, h6, h7⟩ := h3 j u hj; cases h6; exact h7)
      rw [run_bytesToString w ad _ c l h5, foldl_push_bytes]
      simp [strOfNums, ByteArray.empty, ByteArray.emptyWithCapacity]
      rfl
  simp only [execOp, ha.ev hx]
  simp only [Sem.run_bind, h8, Result.andThen_ok]
  rfl⟩
theorem bst (k : TO E n X s ops rest ((d, .string (strOfNums l)) :: fr) A) (hx : ev fr x = some v := by rfl) (hh : Has A (vw v (By l)) := by first | (apply has_vw; (repeat (first | apply List.Mem.head | apply List.Mem.tail)); first | done | fail) | (apply has_own; (repeat (first | apply List.Mem.head | apply List.Mem.tail)); first | done | fail) | (apply has_ro; (repeat (first | apply List.Mem.head | apply List.Mem.tail)); first | done | fail) | apply has_nil | ((with_reducible apply has_el); (focus (first | (apply has_vels; (repeat (first | apply List.Mem.head | apply List.Mem.tail)); first | done | fail) | (apply has_rels; (repeat (first | apply List.Mem.head | apply List.Mem.tail)); first | done | fail))); omega) | (apply has_pt; (repeat (first | apply List.Mem.head | apply List.Mem.tail)); first | done | fail) | (apply has_lpt; (repeat (first | apply List.Mem.head | apply List.Mem.tail)); first | done | fail) | (apply has_vels; (repeat (first | apply List.Mem.head | apply List.Mem.tail)); first | done | fail) | (apply has_rels; (repeat (first | apply List.Mem.head | apply List.Mem.tail)); first | done | fail) | with_reducible assumption | ((with_reducible apply has_elg); (focus (first | (apply has_velg; (repeat (first | apply List.Mem.head | apply List.Mem.tail)); first | done | fail) | (apply has_relg; (repeat (first | apply List.Mem.head | apply List.Mem.tail)); first | done | fail))); omega) | (apply has_velg; (repeat (first | apply List.Mem.head | apply List.Mem.tail)); first | done | fail) | (apply has_relg; (repeat (first | apply List.Mem.head | apply List.Mem.tail)); first | done | fail) | (apply has_vwf; (repeat (first | apply List.Mem.head | apply List.Mem.tail)); first | done | fail)) (ht : lk E.und t = some (.slice el) := by rfl) (he : lk E.und el = some (.int .u8) := by rfl) (ht' : lk E.und t' = some .string := by rfl) (hd : Nat.blt d n.n = true := by rfl) :
    TO E n X s ops (⟨some d, .convert t t' x, ty, pos, after, none⟩ :: rest) fr A := TO.val (fun _ h => R_bstr ht he ht' hx (has_sl h hh)) k hd
theorem R_streq (hx : ev fr x = some (.string a)) (hy : ev fr y = some (.string b)) : OpV P n fr (.binOp .eql t x y t') ty w (.bool (a.toList == b.toList)) w := ⟨fun ac ha _ _ _ _ => by
  have hg : (eqGuard .eql t x y (.string a) (.string b)).run P w = .ok () w := rfl
  simp only [execOp, ha.ev hx, ha.ev hy]
  simp [hg, binOp, Op.stringOp]⟩
theorem seq_ (k : TO E n X s ops rest ((d, .bool (decide (l = l'))) :: fr) A) (hx : ev fr x = some (.string (strOfNums l)) := by rfl) (hy : ev fr y = some (.string (strOfNums l')) := by rfl) (hl : inB l := by assumption) (hl' : inB l' := by assumption) (hd : Nat.blt d n.n = true := by rfl) :
    TO E n X s ops (⟨some d, .binOp .eql t x y t', ty, pos, after, none⟩ :: rest) fr A := TO.val (fun _ _ => by rw [← str_eq hl hl']; exact R_streq hx hy) k hd
end
attribute [local irreducible] Fit pt own ro vw mpc lpt vels rels mow lrc dfr
attribute [local irreducible] lmp lme mit velg relg
theorem SameBytes_tr (a b : Value) (l m : List Int) (hl : inB l) (hm : inB m) : Tr Tryz.prog 21 [a, b] [vw a (By l), vw b (By m)] [] fun v D => v = .bool (decide (l = m)) ∧ D = [] := by
  refine Tr.enter env _ Tryz.func21 (by kernel_rfl) rfl Tryz.ntmps21 rfl (by repeat (first | exact has00 | refine has01 ?_)) fun w0 => ?_
  repeat' first|refine bst (l := l) ?_|refine bst (l := m) ?_|refine seq_ ?_|(refine wo ?_; first|refine oa ?_)|refine sq ?_|refine rg ?_|refine xc ?_|refine nl ?_|refine rt ?_
  exact r1 ⟨rfl, rfl⟩
end Go.Art
set_option linter.unusedSimpArgs false
set_option linter.unusedVariables false
namespace Go.Art
open Go Go.Proofs Go.RowKit

def unI : List Value → Option (List Int)
  | [] => some []
  | .int .i64 x :: r => match unI r with
    | some a => some (x :: a)
    | none => none
  | _ => none
theorem unI_eq : ∀ {vs : List Value} {l : List Int}, unI vs = some l → vs = Is l
  | [], l, h => by cases h; rfl
  | .int .i64 x :: r, l, h => by
    cases ha : unI r with
    | none => simp [unI, ha] at h
    | some a => simp [unI, ha] at h; subst h; rw [unI_eq ha]; rfl
def unB : List Value → Option (List Int)
  | [] => some []
  | .int .u8 x :: r => match unB r with
    | some a => some (x :: a)
    | none => none
  | _ => none
theorem unB_eq : ∀ {vs : List Value} {l : List Int}, unB vs = some l → vs = By l
  | [], l, h => by cases h; rfl
  | .int .u8 x :: r, l, h => by
    cases ha : unB r with
    | none => simp [unB, ha] at h
    | some a => simp [unB, ha] at h; subst h; rw [unB_eq ha]; rfl
section
variable {P : Program} {E : Env P} {n : Sh} {X : Cx} {s : List K} {fr : Fr} {A A' : List Ch} {ops : Array Oper} {rest : List Oper} {d m : Nat} {ty t e : TypeId} {pos : String} {after : Array Edge} {v z : Value} {x y : Operand} {by_ : Nat} {parts : List (Nat × Operand)} {vs : List Value}
theorem slz {l : List Int} (k : ∀ v', v'.oneCell' = true → TO E n X s ops rest ((d, v') :: fr) (own e v' (Is l) :: A)) (hp : parts = idxP 0 (parts.map (·.2)) := by rfl) (hv : evs fr (parts.map (·.2)) = some vs := by rfl) (hi : unI vs = some l := by rfl)
    (hk : l.length = m := by rfl) (hk0 : Nat.blt 0 m = true := by rfl) (hkm : Nat.ble m 16777216 = true := by rfl) (ht : lk E.und t = some (.slice e) := by rfl) (he : lk E.inf e = some (z, 1, by_) := by rfl) (hd : Nat.blt d n.n = true := by rfl) :
    TO E n X s ops (⟨some d, .buildSlice t m parts.toArray, ty, pos, after, none⟩ :: rest) fr A := by
  have := unI_eq hi
  subst this
  exact sli (fun v => TO.one (v := v) (xs := Is l) (fun h => k v h) (by first | (apply has_vw; (repeat (first | apply List.Mem.head | apply List.Mem.tail)); first | done | fail) | (apply has_own; (repeat (first | apply List.Mem.head | apply List.Mem.tail)); first | done | fail) | (apply has_ro; (repeat (first | apply List.Mem.head | apply List.Mem.tail)); first | done | fail) | apply has_nil | ((with_reducible apply has_el); (focus (first | (apply has_vels; (repeat (first | apply List.Mem.head | apply List.Mem.tail)); first | done | fail) | (apply has_rels; (repeat (first | apply List.Mem.head | apply List.Mem.tail)); first | done | fail))); omega) | (apply has_pt; (repeat (first | apply List.Mem.head | apply List.Mem.tail)); first | done | fail) | (apply has_lpt; (repeat (first | apply List.Mem.head | apply List.Mem.tail)); first | done | fail) | (apply has_vels; (repeat (first | apply List.Mem.head | apply List.Mem.tail)); first | done | fail) | (apply has_rels; (repeat (first | apply List.Mem.head | apply List.Mem.tail)); first | done | fail) | with_reducible assumption | ((with_reducible apply has_elg); (focus (first | (apply has_velg; (repeat (first | apply List.Mem.head | apply List.Mem.tail)); first | done | fail) | (apply has_relg; (repeat (first | apply List.Mem.head | apply List.Mem.tail)); first | done | fail))); omega) | (apply has_velg; (repeat (first | apply List.Mem.head | apply List.Mem.tail)); first | done | fail) | (apply has_relg; (repeat (first | apply List.Mem.head | apply List.Mem.tail)); first | done | fail) | (apply has_vwf; (repeat (first | apply List.Mem.head | apply List.Mem.tail)); first | done | fail))) hp hv (Is_one l) (by rw [Is_len]; exact hk) hk0 hkm ht he hd
theorem slbz {l : List Int} (k : ∀ v', v'.oneCell' = true → TO E n X s ops rest ((d, v') :: fr) (own e v' (By l) :: A)) (hp : parts = idxP 0 (parts.map (·.2)) := by rfl) (hv : evs fr (parts.map (·.2)) = some vs := by rfl) (hi : unB vs = some l := by rfl)
    (hk : l.length = m := by rfl) (hk0 : Nat.blt 0 m = true := by rfl) (hkm : Nat.ble m 16777216 = true := by rfl) (ht : lk E.und t = some (.slice e) := by rfl) (he : lk E.inf e = some (z, 1, by_) := by rfl) (hd : Nat.blt d n.n = true := by rfl) :
    TO E n X s ops (⟨some d, .buildSlice t m parts.toArray, ty, pos, after, none⟩ :: rest) fr A := by
  have := unB_eq hi
  subst this
  exact sli (fun v => TO.one (v := v) (xs := By l) (fun h => k v h) (by first | (apply has_vw; (repeat (first | apply List.Mem.head | apply List.Mem.tail)); first | done | fail) | (apply has_own; (repeat (first | apply List.Mem.head | apply List.Mem.tail)); first | done | fail) | (apply has_ro; (repeat (first | apply List.Mem.head | apply List.Mem.tail)); first | done | fail) | apply has_nil | ((with_reducible apply has_el); (focus (first | (apply has_vels; (repeat (first | apply List.Mem.head | apply List.Mem.tail)); first | done | fail) | (apply has_rels; (repeat (first | apply List.Mem.head | apply List.Mem.tail)); first | done | fail))); omega) | (apply has_pt; (repeat (first | apply List.Mem.head | apply List.Mem.tail)); first | done | fail) | (apply has_lpt; (repeat (first | apply List.Mem.head | apply List.Mem.tail)); first | done | fail) | (apply has_vels; (repeat (first | apply List.Mem.head | apply List.Mem.tail)); first | done | fail) | (apply has_rels; (repeat (first | apply List.Mem.head | apply List.Mem.tail)); first | done | fail) | with_reducible assumption | ((with_reducible apply has_elg); (focus (first | (apply has_velg; (repeat (first | apply List.Mem.head | apply List.Mem.tail)); first | done | fail) | (apply has_relg; (repeat (first | apply List.Mem.head | apply List.Mem.tail)); first | done | fail))); omega) | (apply has_velg; (repeat (first | apply List.Mem.head | apply List.Mem.tail)); first | done | fail) | (apply has_relg; (repeat (first | apply List.Mem.head | apply List.Mem.tail)); first | done | fail) | (apply has_vwf; (repeat (first | apply List.Mem.head | apply List.Mem.tail)); first | done | fail))) hp hv (By_one l) (by rw [By_len]; exact hk) hk0 hkm ht he hd
theorem slw (k : ∀ v', v'.oneCell' = true → TO E n X s ops rest ((d, v') :: fr) (own e v' vs :: A)) (hp : parts = idxP 0 (parts.map (·.2)) := by rfl) (hv : evs fr (parts.map (·.2)) = some vs := by rfl)
    (h1 : ∀ c ∈ vs, c.oneCell' = true := by (repeat (first | exact one_nil | refine one_cons (by first | rfl | assumption) ?_)); first | done | fail)
    (hk : vs.length = m := by rfl) (hk0 : Nat.blt 0 m = true := by rfl) (hkm : Nat.ble m 16777216 = true := by rfl) (ht : lk E.und t = some (.slice e) := by rfl) (he : lk E.inf e = some (z, 1, by_) := by rfl) (hd : Nat.blt d n.n = true := by rfl) :
    TO E n X s ops (⟨some d, .buildSlice t m parts.toArray, ty, pos, after, none⟩ :: rest) fr A :=
  sli (fun v => TO.one (v := v) (xs := vs) (fun h => k v h) (by first | (apply has_vw; (repeat (first | apply List.Mem.head | apply List.Mem.tail)); first | done | fail) | (apply has_own; (repeat (first | apply List.Mem.head | apply List.Mem.tail)); first | done | fail) | (apply has_ro; (repeat (first | apply List.Mem.head | apply List.Mem.tail)); first | done | fail) | apply has_nil | ((with_reducible apply has_el); (focus (first | (apply has_vels; (repeat (first | apply List.Mem.head | apply List.Mem.tail)); first | done | fail) | (apply has_rels; (repeat (first | apply List.Mem.head | apply List.Mem.tail)); first | done | fail))); omega) | (apply has_pt; (repeat (first | apply List.Mem.head | apply List.Mem.tail)); first | done | fail) | (apply has_lpt; (repeat (first | apply List.Mem.head | apply List.Mem.tail)); first | done | fail) | (apply has_vels; (repeat (first | apply List.Mem.head | apply List.Mem.tail)); first | done | fail) | (apply has_rels; (repeat (first | apply List.Mem.head | apply List.Mem.tail)); first | done | fail) | with_reducible assumption | ((with_reducible apply has_elg); (focus (first | (apply has_velg; (repeat (first | apply List.Mem.head | apply List.Mem.tail)); first | done | fail) | (apply has_relg; (repeat (first | apply List.Mem.head | apply List.Mem.tail)); first | done | fail))); omega) | (apply has_velg; (repeat (first | apply List.Mem.head | apply List.Mem.tail)); first | done | fail) | (apply has_relg; (repeat (first | apply List.Mem.head | apply List.Mem.tail)); first | done | fail) | (apply has_vwf; (repeat (first | apply List.Mem.head | apply List.Mem.tail)); first | done | fail))) hp hv h1 hk hk0 hkm ht he hd
end
section
variable {P : Program} {E : Env P} {n : Sh} {X : Cx} {s : List K} {fr : Fr} {A A' : List Ch} {ops : Array Oper} {rest : List Oper} {d j by_ : Nat} {ty t el : TypeId} {pos : String} {after : Array Edge} {v z : Value} {x y : Operand} {l : List Int} {dt : TypeDesc} {m : Int}
theorem lb (k : TO E n X s ops rest ((d, y8 (l.getD j 0)) :: fr) A) (hx : ev fr x = some (.pointer (some (addrAt v j))) := by rfl) (hh : Has A (vw v (By l)) := by first | (apply has_vw; (repeat (first | apply List.Mem.head | apply List.Mem.tail)); first | done | fail) | (apply has_own; (repeat (first | apply List.Mem.head | apply List.Mem.tail)); first | done | fail) | (apply has_ro; (repeat (first | apply List.Mem.head | apply List.Mem.tail)); first | done | fail) | apply has_nil | ((with_reducible apply has_el); (focus (first | (apply has_vels; (repeat (first | apply List.Mem.head | apply List.Mem.tail)); first | done | fail) | (apply has_rels; (repeat (first | apply List.Mem.head | apply List.Mem.tail)); first | done | fail))); omega) | (apply has_pt; (repeat (first | apply List.Mem.head | apply List.Mem.tail)); first | done | fail) | (apply has_lpt; (repeat (first | apply List.Mem.head | apply List.Mem.tail)); first | done | fail) | (apply has_vels; (repeat (first | apply List.Mem.head | apply List.Mem.tail)); first | done | fail) | (apply has_rels; (repeat (first | apply List.Mem.head | apply List.Mem.tail)); first | done | fail) | with_reducible assumption | ((with_reducible apply has_elg); (focus (first | (apply has_velg; (repeat (first | apply List.Mem.head | apply List.Mem.tail)); first | done | fail) | (apply has_relg; (repeat (first | apply List.Mem.head | apply List.Mem.tail)); first | done | fail))); omega) | (apply has_velg; (repeat (first | apply List.Mem.head | apply List.Mem.tail)); first | done | fail) | (apply has_relg; (repeat (first | apply List.Mem.head | apply List.Mem.tail)); first | done | fail) | (apply has_vwf; (repeat (first | apply List.Mem.head | apply List.Mem.tail)); first | done | fail)) (hj : j < l.length := by omega)
    (ht : lk E.und t = some dt := by rfl) (hg : aggB dt = false := by rfl) (hd : Nat.blt d n.n = true := by rfl) : TO E n X s ops (⟨some d, .load t x, ty, pos, after, none⟩ :: rest) fr A := le k hx hh (By_get l j hj) ht hg hd
theorem sob (k : TO E n X s ops rest fr (own el v (By (l.set j m)) :: A')) (hx : ev fr x = some (.pointer (some (addrAt v j))) := by rfl) (hm : Tk (own el v (By l)) A A' := by (repeat (first | apply Tk.here | apply Tk.there)); first | done | fail) (hy : ev fr y = some (y8 m) := by rfl)
    (hj : j < l.length := by omega) (ht : lk E.inf t = some (z, 1, by_) := by rfl) : TO E n X s ops (⟨none, .store t x y, ty, pos, after, none⟩ :: rest) fr A := so k hx hm hy (by rw [By_len]; exact hj) (By_set l j m) rfl ht
end
theorem has_elg_nil {g : Int → Value} {F : List Ch} : Has F (velg g [] []) := ⟨fun _ _ => ⟨rfl, fun i hi => by simp at hi⟩, fun _ h => h, fun _ h => h, fun b hb => by
  rcases hb with hb | hb | ⟨i, hi, _⟩
  · exact hb.elim
  · exact hb.elim
  · simp at hi⟩
theorem has_elg_cons {g : Int → Value} {F : List Ch} {v : Value} {l : List Int} {hs : List Value} {ls : List (List Int)} (h : Has F (vw v (l.map g))) (k : Has F (velg g hs ls)) : Has F (velg g (v :: hs) (l :: ls)) := by
  have hb : ∀ b, (velg g (v :: hs) (l :: ls)).ft b → (vw v (l.map g)).ft b ∨ (velg g hs ls).ft b := fun b hb => by
    rcases hb with hb | hb | ⟨i, hi, h1, h2⟩
    · exact hb.elim
    · exact hb.elim
    · cases i with
      | zero => exact .inl (.inr (.inr ⟨h1, h2⟩))
      | succ i => exact .inr (.inr (.inr ⟨i, by simpa using hi, h1, h2⟩))
  refine ⟨fun w hw => ?_, fun b h => h, fun b h => h, fun b hx => ?_⟩
  · have h1 := h.P w hw
    have h2 := k.P w hw
    exact ⟨congrArg (· + 1) h2.1, fun i hi => by
      cases i with
      | zero => exact h1
      | succ i => exact h2.2 i (by simpa using hi)⟩
  · rcases hb b hx with h1 | h1
    · exact h.ft b h1
    · exact k.ft b h1
theorem hpl_nil : ∀ c ∈ ([] : List Ch), ∀ A : List Ch, c ∈ A → Has A c := fun _ h => nomatch h
theorem Tr.law {P : Program} {f : FuncId} {args : List Value} {pre : List Ch} (h : Tr P f args pre [] fun v D => v = .bool true ∧ D = []) {w : World} (hw : Sat pre w) : Fn P f args w fun v w' => v = .bool true ∧ Ext w w' :=
  (h.fn hw).mono fun _ _ ⟨he, _, ⟨hv, _⟩, _⟩ => ⟨hv, he⟩
end Go.Art
set_option linter.unusedSimpArgs false
set_option linter.unusedVariables false
namespace Go.Art
open Go Go.Proofs Go.RowKit
abbrev Bo (l : List Bool) : List Value := l.map Value.bool
theorem Bo_get (l : List Bool) (j : Nat) (h : j < l.length) : (Bo l)[j]? = some (.bool (l.getD j false)) := by
  unfold Bo; rw [List.getElem?_map, List.getElem?_eq_getElem h, List.getD_eq_getElem?_getD, List.getElem?_eq_getElem h]; rfl
section
variable {P : Program} {E : Env P} {n : Sh} {X : Cx} {s : List K} {fr : Fr} {A A' : List Ch} {ops : Array Oper} {rest : List Oper} {d : Nat} {ty t el : TypeId} {pos : String} {after : Array Edge} {z v : Value} {x y : Operand} {by_ : Nat}
theorem lbo {l : List Bool} {j : Nat} {dt : TypeDesc} (k : TO E n X s ops rest ((d, .bool (l.getD j false)) :: fr) A) (hx : ev fr x = some (.pointer (some (addrAt v j))) := by rfl) (hh : Has A (vw v (Bo l)) := by first | (apply has_vw; (repeat (first | apply List.Mem.head | apply List.Mem.tail)); first | done | fail) | (apply has_own; (repeat (first | apply List.Mem.head | apply List.Mem.tail)); first | done | fail) | (apply has_ro; (repeat (first | apply List.Mem.head | apply List.Mem.tail)); first | done | fail) | apply has_nil | ((with_reducible apply has_el); (focus (first | (apply has_vels; (repeat (first | apply List.Mem.head | apply List.Mem.tail)); first | done | fail) | (apply has_rels; (repeat (first | apply List.Mem.head | apply List.Mem.tail)); first | done | fail))); omega) | (apply has_pt; (repeat (first | apply List.Mem.head | apply List.Mem.tail)); first | done | fail) | (apply has_lpt; (repeat (first | apply List.Mem.head | apply List.Mem.tail)); first | done | fail) | (apply has_vels; (repeat (first | apply List.Mem.head | apply List.Mem.tail)); first | done | fail) | (apply has_rels; (repeat (first | apply List.Mem.head | apply List.Mem.tail)); first | done | fail) | with_reducible assumption | ((with_reducible apply has_elg); (focus (first | (apply has_velg; (repeat (first | apply List.Mem.head | apply List.Mem.tail)); first | done | fail) | (apply has_relg; (repeat (first | apply List.Mem.head | apply List.Mem.tail)); first | done | fail))); omega) | (apply has_velg; (repeat (first | apply List.Mem.head | apply List.Mem.tail)); first | done | fail) | (apply has_relg; (repeat (first | apply List.Mem.head | apply List.Mem.tail)); first | done | fail) | (apply has_vwf; (repeat (first | apply List.Mem.head | apply List.Mem.tail)); first | done | fail)) (hj : j < l.length := by omega)
    (ht : lk E.und t = some dt := by rfl) (hg : aggB dt = false := by rfl) (hd : Nat.blt d n.n = true := by rfl) : TO E n X s ops (⟨some d, .load t x, ty, pos, after, none⟩ :: rest) fr A := le k hx hh (Bo_get l j hj) ht hg hd
end
section
variable {P : Program} {E : Env P} {n : Sh} {X : Cx} {s : List K} {fr : Fr} {A A' : List Ch} {ops : Array Oper} {rest : List Oper} {d : Nat} {ty t : TypeId} {pos : String} {after : Array Edge} {x y : Operand} {v u z : Value} {by_ : Nat} {l news : List Int}
theorem apb {e : TypeId} (k : ∀ v', v'.oneCell' = true → TO E n X s ops rest ((d, v') :: fr) (own e v' (By (l ++ news)) :: A')) (hx : ev fr x = some v := by rfl) (hy : ev fr y = some u := by rfl) (hm : Tk (own e v (By l)) A A' := by (repeat (first | apply Tk.here | apply Tk.there)); first | done | fail) (hu : Has A' (vw u (By news)) := by first | (apply has_vw; (repeat (first | apply List.Mem.head | apply List.Mem.tail)); first | done | fail) | (apply has_own; (repeat (first | apply List.Mem.head | apply List.Mem.tail)); first | done | fail) | (apply has_ro; (repeat (first | apply List.Mem.head | apply List.Mem.tail)); first | done | fail) | apply has_nil | ((with_reducible apply has_el); (focus (first | (apply has_vels; (repeat (first | apply List.Mem.head | apply List.Mem.tail)); first | done | fail) | (apply has_rels; (repeat (first | apply List.Mem.head | apply List.Mem.tail)); first | done | fail))); omega) | (apply has_pt; (repeat (first | apply List.Mem.head | apply List.Mem.tail)); first | done | fail) | (apply has_lpt; (repeat (first | apply List.Mem.head | apply List.Mem.tail)); first | done | fail) | (apply has_vels; (repeat (first | apply List.Mem.head | apply List.Mem.tail)); first | done | fail) | (apply has_rels; (repeat (first | apply List.Mem.head | apply List.Mem.tail)); first | done | fail) | with_reducible assumption | ((with_reducible apply has_elg); (focus (first | (apply has_velg; (repeat (first | apply List.Mem.head | apply List.Mem.tail)); first | done | fail) | (apply has_relg; (repeat (first | apply List.Mem.head | apply List.Mem.tail)); first | done | fail))); omega) | (apply has_velg; (repeat (first | apply List.Mem.head | apply List.Mem.tail)); first | done | fail) | (apply has_relg; (repeat (first | apply List.Mem.head | apply List.Mem.tail)); first | done | fail) | (apply has_vwf; (repeat (first | apply List.Mem.head | apply List.Mem.tail)); first | done | fail))
    (hl : l.length + news.length ≤ 17592186044416 := by first | omega | (simp only [List.length_append, List.length_cons, List.length_nil]; omega)) (ht : lk E.und t = some (.slice e) := by rfl) (he : lk E.inf e = some (z, 1, by_) := by rfl) (hz : z.cells.size = 1 := by rfl) (hb : by_ ≤ 8 := by decide)
    (hd : Nat.blt d n.n = true := by rfl) : TO E n X s ops (⟨some d, .call ⟨.builtin .append, #[x, y], #[t, t]⟩, ty, pos, after, none⟩ :: rest) fr A :=
  ap (fun v' => by
    have := fun h => k v' h
    rw [By, List.map_append] at this
    exact TO.one (v := v') (xs := By l ++ By news) (fun h => this h) (by first | (apply has_vw; (repeat (first | apply List.Mem.head | apply List.Mem.tail)); first | done | fail) | (apply has_own; (repeat (first | apply List.Mem.head | apply List.Mem.tail)); first | done | fail) | (apply has_ro; (repeat (first | apply List.Mem.head | apply List.Mem.tail)); first | done | fail) | apply has_nil | ((with_reducible apply has_el); (focus (first | (apply has_vels; (repeat (first | apply List.Mem.head | apply List.Mem.tail)); first | done | fail) | (apply has_rels; (repeat (first | apply List.Mem.head | apply List.Mem.tail)); first | done | fail))); omega) | (apply has_pt; (repeat (first | apply List.Mem.head | apply List.Mem.tail)); first | done | fail) | (apply has_lpt; (repeat (first | apply List.Mem.head | apply List.Mem.tail)); first | done | fail) | (apply has_vels; (repeat (first | apply List.Mem.head | apply List.Mem.tail)); first | done | fail) | (apply has_rels; (repeat (first | apply List.Mem.head | apply List.Mem.tail)); first | done | fail) | with_reducible assumption | ((with_reducible apply has_elg); (focus (first | (apply has_velg; (repeat (first | apply List.Mem.head | apply List.Mem.tail)); first | done | fail) | (apply has_relg; (repeat (first | apply List.Mem.head | apply List.Mem.tail)); first | done | fail))); omega) | (apply has_velg; (repeat (first | apply List.Mem.head | apply List.Mem.tail)); first | done | fail) | (apply has_relg; (repeat (first | apply List.Mem.head | apply List.Mem.tail)); first | done | fail) | (apply has_vwf; (repeat (first | apply List.Mem.head | apply List.Mem.tail)); first | done | fail))) hx hy hm hu (By_one news) ht he hz (by rw [By_len, By_len]; have := Nat.mul_le_mul hl hb; omega) (by rw [By_len, By_len]; omega) hd
end
theorem lpt_at {A : List Ch} {w : World} {b : Nat} {cs : List Value} {T : TypeId} (h : lpt b cs T ∈ A) (hw : Sat A w) : w.heap[b]? = some (.cells cs.toArray T (0, 0)) := hw.h (lpt b cs T) h
end Go.Art
set_option linter.unusedSimpArgs false
set_option linter.unusedVariables false
namespace Go.Art
open Go Go.Proofs Go.RowKit
section
variable {P : Program} {E : Env P} {n : Sh} {X : Cx} {s : List K} {fr : Fr} {A : List Ch} {ops : Array Oper} {rest : List Oper} {d : Nat} {ty t t' : TypeId} {pos : String} {after : Array Edge} {x y : Operand} {b1 b2 : Bool}
theorem R_bne {w : World} (hx : ev fr x = some (.bool b1)) (hy : ev fr y = some (.bool b2)) (ht : lk E.und t = some .bool) : OpV P n fr (.binOp .neq t x y t') ty w (.bool (!(b1 == b2))) w := ⟨fun a ha _ _ _ _ => by
  have hg : (eqGuard .neq t x y (.bool b1) (.bool b2)).run P w = .ok () w := rfl
  simp only [execOp, ha.ev hx, ha.ev hy]
  simp [hg, run_neq_bool (P := P) w t b1 b2 (E.un ht)]⟩
theorem ibn (k : TO E n X s ops rest ((d, .bool (!(b1 == b2))) :: fr) A) (hx : ev fr x = some (.bool b1) := by rfl) (hy : ev fr y = some (.bool b2) := by rfl) (ht : lk E.und t = some .bool := by rfl) (hd : Nat.blt d n.n = true := by rfl) :
    TO E n X s ops (⟨some d, .binOp .neq t x y t', ty, pos, after, none⟩ :: rest) fr A := TO.val (fun _ _ => R_bne hx hy ht) k hd
end
def bnd (C : List Ch) : Ch where
  wr := wrs C
  rd := rds C
  bd := fun b => ∃ c ∈ C, c.bd b
  P := Sat C
  loc := fun h hb => ⟨h.ap, fun c hc => c.loc (h.h c hc) fun b hf => hb b (by
    rcases hf with hf | hf | hf
    · exact .inl ⟨c, hc, hf⟩
    · exact .inr (.inl ⟨c, hc, hf⟩)
    · exact .inr (.inr ⟨c, hc, hf⟩))⟩
  lt := fun h hb => h.lt (by
    rcases hb with ⟨c, hc, hf⟩ | ⟨c, hc, hf⟩ | ⟨c, hc, hf⟩
    · exact ⟨c, hc, .inl hf⟩
    · exact ⟨c, hc, .inr (.inl hf)⟩
    · exact ⟨c, hc, .inr (.inr hf)⟩)
theorem bnd_ft {C : List Ch} {b : Nat} : (bnd C).ft b ↔ fts C b := by
  constructor
  · rintro (⟨c, hc, hf⟩ | ⟨c, hc, hf⟩ | ⟨c, hc, hf⟩)
    · exact ⟨c, hc, .inl hf⟩
    · exact ⟨c, hc, .inr (.inl hf)⟩
    · exact ⟨c, hc, .inr (.inr hf)⟩
  · rintro ⟨c, hc, hf | hf | hf⟩
    · exact .inl ⟨c, hc, hf⟩
    · exact .inr (.inl ⟨c, hc, hf⟩)
    · exact .inr (.inr ⟨c, hc, hf⟩)
theorem bnd_wrs {C F : List Ch} {b : Nat} : wrs (bnd C :: F) b ↔ wrs (C ++ F) b := by
  rw [wrs_app]
  constructor
  · rintro ⟨x, hx, hb⟩
    rcases List.mem_cons.1 hx with rfl | hx
    · exact .inl hb
    · exact .inr ⟨x, hx, hb⟩
  · rintro (h | ⟨x, hx, hb⟩)
    · exact ⟨_, List.Mem.head _, h⟩
    · exact ⟨x, List.mem_cons_of_mem _ hx, hb⟩
theorem bnd_rds {C F : List Ch} {b : Nat} : rds (bnd C :: F) b ↔ rds (C ++ F) b := by
  rw [rds_app]
  constructor
  · rintro ⟨x, hx, hb⟩
    rcases List.mem_cons.1 hx with rfl | hx
    · exact .inl hb
    · exact .inr ⟨x, hx, hb⟩
  · rintro (h | ⟨x, hx, hb⟩)
    · exact ⟨_, List.Mem.head _, h⟩
    · exact ⟨x, List.mem_cons_of_mem _ hx, hb⟩
theorem bnd_fts {C F : List Ch} {b : Nat} : fts (bnd C :: F) b ↔ fts (C ++ F) b := by
  rw [fts_app]
  constructor
  · rintro ⟨x, hx, hb⟩
    rcases List.mem_cons.1 hx with rfl | hx
    · exact .inl (bnd_ft.1 hb)
    · exact .inr ⟨x, hx, hb⟩
  · rintro (h | ⟨x, hx, hb⟩)
    · exact ⟨_, List.Mem.head _, bnd_ft.2 h⟩
    · exact ⟨x, List.mem_cons_of_mem _ hx, hb⟩
theorem bnd_sat {C F : List Ch} {w : World} : Sat (bnd C :: F) w ↔ Sat (C ++ F) w := by
  rw [Sat.cons, Sat.app]
  constructor
  · rintro ⟨h1, h2, h3⟩
    refine ⟨h1, h3, fun a ha f hf => ⟨fun b hb hft => (h2 f hf).1 b ⟨a, ha, hb⟩ hft, fun b hb hft => (h2 f hf).2 b hb (bnd_ft.2 ⟨a, ha, hft⟩)⟩⟩
  · rintro ⟨h1, h3, h2⟩
    refine ⟨h1, fun f hf => ⟨fun b hb hft => ?_, fun b hb hft => ?_⟩, h3⟩
    · obtain ⟨a, ha, hb⟩ := hb; exact (h2 a ha f hf).1 b hb hft
    · obtain ⟨a, ha, hft⟩ := bnd_ft.1 hft; exact (h2 a ha f hf).2 b hb hft
theorem im_bnd (C F : List Ch) : Im (C ++ F) (bnd C :: F) := ⟨fun _ h => bnd_sat.2 h, fun _ h => bnd_wrs.1 h, fun _ h => .inr (bnd_rds.1 h), fun _ h => bnd_fts.1 h⟩
theorem un_bnd (C F : List Ch) : Im (bnd C :: F) (C ++ F) := ⟨fun _ h => bnd_sat.1 h, fun _ h => bnd_wrs.2 h, fun _ h => .inr (bnd_rds.2 h), fun _ h => bnd_fts.2 h⟩
theorem bnd_nil (F : List Ch) : Im F (bnd [] :: F) := im_bnd [] F
theorem perm_bnd {C D : List Ch} (p : C.Perm D) (F : List Ch) : Im (bnd C :: F) (bnd D :: F) := (un_bnd C F).trans ((Im.perm (p.append_right F)).trans (im_bnd D F))
theorem bnd_cons (c : Ch) (C F : List Ch) : Im (c :: bnd C :: F) (bnd (c :: C) :: F) := (Im.cons c (un_bnd C F)).trans (im_bnd (c :: C) F)
theorem bnd_snoc (c : Ch) (C F : List Ch) : Im (c :: bnd C :: F) (bnd (C ++ [c]) :: F) := (bnd_cons c C F).trans (perm_bnd (by simpa using (List.perm_append_comm (l₁ := [c]) (l₂ := C))) F)
theorem bnd_uncons (c : Ch) (C F : List Ch) : Im (bnd (c :: C) :: F) (c :: bnd C :: F) := (un_bnd (c :: C) F).trans (Im.cons c (im_bnd C F))
theorem perm_get {α : Type} : ∀ {C : List α} {i : Nat} {c : α}, C[i]? = some c → C.Perm (c :: C.eraseIdx i)
  | [], _, _, h => by simp at h
  | a :: C, 0, c, h => by simp at h; subst h; exact List.Perm.refl _
  | a :: C, i + 1, c, h => by
    have := perm_get (C := C) (i := i) (c := c) (by simpa using h)
    simp only [List.eraseIdx_cons_succ]
    exact (this.cons a).trans (List.Perm.swap _ _ _)
def owls (e : TypeId) (g : Int → Value) (hs : List Value) (ls : List (List Int)) : List Ch := List.zipWith (fun h l => own e h (l.map g)) hs ls
def owl (e : TypeId) (g : Int → Value) (hs : List Value) (ls : List (List Int)) : Ch := bnd (owls e g hs ls)
theorem owls_nb {e : TypeId} {g : Int → Value} {hs : List Value} {ls : List (List Int)} : ∀ c ∈ owls e g hs ls, ∀ b, ¬ c.bd b := fun c hc b hb => by
  unfold owls at hc
  rw [List.mem_iff_getElem] at hc
  obtain ⟨i, hi, rfl⟩ := hc
  rw [List.getElem_zipWith] at hb
  exact hb
instance {e : TypeId} {g : Int → Value} {hs : List Value} {ls : List (List Int)} : NoB (owl e g hs ls) := ⟨fun b ⟨c, hc, hb⟩ => owls_nb c hc b hb⟩
theorem owls_get {e : TypeId} {g : Int → Value} {hs : List Value} {ls : List (List Int)} (hl : hs.length = ls.length) {i : Nat} (h : i < ls.length) : (owls e g hs ls)[i]? = some (own e (hs.getD i nS) ((ls.getD i []).map g)) := by
  unfold owls
  rw [List.getElem?_zipWith, List.getD_eq_getElem?_getD, List.getD_eq_getElem?_getD, List.getElem?_eq_getElem h, List.getElem?_eq_getElem (show i < hs.length by omega)]
  rfl
theorem owls_set {e : TypeId} {g : Int → Value} {v : Value} {l : List Int} : ∀ {hs : List Value} {ls : List (List Int)} {i : Nat}, (owls e g hs ls).set i (own e v (l.map g)) = owls e g (hs.set i v) (ls.set i l)
  | [], _, _ => by simp [owls]
  | _ :: _, [], _ => by simp [owls]
  | _ :: _, _ :: _, 0 => by simp [owls]
  | a :: hs, b :: ls, i + 1 => by
    have := owls_set (e := e) (g := g) (v := v) (l := l) (hs := hs) (ls := ls) (i := i)
    unfold owls at *
    simp [this]
theorem owl_nil {e : TypeId} {g : Int → Value} (F : List Ch) : Im F (owl e g [] [] :: F) := bnd_nil F
theorem owl_snoc {e : TypeId} {g : Int → Value} {hs : List Value} {ls : List (List Int)} (hl : hs.length = ls.length) (v : Value) (l : List Int) (F : List Ch) : Im (own e v (l.map g) :: owl e g hs ls :: F) (owl e g (hs ++ [v]) (ls ++ [l]) :: F) := by
  have h : owls e g (hs ++ [v]) (ls ++ [l]) = owls e g hs ls ++ [own e v (l.map g)] := by unfold owls; rw [List.zipWith_append hl]; rfl
  unfold owl
  rw [h]
  exact bnd_snoc _ _ F
theorem owl_push {e : TypeId} {g : Int → Value} {hs : List Value} {ls : List (List Int)} {v : Value} {l : List Int} {A F : List Ch} (hl : hs.length = ls.length) (hf : Fit A [own e v (l.map g), owl e g hs ls] F) : Im A (owl e g (hs ++ [v]) (ls ++ [l]) :: F) := Im.trans hf (owl_snoc hl v l F)
theorem owl_uncons {e : TypeId} {g : Int → Value} {h : Value} {l : List Int} {hs : List Value} {ls : List (List Int)} (F : List Ch) : Im (owl e g (h :: hs) (l :: ls) :: F) (own e h (l.map g) :: owl e g hs ls :: F) := bnd_uncons _ _ F
theorem owl_pop {e : TypeId} {g : Int → Value} {h : Value} {l : List Int} {hs : List Value} {ls : List (List Int)} {A F : List Ch} (hf : Fit A [owl e g (h :: hs) (l :: ls)] F) : Im A (own e h (l.map g) :: owl e g hs ls :: F) := Im.trans hf (owl_uncons F)
theorem drop_getD {α : Type} {l : List α} {i : Nat} (h : i < l.length) (z : α) : l.drop i = l.getD i z :: l.drop (i + 1) := by rw [List.drop_eq_getElem_cons h]; simp [List.getD_eq_getElem?_getD, h]
theorem has_owl {e : TypeId} {g : Int → Value} {hs : List Value} {ls : List (List Int)} {F : List Ch} (hl : hs.length = ls.length) (h : owl e g hs ls ∈ F) : Has F (velg g hs ls) := by
  refine ⟨fun w hw => ⟨hl, fun i hi => ?_⟩, fun b h => h, fun b h => h, fun b hb => ⟨_, h, ?_⟩⟩
  · have h1 : Sat (owls e g hs ls) w := hw.h _ h
    have h2 : OwnO w e (hs.getD i nS) ((ls.getD i []).map g) := h1.h _ (List.mem_of_getElem? (owls_get hl hi))
    exact h2.sl
  · rcases hb with hb | hb | ⟨i, hi, _, hx⟩
    · exact hb.elim
    · exact hb.elim
    · exact .inl ⟨_, List.mem_of_getElem? (owls_get hl hi), hx⟩
end Go.Art
set_option linter.unusedSimpArgs false
set_option linter.unusedVariables false
namespace Go.Art
open Go Go.Proofs Go.RowKit
theorem xorL_take {l m : List Int} (h : l.length = m.length) {i : Nat} (hi : i < l.length) : (xorL l m).take (i + 1) = (xorL l m).take i ++ [bxr (l.getD i 0) (m.getD i 0)] := by
  rw [take_succ' (by rw [xorL_len h]; exact hi) 0, xorL_get h hi]
attribute [local irreducible] Fit pt own ro vw mpc lpt vels rels mow lrc dfr
attribute [local irreducible] lmp lme mit velg relg bnd owl
theorem CopyBytes_tr (a : Value) (l : List Int) (hl : l.length ≤ 1099511627776) : Tr Tryz.prog 32 [a] [vw a (By l)] [] fun v D => v.oneCell' = true ∧ D = [own TyB v (By l)] := by
  refine Tr.enter env _ Tryz.func32 (by kernel_rfl) rfl Tryz.ntmps32 rfl (by repeat (first | exact has00 | refine has01 ?_)) fun w0 => ?_
  repeat' first|(refine sl0 fun v => ?_)|(refine ap (xs := []) (news := By l) (fun v2 => ?_) (h1 := By_one _); refine TO.one (v := v2) (xs := [] ++ By l) fun h2 => ?_)|(refine wo ?_; first|(refine ao ?_; first|refine aw ?_|refine aw6 ?_|refine oa ?_|refine adiv ?_|refine amod ?_|refine shr1 ?_|refine shr ?_|refine umod ?_|refine isl ?_|refine ipe ?_|refine ipn ?_|refine ibe ?_)|refine acw ?_|refine ucv ?_|refine anw ?_|refine oa ?_|refine ld ?_|refine ldl ?_|refine lnm ?_|refine ixmn ?_|refine ixm ?_|refine li ?_|refine lb ?_|refine lv ?_|refine ln ?_|refine ixn ?_|refine ix ?_|refine le ?_|refine sr ?_|refine soi ?_|refine sob ?_|refine scm ?_|refine sclm ?_|refine schm ?_|refine gy ?_|refine gn ?_|refine gnn ?_|refine gu ?_|(refine gsi (fun hB => ?_) (fun hB => ?_) <;> try (exfalso; omega))|(refine gsn (fun hB => ?_) (fun hB => ?_) <;> try (exfalso; omega))|(refine gs (fun hB => ?_) (fun hB => ?_) <;> try (exfalso; omega)))|(refine gc ?_; first|refine ct ?_|refine cf ?_|(refine ci (fun hB => ?_) (fun hB => ?_) <;> try (exfalso; omega))|(refine cn (fun hB => ?_) (fun hB => ?_) <;> try (exfalso; omega))|(refine cb (fun hB => ?_) (fun hB => ?_) <;> try (exfalso; omega)))|refine sq ?_|refine rg ?_|refine xc ?_|refine nl ?_|refine sk ?_|refine bk ?_|refine xe ?_|refine rt ?_|refine xb ?_
  exact r1 ⟨h2, rfl⟩
structure ClG where
  i : Nat
  o : Value
  hs : List Value
theorem CopyLists_tr (a : Value) (hs : List Value) (ls : List (List Int)) (hl : ls.length ≤ 65536) (hk : ∀ l ∈ ls, l.length ≤ 1099511627776) : Tr Tryz.prog 11 [a] [vw a hs, velg y8 hs ls] []
    fun v D => ∃ hs', v.oneCell' = true ∧ hs'.length = ls.length ∧ D = [own TyV v hs', owl TyB y8 hs' ls] := by
  refine Tr.enter env _ Tryz.func11 (by kernel_rfl) rfl Tryz.ntmps11 rfl (by repeat (first | exact has00 | refine has01 ?_)) fun w0 => ?_
  refine TC.elg (g := y8) (hs := hs) (ls := ls) (fun hll => ?_)
  repeat' first|(refine wo ?_; first|(refine ao ?_; first|refine aw ?_|refine aw6 ?_|refine oa ?_|refine adiv ?_|refine amod ?_|refine shr1 ?_|refine shr ?_|refine umod ?_|refine isl ?_|refine ipe ?_|refine ipn ?_|refine ibe ?_)|refine acw ?_|refine ucv ?_|refine anw ?_|refine oa ?_|refine ld ?_|refine ldl ?_|refine lnm ?_|refine ixmn ?_|refine ixm ?_|refine li ?_|refine lb ?_|refine lv ?_|refine ln ?_|refine ixn ?_|refine ix ?_|refine le ?_|refine sr ?_|refine soi ?_|refine sob ?_|refine scm ?_|refine sclm ?_|refine schm ?_|refine gy ?_|refine gn ?_|refine gnn ?_|refine gu ?_|(refine gsi (fun hB => ?_) (fun hB => ?_) <;> try (exfalso; omega))|(refine gsn (fun hB => ?_) (fun hB => ?_) <;> try (exfalso; omega))|(refine gs (fun hB => ?_) (fun hB => ?_) <;> try (exfalso; omega)))|(refine gc ?_; first|refine ct ?_|refine cf ?_|(refine ci (fun hB => ?_) (fun hB => ?_) <;> try (exfalso; omega))|(refine cn (fun hB => ?_) (fun hB => ?_) <;> try (exfalso; omega))|(refine cb (fun hB => ?_) (fun hB => ?_) <;> try (exfalso; omega)))|refine sq ?_|refine rg ?_|refine xc ?_|refine nl ?_|refine sk ?_|refine bk ?_|refine xe ?_|refine rt ?_|refine xb ?_
  refine TC.im (own_nil TyV _) ?_
  refine TC.im (owl_nil (e := TyB) (g := y8) _) ?_
  refine TC.loop (ι := ClG) (fun g => [(4, I g.i), (3, g.o)]) (fun g => [own TyV g.o g.hs, owl TyB y8 g.hs (ls.take g.i)]) (fun g => (g.i ≤ ls.length ∧ g.o.oneCell' = true) ∧ g.hs.length = g.i) (fun g => ls.length - g.i) ⟨0, nS, []⟩ [0] ⟨⟨Nat.zero_le _, rfl⟩, rfl⟩ ?_ (hf := by dsimp only; first | apply Fit.all | ((repeat (first | (apply Fit.nilN; (repeat (first | apply nrm_nil | apply nrm_cons)); try apply nrm_rfl) | (apply Fit.cons; focus ((repeat (first | apply Tk.here | apply Tk.there)); first | done | fail)))); first | done | fail))
  rintro ⟨i, o, hs2⟩ ⟨⟨hi, ho⟩, h2⟩
  dsimp only at hi ho h2 ⊢
  by_cases hlt : i < ls.length
  · have htk : ls.take (i + 1) = ls.take i ++ [ls.getD i []] := take_succ' hlt []
    have hmem := hk _ (getD_memL hlt)
    have h3 : hs2.length = (ls.take i).length := by rw [List.length_take]; omega
    repeat' first|(refine gca ?_; first|(refine ca (CopyBytes_tr (hs.getD i nS) (ls.getD i []) hmem) ?_ (hp := has1 (has_elg (has_velg (by (repeat (first | apply List.Mem.head | apply List.Mem.tail)); first | done | fail)) hlt) has0); rintro v1 _ ⟨hv1, rfl⟩))|(refine sli (vs := [v1]) (fun q1 => ?_) (h1 := one_cons hv1 one_nil))|(refine ap (xs := hs2) (news := [v1]) (fun o2 => ?_) (h1 := one_cons hv1 one_nil); refine TO.one (v := o2) (xs := hs2 ++ [v1]) fun ho2 => ?_)|(refine wo ?_; first|(refine ao ?_; first|refine aw ?_|refine aw6 ?_|refine oa ?_|refine adiv ?_|refine amod ?_|refine shr1 ?_|refine shr ?_|refine umod ?_|refine isl ?_|refine ipe ?_|refine ipn ?_|refine ibe ?_)|refine acw ?_|refine ucv ?_|refine anw ?_|refine oa ?_|refine ld ?_|refine ldl ?_|refine lnm ?_|refine ixmn ?_|refine ixm ?_|refine li ?_|refine lb ?_|refine lv ?_|refine ln ?_|refine ixn ?_|refine ix ?_|refine le ?_|refine sr ?_|refine soi ?_|refine sob ?_|refine scm ?_|refine sclm ?_|refine schm ?_|refine gy ?_|refine gn ?_|refine gnn ?_|refine gu ?_|(refine gsi (fun hB => ?_) (fun hB => ?_) <;> try (exfalso; omega))|(refine gsn (fun hB => ?_) (fun hB => ?_) <;> try (exfalso; omega))|(refine gs (fun hB => ?_) (fun hB => ?_) <;> try (exfalso; omega)))|(refine gc ?_; first|refine ct ?_|refine cf ?_|(refine ci (fun hB => ?_) (fun hB => ?_) <;> try (exfalso; omega))|(refine cn (fun hB => ?_) (fun hB => ?_) <;> try (exfalso; omega))|(refine cb (fun hB => ?_) (fun hB => ?_) <;> try (exfalso; omega)))|refine sq ?_|refine rg ?_|refine xc ?_|refine nl ?_|refine sk ?_|refine bk ?_|refine xe ?_|refine rt ?_|refine xb ?_
    refine TX.im (owl_push (l := ls.getD i []) h3 (by first | apply Fit.all | ((repeat (first | (apply Fit.nilN; (repeat (first | apply nrm_nil | apply nrm_cons)); try apply nrm_rfl) | (apply Fit.cons; focus ((repeat (first | apply Tk.here | apply Tk.there)); first | done | fail)))); first | done | fail))) ?_
    exact lp ⟨i + 1, o2, hs2 ++ [v1]⟩ ⟨⟨hlt, ho2⟩, by simp [h2]⟩ (hf := by dsimp only; rw [htk]; first | apply Fit.all | ((repeat (first | (apply Fit.nilN; (repeat (first | apply nrm_nil | apply nrm_cons)); try apply nrm_rfl) | (apply Fit.cons; focus ((repeat (first | apply Tk.here | apply Tk.there)); first | done | fail)))); first | done | fail))
  · obtain rfl : i = ls.length := by omega
    rw [List.take_length]
    repeat' first|(refine wo ?_; first|(refine ao ?_; first|refine aw ?_|refine aw6 ?_|refine oa ?_|refine adiv ?_|refine amod ?_|refine shr1 ?_|refine shr ?_|refine umod ?_|refine isl ?_|refine ipe ?_|refine ipn ?_|refine ibe ?_)|refine acw ?_|refine ucv ?_|refine anw ?_|refine oa ?_|refine ld ?_|refine ldl ?_|refine lnm ?_|refine ixmn ?_|refine ixm ?_|refine li ?_|refine lb ?_|refine lv ?_|refine ln ?_|refine ixn ?_|refine ix ?_|refine le ?_|refine sr ?_|refine soi ?_|refine sob ?_|refine scm ?_|refine sclm ?_|refine schm ?_|refine gy ?_|refine gn ?_|refine gnn ?_|refine gu ?_|(refine gsi (fun hB => ?_) (fun hB => ?_) <;> try (exfalso; omega))|(refine gsn (fun hB => ?_) (fun hB => ?_) <;> try (exfalso; omega))|(refine gs (fun hB => ?_) (fun hB => ?_) <;> try (exfalso; omega)))|(refine gc ?_; first|refine ct ?_|refine cf ?_|(refine ci (fun hB => ?_) (fun hB => ?_) <;> try (exfalso; omega))|(refine cn (fun hB => ?_) (fun hB => ?_) <;> try (exfalso; omega))|(refine cb (fun hB => ?_) (fun hB => ?_) <;> try (exfalso; omega)))|refine sq ?_|refine rg ?_|refine xc ?_|refine nl ?_|refine sk ?_|refine bk ?_|refine xe ?_|refine rt ?_|refine xb ?_
    exact r1 ⟨hs2, ho, h2, rfl⟩
theorem OverBytes_tr (a : Value) (l : List Int) : Tr Tryz.prog 15 [a] [] [own TyB a (By l)] fun v D => D = [] := by
  refine Tr.enter env _ Tryz.func15 (by kernel_rfl) rfl Tryz.ntmps15 rfl (by repeat (first | exact has00 | refine has01 ?_)) fun w0 => ?_
  refine TC.fact (vw_len (v := a) (xs := By l) (by first | (apply has_vw; (repeat (first | apply List.Mem.head | apply List.Mem.tail)); first | done | fail) | (apply has_own; (repeat (first | apply List.Mem.head | apply List.Mem.tail)); first | done | fail) | (apply has_ro; (repeat (first | apply List.Mem.head | apply List.Mem.tail)); first | done | fail) | apply has_nil | ((with_reducible apply has_el); (focus (first | (apply has_vels; (repeat (first | apply List.Mem.head | apply List.Mem.tail)); first | done | fail) | (apply has_rels; (repeat (first | apply List.Mem.head | apply List.Mem.tail)); first | done | fail))); omega) | (apply has_pt; (repeat (first | apply List.Mem.head | apply List.Mem.tail)); first | done | fail) | (apply has_lpt; (repeat (first | apply List.Mem.head | apply List.Mem.tail)); first | done | fail) | (apply has_vels; (repeat (first | apply List.Mem.head | apply List.Mem.tail)); first | done | fail) | (apply has_rels; (repeat (first | apply List.Mem.head | apply List.Mem.tail)); first | done | fail) | with_reducible assumption | ((with_reducible apply has_elg); (focus (first | (apply has_velg; (repeat (first | apply List.Mem.head | apply List.Mem.tail)); first | done | fail) | (apply has_relg; (repeat (first | apply List.Mem.head | apply List.Mem.tail)); first | done | fail))); omega) | (apply has_velg; (repeat (first | apply List.Mem.head | apply List.Mem.tail)); first | done | fail) | (apply has_relg; (repeat (first | apply List.Mem.head | apply List.Mem.tail)); first | done | fail) | (apply has_vwf; (repeat (first | apply List.Mem.head | apply List.Mem.tail)); first | done | fail))) fun hll => ?_
  rw [By_len] at hll
  repeat' first|(refine wo ?_; first|(refine ao ?_; first|refine aw ?_|refine aw6 ?_|refine oa ?_|refine adiv ?_|refine amod ?_|refine shr1 ?_|refine shr ?_|refine umod ?_|refine isl ?_|refine ipe ?_|refine ipn ?_|refine ibe ?_)|refine acw ?_|refine ucv ?_|refine anw ?_|refine oa ?_|refine ld ?_|refine ldl ?_|refine lnm ?_|refine ixmn ?_|refine ixm ?_|refine li ?_|refine lb ?_|refine lv ?_|refine ln ?_|refine ixn ?_|refine ix ?_|refine le ?_|refine sr ?_|refine soi ?_|refine sob ?_|refine scm ?_|refine sclm ?_|refine schm ?_|refine gy ?_|refine gn ?_|refine gnn ?_|refine gu ?_|(refine gsi (fun hB => ?_) (fun hB => ?_) <;> try (exfalso; omega))|(refine gsn (fun hB => ?_) (fun hB => ?_) <;> try (exfalso; omega))|(refine gs (fun hB => ?_) (fun hB => ?_) <;> try (exfalso; omega)))|(refine gc ?_; first|refine ct ?_|refine cf ?_|(refine ci (fun hB => ?_) (fun hB => ?_) <;> try (exfalso; omega))|(refine cn (fun hB => ?_) (fun hB => ?_) <;> try (exfalso; omega))|(refine cb (fun hB => ?_) (fun hB => ?_) <;> try (exfalso; omega)))|refine sq ?_|refine rg ?_|refine xc ?_|refine nl ?_|refine sk ?_|refine bk ?_|refine xe ?_|refine rt ?_|refine xb ?_
  refine TC.loop (ι := Nat × List Int) (fun g => [(2, I g.1)]) (fun g => [own TyB a (By g.2)]) (fun g => g.1 ≤ l.length ∧ g.2.length = l.length) (fun g => l.length - g.1) (0, l) [0] ⟨Nat.zero_le _, rfl⟩ ?_ (hf := by dsimp only; first | apply Fit.all | ((repeat (first | (apply Fit.nilN; (repeat (first | apply nrm_nil | apply nrm_cons)); try apply nrm_rfl) | (apply Fit.cons; focus ((repeat (first | apply Tk.here | apply Tk.there)); first | done | fail)))); first | done | fail))
  rintro ⟨i, m⟩ ⟨hi, hm⟩
  dsimp only at hi hm ⊢
  by_cases hlt : i < l.length
  · repeat' first|(refine TO.val (v := y8 (bxr (m.getD i 0) 165)) (fun _ _ => R_bxr rfl rfl) ?_)|refine sob (l := m) (j := i) ?_|(refine wo ?_; first|(refine ao ?_; first|refine aw ?_|refine aw6 ?_|refine oa ?_|refine adiv ?_|refine amod ?_|refine shr1 ?_|refine shr ?_|refine umod ?_|refine isl ?_|refine ipe ?_|refine ipn ?_|refine ibe ?_)|refine acw ?_|refine ucv ?_|refine anw ?_|refine oa ?_|refine ld ?_|refine ldl ?_|refine lnm ?_|refine ixmn ?_|refine ixm ?_|refine li ?_|refine lb ?_|refine lv ?_|refine ln ?_|refine ixn ?_|refine ix ?_|refine le ?_|refine sr ?_|refine soi ?_|refine sob ?_|refine scm ?_|refine sclm ?_|refine schm ?_|refine gy ?_|refine gn ?_|refine gnn ?_|refine gu ?_|(refine gsi (fun hB => ?_) (fun hB => ?_) <;> try (exfalso; omega))|(refine gsn (fun hB => ?_) (fun hB => ?_) <;> try (exfalso; omega))|(refine gs (fun hB => ?_) (fun hB => ?_) <;> try (exfalso; omega)))|(refine gc ?_; first|refine ct ?_|refine cf ?_|(refine ci (fun hB => ?_) (fun hB => ?_) <;> try (exfalso; omega))|(refine cn (fun hB => ?_) (fun hB => ?_) <;> try (exfalso; omega))|(refine cb (fun hB => ?_) (fun hB => ?_) <;> try (exfalso; omega)))|refine sq ?_|refine rg ?_|refine xc ?_|refine nl ?_|refine sk ?_|refine bk ?_|refine xe ?_|refine rt ?_|refine xb ?_
    exact lp (i + 1, m.set i (bxr (m.getD i 0) 165)) ⟨hlt, by dsimp only; rw [List.length_set]; exact hm⟩ (hf := by dsimp only; first | apply Fit.all | ((repeat (first | (apply Fit.nilN; (repeat (first | apply nrm_nil | apply nrm_cons)); try apply nrm_rfl) | (apply Fit.cons; focus ((repeat (first | apply Tk.here | apply Tk.there)); first | done | fail)))); first | done | fail))
  · repeat' first|(refine wo ?_; first|(refine ao ?_; first|refine aw ?_|refine aw6 ?_|refine oa ?_|refine adiv ?_|refine amod ?_|refine shr1 ?_|refine shr ?_|refine umod ?_|refine isl ?_|refine ipe ?_|refine ipn ?_|refine ibe ?_)|refine acw ?_|refine ucv ?_|refine anw ?_|refine oa ?_|refine ld ?_|refine ldl ?_|refine lnm ?_|refine ixmn ?_|refine ixm ?_|refine li ?_|refine lb ?_|refine lv ?_|refine ln ?_|refine ixn ?_|refine ix ?_|refine le ?_|refine sr ?_|refine soi ?_|refine sob ?_|refine scm ?_|refine sclm ?_|refine schm ?_|refine gy ?_|refine gn ?_|refine gnn ?_|refine gu ?_|(refine gsi (fun hB => ?_) (fun hB => ?_) <;> try (exfalso; omega))|(refine gsn (fun hB => ?_) (fun hB => ?_) <;> try (exfalso; omega))|(refine gs (fun hB => ?_) (fun hB => ?_) <;> try (exfalso; omega)))|(refine gc ?_; first|refine ct ?_|refine cf ?_|(refine ci (fun hB => ?_) (fun hB => ?_) <;> try (exfalso; omega))|(refine cn (fun hB => ?_) (fun hB => ?_) <;> try (exfalso; omega))|(refine cb (fun hB => ?_) (fun hB => ?_) <;> try (exfalso; omega)))|refine sq ?_|refine rg ?_|refine xc ?_|refine nl ?_|refine sk ?_|refine bk ?_|refine xe ?_|refine rt ?_|refine xb ?_
    exact e0 rfl
theorem SameLists_tr (a b : Value) (hs ks : List Value) (ls : List (List Int)) (hl : ∀ l ∈ ls, inB l) : Tr Tryz.prog 14 [a, b] [vw a hs, velg y8 hs ls, vw b ks, velg y8 ks ls] []
    fun v D => v = .bool true ∧ D = [] := by
  refine Tr.enter env _ Tryz.func14 (by kernel_rfl) rfl Tryz.ntmps14 rfl (by repeat (first | exact has00 | refine has01 ?_)) fun w0 => ?_
  refine TC.elg (g := y8) (hs := hs) (ls := ls) (fun h1 => ?_)
  refine TC.elg (g := y8) (hs := ks) (ls := ls) (fun h2 => ?_)
  refine TC.fact (vw_len (v := a) (xs := hs) (by first | (apply has_vw; (repeat (first | apply List.Mem.head | apply List.Mem.tail)); first | done | fail) | (apply has_own; (repeat (first | apply List.Mem.head | apply List.Mem.tail)); first | done | fail) | (apply has_ro; (repeat (first | apply List.Mem.head | apply List.Mem.tail)); first | done | fail) | apply has_nil | ((with_reducible apply has_el); (focus (first | (apply has_vels; (repeat (first | apply List.Mem.head | apply List.Mem.tail)); first | done | fail) | (apply has_rels; (repeat (first | apply List.Mem.head | apply List.Mem.tail)); first | done | fail))); omega) | (apply has_pt; (repeat (first | apply List.Mem.head | apply List.Mem.tail)); first | done | fail) | (apply has_lpt; (repeat (first | apply List.Mem.head | apply List.Mem.tail)); first | done | fail) | (apply has_vels; (repeat (first | apply List.Mem.head | apply List.Mem.tail)); first | done | fail) | (apply has_rels; (repeat (first | apply List.Mem.head | apply List.Mem.tail)); first | done | fail) | with_reducible assumption | ((with_reducible apply has_elg); (focus (first | (apply has_velg; (repeat (first | apply List.Mem.head | apply List.Mem.tail)); first | done | fail) | (apply has_relg; (repeat (first | apply List.Mem.head | apply List.Mem.tail)); first | done | fail))); omega) | (apply has_velg; (repeat (first | apply List.Mem.head | apply List.Mem.tail)); first | done | fail) | (apply has_relg; (repeat (first | apply List.Mem.head | apply List.Mem.tail)); first | done | fail) | (apply has_vwf; (repeat (first | apply List.Mem.head | apply List.Mem.tail)); first | done | fail))) fun h3 => ?_
  repeat' first|(refine wo ?_; first|(refine ao ?_; first|refine aw ?_|refine aw6 ?_|refine oa ?_|refine adiv ?_|refine amod ?_|refine shr1 ?_|refine shr ?_|refine umod ?_|refine isl ?_|refine ipe ?_|refine ipn ?_|refine ibe ?_)|refine acw ?_|refine ucv ?_|refine anw ?_|refine oa ?_|refine ld ?_|refine ldl ?_|refine lnm ?_|refine ixmn ?_|refine ixm ?_|refine li ?_|refine lb ?_|refine lv ?_|refine ln ?_|refine ixn ?_|refine ix ?_|refine le ?_|refine sr ?_|refine soi ?_|refine sob ?_|refine scm ?_|refine sclm ?_|refine schm ?_|refine gy ?_|refine gn ?_|refine gnn ?_|refine gu ?_|(refine gsi (fun hB => ?_) (fun hB => ?_) <;> try (exfalso; omega))|(refine gsn (fun hB => ?_) (fun hB => ?_) <;> try (exfalso; omega))|(refine gs (fun hB => ?_) (fun hB => ?_) <;> try (exfalso; omega)))|(refine gc ?_; first|refine ct ?_|refine cf ?_|(refine ci (fun hB => ?_) (fun hB => ?_) <;> try (exfalso; omega))|(refine cn (fun hB => ?_) (fun hB => ?_) <;> try (exfalso; omega))|(refine cb (fun hB => ?_) (fun hB => ?_) <;> try (exfalso; omega)))|refine sq ?_|refine rg ?_|refine xc ?_|refine nl ?_|refine sk ?_|refine bk ?_|refine xe ?_|refine rt ?_|refine xb ?_
  refine TC.loop (ι := Nat) (fun i => [(6, I i), (5, .bool true)]) (fun _ => []) (fun i => i ≤ ls.length) (fun i => ls.length - i) 0 [0, 1] (Nat.zero_le _) ?_ (hs := by rw [decide_eq_true (show (hs.length : Int) = ks.length by omega)]; (repeat (refine Sub.cons rfl (by first | rfl | go_num) ?_)); exact Sub.nil)
  intro i hi
  by_cases hlt : i < ls.length
  · have hin := hl _ (getD_memL hlt)
    repeat' first|(refine qca (v := .bool true) (SameBytes_tr (hs.getD i nS) (ks.getD i nS) (ls.getD i []) (ls.getD i []) hin hin) (fun u D h => ⟨by rw [h.1, decide_eq_true rfl], h.2⟩) ?_ (hp := has1 (has_elg (has_velg (by (repeat (first | apply List.Mem.head | apply List.Mem.tail)); first | done | fail)) hlt) (has1 (has_elg (has_velg (by (repeat (first | apply List.Mem.head | apply List.Mem.tail)); first | done | fail)) hlt) has0)))|(refine wo ?_; first|(refine ao ?_; first|refine aw ?_|refine aw6 ?_|refine oa ?_|refine adiv ?_|refine amod ?_|refine shr1 ?_|refine shr ?_|refine umod ?_|refine isl ?_|refine ipe ?_|refine ipn ?_|refine ibe ?_)|refine acw ?_|refine ucv ?_|refine anw ?_|refine oa ?_|refine ld ?_|refine ldl ?_|refine lnm ?_|refine ixmn ?_|refine ixm ?_|refine li ?_|refine lb ?_|refine lv ?_|refine ln ?_|refine ixn ?_|refine ix ?_|refine le ?_|refine sr ?_|refine soi ?_|refine sob ?_|refine scm ?_|refine sclm ?_|refine schm ?_|refine gy ?_|refine gn ?_|refine gnn ?_|refine gu ?_|(refine gsi (fun hB => ?_) (fun hB => ?_) <;> try (exfalso; omega))|(refine gsn (fun hB => ?_) (fun hB => ?_) <;> try (exfalso; omega))|(refine gs (fun hB => ?_) (fun hB => ?_) <;> try (exfalso; omega)))|(refine gc ?_; first|refine ct ?_|refine cf ?_|(refine ci (fun hB => ?_) (fun hB => ?_) <;> try (exfalso; omega))|(refine cn (fun hB => ?_) (fun hB => ?_) <;> try (exfalso; omega))|(refine cb (fun hB => ?_) (fun hB => ?_) <;> try (exfalso; omega)))|refine sq ?_|refine rg ?_|refine xc ?_|refine nl ?_|refine sk ?_|refine bk ?_|refine xe ?_|refine rt ?_|refine xb ?_|refine rq ?_|refine nq ?_|(refine wq ?_; first|(refine qao ?_; first|refine qaw ?_|refine qa ?_|refine qibe ?_)|refine qacw ?_|refine qa ?_|refine qld ?_|refine qldl ?_|refine qlnm ?_|refine qixmn ?_|refine qixm ?_|refine qli ?_|refine qlb ?_|refine qlv ?_|refine qln ?_|refine qixn ?_|refine qix ?_|refine qle ?_|refine qgy ?_|refine qgn ?_|refine qgu ?_|(refine qgsi (fun hB => ?_) (fun hB => ?_) <;> try (exfalso; omega))|(refine qgsn (fun hB => ?_) (fun hB => ?_) <;> try (exfalso; omega))|(refine qgs (fun hB => ?_) (fun hB => ?_) <;> try (exfalso; omega)))
    exact lp (i + 1) hlt
  · repeat' first|(refine wo ?_; first|(refine ao ?_; first|refine aw ?_|refine aw6 ?_|refine oa ?_|refine adiv ?_|refine amod ?_|refine shr1 ?_|refine shr ?_|refine umod ?_|refine isl ?_|refine ipe ?_|refine ipn ?_|refine ibe ?_)|refine acw ?_|refine ucv ?_|refine anw ?_|refine oa ?_|refine ld ?_|refine ldl ?_|refine lnm ?_|refine ixmn ?_|refine ixm ?_|refine li ?_|refine lb ?_|refine lv ?_|refine ln ?_|refine ixn ?_|refine ix ?_|refine le ?_|refine sr ?_|refine soi ?_|refine sob ?_|refine scm ?_|refine sclm ?_|refine schm ?_|refine gy ?_|refine gn ?_|refine gnn ?_|refine gu ?_|(refine gsi (fun hB => ?_) (fun hB => ?_) <;> try (exfalso; omega))|(refine gsn (fun hB => ?_) (fun hB => ?_) <;> try (exfalso; omega))|(refine gs (fun hB => ?_) (fun hB => ?_) <;> try (exfalso; omega)))|(refine gc ?_; first|refine ct ?_|refine cf ?_|(refine ci (fun hB => ?_) (fun hB => ?_) <;> try (exfalso; omega))|(refine cn (fun hB => ?_) (fun hB => ?_) <;> try (exfalso; omega))|(refine cb (fun hB => ?_) (fun hB => ?_) <;> try (exfalso; omega)))|refine sq ?_|refine rg ?_|refine xc ?_|refine nl ?_|refine sk ?_|refine bk ?_|refine xe ?_|refine rt ?_|refine xb ?_
    exact r1 ⟨rfl, rfl⟩
theorem RBCheck_tr (s : Value) (hs : List Value) (ls : List (List Int)) : Tr Tryz.prog 35 [s] [vw s hs, velg y8 hs ls] [] fun v D => v = I (blkE ls) ∧ D = [] := by
  by_cases hg : ls.length < 1 ∨ 65536 < ls.length ∨ (ls.getD 0 []).length < 1 ∨ 65535 < (ls.getD 0 []).length
  · rw [show blkE ls = 2 from if_pos hg]
    refine Tr.enter env _ Tryz.func35 (by kernel_rfl) rfl Tryz.ntmps35 rfl (by repeat (first | exact has00 | refine has01 ?_)) fun w0 => ?_
    refine TC.elg (g := y8) (hs := hs) (ls := ls) (fun h1 => ?_)
    refine TC.fact (vw_len (v := s) (xs := hs) (by first | (apply has_vw; (repeat (first | apply List.Mem.head | apply List.Mem.tail)); first | done | fail) | (apply has_own; (repeat (first | apply List.Mem.head | apply List.Mem.tail)); first | done | fail) | (apply has_ro; (repeat (first | apply List.Mem.head | apply List.Mem.tail)); first | done | fail) | apply has_nil | ((with_reducible apply has_el); (focus (first | (apply has_vels; (repeat (first | apply List.Mem.head | apply List.Mem.tail)); first | done | fail) | (apply has_rels; (repeat (first | apply List.Mem.head | apply List.Mem.tail)); first | done | fail))); omega) | (apply has_pt; (repeat (first | apply List.Mem.head | apply List.Mem.tail)); first | done | fail) | (apply has_lpt; (repeat (first | apply List.Mem.head | apply List.Mem.tail)); first | done | fail) | (apply has_vels; (repeat (first | apply List.Mem.head | apply List.Mem.tail)); first | done | fail) | (apply has_rels; (repeat (first | apply List.Mem.head | apply List.Mem.tail)); first | done | fail) | with_reducible assumption | ((with_reducible apply has_elg); (focus (first | (apply has_velg; (repeat (first | apply List.Mem.head | apply List.Mem.tail)); first | done | fail) | (apply has_relg; (repeat (first | apply List.Mem.head | apply List.Mem.tail)); first | done | fail))); omega) | (apply has_velg; (repeat (first | apply List.Mem.head | apply List.Mem.tail)); first | done | fail) | (apply has_relg; (repeat (first | apply List.Mem.head | apply List.Mem.tail)); first | done | fail) | (apply has_vwf; (repeat (first | apply List.Mem.head | apply List.Mem.tail)); first | done | fail))) fun h3 => ?_
    repeat' first|refine lnm (l := ls.getD 0 []) ?_ (hh := has_elg (has_velg (by (repeat (first | apply List.Mem.head | apply List.Mem.tail)); first | done | fail)) (by omega))|(refine wo ?_; first|(refine ao ?_; first|refine aw ?_|refine aw6 ?_|refine oa ?_|refine adiv ?_|refine amod ?_|refine shr1 ?_|refine shr ?_|refine umod ?_|refine isl ?_|refine ipe ?_|refine ipn ?_|refine ibe ?_)|refine acw ?_|refine ucv ?_|refine anw ?_|refine oa ?_|refine ld ?_|refine ldl ?_|refine lnm ?_|refine ixmn ?_|refine ixm ?_|refine li ?_|refine lb ?_|refine lv ?_|refine ln ?_|refine ixn ?_|refine ix ?_|refine le ?_|refine sr ?_|refine soi ?_|refine sob ?_|refine scm ?_|refine sclm ?_|refine schm ?_|refine gy ?_|refine gn ?_|refine gnn ?_|refine gu ?_|(refine gsi (fun hB => ?_) (fun hB => ?_) <;> try (exfalso; omega))|(refine gsn (fun hB => ?_) (fun hB => ?_) <;> try (exfalso; omega))|(refine gs (fun hB => ?_) (fun hB => ?_) <;> try (exfalso; omega)))|(refine gc ?_; first|refine ct ?_|refine cf ?_|(refine ci (fun hB => ?_) (fun hB => ?_) <;> try (exfalso; omega))|(refine cn (fun hB => ?_) (fun hB => ?_) <;> try (exfalso; omega))|(refine cb (fun hB => ?_) (fun hB => ?_) <;> try (exfalso; omega)))|refine sq ?_|refine rg ?_|refine xc ?_|refine nl ?_|refine sk ?_|refine bk ?_|refine xe ?_|refine rt ?_|refine xb ?_
    all_goals first | exact r1 ⟨rfl, rfl⟩ | (exfalso; omega)
  rw [show blkE ls = if ls.any (fun l => decide ((l.length : Int) ≠ ((ls.getD 0 []).length : Int))) then 2 else 0 from if_neg hg]
  refine Tr.enter env _ Tryz.func35 (by kernel_rfl) rfl Tryz.ntmps35 rfl (by repeat (first | exact has00 | refine has01 ?_)) fun w0 => ?_
  refine TC.elg (g := y8) (hs := hs) (ls := ls) (fun h1 => ?_)
  refine TC.fact (vw_len (v := s) (xs := hs) (by first | (apply has_vw; (repeat (first | apply List.Mem.head | apply List.Mem.tail)); first | done | fail) | (apply has_own; (repeat (first | apply List.Mem.head | apply List.Mem.tail)); first | done | fail) | (apply has_ro; (repeat (first | apply List.Mem.head | apply List.Mem.tail)); first | done | fail) | apply has_nil | ((with_reducible apply has_el); (focus (first | (apply has_vels; (repeat (first | apply List.Mem.head | apply List.Mem.tail)); first | done | fail) | (apply has_rels; (repeat (first | apply List.Mem.head | apply List.Mem.tail)); first | done | fail))); omega) | (apply has_pt; (repeat (first | apply List.Mem.head | apply List.Mem.tail)); first | done | fail) | (apply has_lpt; (repeat (first | apply List.Mem.head | apply List.Mem.tail)); first | done | fail) | (apply has_vels; (repeat (first | apply List.Mem.head | apply List.Mem.tail)); first | done | fail) | (apply has_rels; (repeat (first | apply List.Mem.head | apply List.Mem.tail)); first | done | fail) | with_reducible assumption | ((with_reducible apply has_elg); (focus (first | (apply has_velg; (repeat (first | apply List.Mem.head | apply List.Mem.tail)); first | done | fail) | (apply has_relg; (repeat (first | apply List.Mem.head | apply List.Mem.tail)); first | done | fail))); omega) | (apply has_velg; (repeat (first | apply List.Mem.head | apply List.Mem.tail)); first | done | fail) | (apply has_relg; (repeat (first | apply List.Mem.head | apply List.Mem.tail)); first | done | fail) | (apply has_vwf; (repeat (first | apply List.Mem.head | apply List.Mem.tail)); first | done | fail))) fun h3 => ?_
  repeat' first|refine lnm (l := ls.getD 0 []) ?_ (hh := has_elg (has_velg (by (repeat (first | apply List.Mem.head | apply List.Mem.tail)); first | done | fail)) (by omega))|(refine wo ?_; first|(refine ao ?_; first|refine aw ?_|refine aw6 ?_|refine oa ?_|refine adiv ?_|refine amod ?_|refine shr1 ?_|refine shr ?_|refine umod ?_|refine isl ?_|refine ipe ?_|refine ipn ?_|refine ibe ?_)|refine acw ?_|refine ucv ?_|refine anw ?_|refine oa ?_|refine ld ?_|refine ldl ?_|refine lnm ?_|refine ixmn ?_|refine ixm ?_|refine li ?_|refine lb ?_|refine lv ?_|refine ln ?_|refine ixn ?_|refine ix ?_|refine le ?_|refine sr ?_|refine soi ?_|refine sob ?_|refine scm ?_|refine sclm ?_|refine schm ?_|refine gy ?_|refine gn ?_|refine gnn ?_|refine gu ?_|(refine gsi (fun hB => ?_) (fun hB => ?_) <;> try (exfalso; omega))|(refine gsn (fun hB => ?_) (fun hB => ?_) <;> try (exfalso; omega))|(refine gs (fun hB => ?_) (fun hB => ?_) <;> try (exfalso; omega)))|(refine gc ?_; first|refine ct ?_|refine cf ?_|(refine ci (fun hB => ?_) (fun hB => ?_) <;> try (exfalso; omega))|(refine cn (fun hB => ?_) (fun hB => ?_) <;> try (exfalso; omega))|(refine cb (fun hB => ?_) (fun hB => ?_) <;> try (exfalso; omega)))|refine sq ?_|refine rg ?_|refine xc ?_|refine nl ?_|refine sk ?_|refine bk ?_|refine xe ?_|refine rt ?_|refine xb ?_
  refine TC.loop (ι := Nat) (fun i => [(3, I i)]) (fun _ => []) (fun i => i ≤ ls.length ∧ ∀ j, j < i → (ls.getD j []).length = (ls.getD 0 []).length) (fun i => ls.length - i) 0 [0] ⟨Nat.zero_le _, fun j h => absurd h (Nat.not_lt_zero j)⟩ ?_
  rintro i ⟨hi, hal⟩
  by_cases hlt : i < ls.length
  · repeat' first|refine qlnm (l := ls.getD i []) ?_ (hh := has_elg (has_velg (by (repeat (first | apply List.Mem.head | apply List.Mem.tail)); first | done | fail)) hlt)|refine qlnm (l := ls.getD 0 []) ?_ (hh := has_elg (has_velg (by (repeat (first | apply List.Mem.head | apply List.Mem.tail)); first | done | fail)) (by omega))|(refine wo ?_; first|(refine ao ?_; first|refine aw ?_|refine aw6 ?_|refine oa ?_|refine adiv ?_|refine amod ?_|refine shr1 ?_|refine shr ?_|refine umod ?_|refine isl ?_|refine ipe ?_|refine ipn ?_|refine ibe ?_)|refine acw ?_|refine ucv ?_|refine anw ?_|refine oa ?_|refine ld ?_|refine ldl ?_|refine lnm ?_|refine ixmn ?_|refine ixm ?_|refine li ?_|refine lb ?_|refine lv ?_|refine ln ?_|refine ixn ?_|refine ix ?_|refine le ?_|refine sr ?_|refine soi ?_|refine sob ?_|refine scm ?_|refine sclm ?_|refine schm ?_|refine gy ?_|refine gn ?_|refine gnn ?_|refine gu ?_|(refine gsi (fun hB => ?_) (fun hB => ?_) <;> try (exfalso; omega))|(refine gsn (fun hB => ?_) (fun hB => ?_) <;> try (exfalso; omega))|(refine gs (fun hB => ?_) (fun hB => ?_) <;> try (exfalso; omega)))|(refine gc ?_; first|refine ct ?_|refine cf ?_|(refine ci (fun hB => ?_) (fun hB => ?_) <;> try (exfalso; omega))|(refine cn (fun hB => ?_) (fun hB => ?_) <;> try (exfalso; omega))|(refine cb (fun hB => ?_) (fun hB => ?_) <;> try (exfalso; omega)))|refine sq ?_|refine rg ?_|refine xc ?_|refine nl ?_|refine sk ?_|refine bk ?_|refine xe ?_|refine rt ?_|refine xb ?_|refine rq ?_|refine nq ?_|(refine wq ?_; first|(refine qao ?_; first|refine qaw ?_|refine qa ?_|refine qibe ?_)|refine qacw ?_|refine qa ?_|refine qld ?_|refine qldl ?_|refine qlnm ?_|refine qixmn ?_|refine qixm ?_|refine qli ?_|refine qlb ?_|refine qlv ?_|refine qln ?_|refine qixn ?_|refine qix ?_|refine qle ?_|refine qgy ?_|refine qgn ?_|refine qgu ?_|(refine qgsi (fun hB => ?_) (fun hB => ?_) <;> try (exfalso; omega))|(refine qgsn (fun hB => ?_) (fun hB => ?_) <;> try (exfalso; omega))|(refine qgs (fun hB => ?_) (fun hB => ?_) <;> try (exfalso; omega)))
    · refine r1 ⟨?_, rfl⟩
      rw [if_pos (List.any_eq_true.2 ⟨_, getD_memL hlt, decide_eq_true (by omega)⟩)]
    · exact lp (i + 1) ⟨hlt, fun j hj => by
        by_cases e : j = i
        · subst e; omega
        · exact hal j (by omega)⟩
  · obtain rfl : i = ls.length := by omega
    repeat' first|(refine wo ?_; first|(refine ao ?_; first|refine aw ?_|refine aw6 ?_|refine oa ?_|refine adiv ?_|refine amod ?_|refine shr1 ?_|refine shr ?_|refine umod ?_|refine isl ?_|refine ipe ?_|refine ipn ?_|refine ibe ?_)|refine acw ?_|refine ucv ?_|refine anw ?_|refine oa ?_|refine ld ?_|refine ldl ?_|refine lnm ?_|refine ixmn ?_|refine ixm ?_|refine li ?_|refine lb ?_|refine lv ?_|refine ln ?_|refine ixn ?_|refine ix ?_|refine le ?_|refine sr ?_|refine soi ?_|refine sob ?_|refine scm ?_|refine sclm ?_|refine schm ?_|refine gy ?_|refine gn ?_|refine gnn ?_|refine gu ?_|(refine gsi (fun hB => ?_) (fun hB => ?_) <;> try (exfalso; omega))|(refine gsn (fun hB => ?_) (fun hB => ?_) <;> try (exfalso; omega))|(refine gs (fun hB => ?_) (fun hB => ?_) <;> try (exfalso; omega)))|(refine gc ?_; first|refine ct ?_|refine cf ?_|(refine ci (fun hB => ?_) (fun hB => ?_) <;> try (exfalso; omega))|(refine cn (fun hB => ?_) (fun hB => ?_) <;> try (exfalso; omega))|(refine cb (fun hB => ?_) (fun hB => ?_) <;> try (exfalso; omega)))|refine sq ?_|refine rg ?_|refine xc ?_|refine nl ?_|refine sk ?_|refine bk ?_|refine xe ?_|refine rt ?_|refine xb ?_
    refine r1 ⟨?_, rfl⟩
    rw [if_neg]
    intro h
    obtain ⟨l, hl, hp⟩ := List.any_eq_true.1 h
    obtain ⟨j, hj, rfl⟩ := List.mem_iff_getElem.1 hl
    have := hal j hj
    rw [show ls.getD j [] = ls[j] by simp [List.getD_eq_getElem?_getD, hj]] at this
    exact (of_decide_eq_true hp) (by rw [this])
theorem RXor_tr (a b : Value) (l m : List Int) (hl : l.length = m.length) (hm : l.length ≤ 1099511627776) : Tr Tryz.prog 58 [a, b] [vw a (By l), vw b (By m)] [] fun v D => ∃ o, v = tup2 o (I 0) ∧ o.oneCell' = true ∧ D = [own TyB o (By (xorL l m))] := by
  refine Tr.enter env _ Tryz.func58 (by kernel_rfl) rfl Tryz.ntmps58 rfl (by repeat (first | exact has00 | refine has01 ?_)) fun w0 => ?_
  have hla := By_len l
  have hlb := By_len m
  repeat' first|(refine ln (xs := By l) ?_; rw [hla])|(refine ln (xs := By m) ?_; rw [hlb])|(refine wo ?_; first|(refine ao ?_; first|refine aw ?_|refine aw6 ?_|refine oa ?_|refine adiv ?_|refine amod ?_|refine shr1 ?_|refine shr ?_|refine umod ?_|refine isl ?_|refine ipe ?_|refine ipn ?_|refine ibe ?_)|refine acw ?_|refine ucv ?_|refine anw ?_|refine oa ?_|refine ld ?_|refine ldl ?_|refine lnm ?_|refine ixmn ?_|refine ixm ?_|refine li ?_|refine lb ?_|refine lv ?_|refine ln ?_|refine ixn ?_|refine ix ?_|refine le ?_|refine sr ?_|refine soi ?_|refine sob ?_|refine scm ?_|refine sclm ?_|refine schm ?_|refine gy ?_|refine gn ?_|refine gnn ?_|refine gu ?_|(refine gsi (fun hB => ?_) (fun hB => ?_) <;> try (exfalso; omega))|(refine gsn (fun hB => ?_) (fun hB => ?_) <;> try (exfalso; omega))|(refine gs (fun hB => ?_) (fun hB => ?_) <;> try (exfalso; omega)))|(refine gc ?_; first|refine ct ?_|refine cf ?_|(refine ci (fun hB => ?_) (fun hB => ?_) <;> try (exfalso; omega))|(refine cn (fun hB => ?_) (fun hB => ?_) <;> try (exfalso; omega))|(refine cb (fun hB => ?_) (fun hB => ?_) <;> try (exfalso; omega)))|refine sq ?_|refine rg ?_|refine xc ?_|refine nl ?_|refine sk ?_|refine bk ?_|refine xe ?_|refine rt ?_|refine xb ?_
  refine TC.im (own_nil TyB _) ?_
  refine TC.loop (ι := Nat × Value) (fun g => [(7, I g.1), (6, g.2)]) (fun g => [own TyB g.2 (By ((xorL l m).take g.1))]) (fun g => g.1 ≤ l.length ∧ g.2.oneCell' = true) (fun g => l.length - g.1) (0, nS) [0, 1] ⟨Nat.zero_le _, rfl⟩ ?_ (hf := by dsimp only; first | apply Fit.all | ((repeat (first | (apply Fit.nilN; (repeat (first | apply nrm_nil | apply nrm_cons)); try apply nrm_rfl) | (apply Fit.cons; focus ((repeat (first | apply Tk.here | apply Tk.there)); first | done | fail)))); first | done | fail))
  rintro ⟨i, o⟩ ⟨hi, ho⟩
  dsimp only at hi ho ⊢
  have hxl := xorL_len hl
  by_cases hlt : i < l.length
  · have htk := xorL_take hl hlt
    have hp := By_get l i hlt
    have hq := By_get m i (by omega)
    have htl : ((xorL l m).take i).length = i := by rw [List.length_take]; omega
    generalize l.getD i 0 = p at *
    generalize m.getD i 0 = q at *
    generalize (xorL l m).take i = T at *
    repeat' first|(refine ln (xs := By l) ?_; rw [hla])|(refine wo ?_; first|(refine ao ?_; first|refine aw ?_|refine aw6 ?_|refine oa ?_|refine adiv ?_|refine amod ?_|refine shr1 ?_|refine shr ?_|refine umod ?_|refine isl ?_|refine ipe ?_|refine ipn ?_|refine ibe ?_)|refine acw ?_|refine ucv ?_|refine anw ?_|refine oa ?_|refine ld ?_|refine ldl ?_|refine lnm ?_|refine ixmn ?_|refine ixm ?_|refine li ?_|refine lb ?_|refine lv ?_|refine ln ?_|refine ixn ?_|refine ix ?_|refine le ?_|refine sr ?_|refine soi ?_|refine sob ?_|refine scm ?_|refine sclm ?_|refine schm ?_|refine gy ?_|refine gn ?_|refine gnn ?_|refine gu ?_|(refine gsi (fun hB => ?_) (fun hB => ?_) <;> try (exfalso; omega))|(refine gsn (fun hB => ?_) (fun hB => ?_) <;> try (exfalso; omega))|(refine gs (fun hB => ?_) (fun hB => ?_) <;> try (exfalso; omega)))|(refine gc ?_; first|refine ct ?_|refine cf ?_|(refine ci (fun hB => ?_) (fun hB => ?_) <;> try (exfalso; omega))|(refine cn (fun hB => ?_) (fun hB => ?_) <;> try (exfalso; omega))|(refine cb (fun hB => ?_) (fun hB => ?_) <;> try (exfalso; omega)))|refine sq ?_|refine rg ?_|refine xc ?_|refine nl ?_|refine sk ?_|refine bk ?_|refine xe ?_|refine rt ?_|refine xb ?_
    refine rs (id := 7) (fun w => Sl w a (By l) ∧ Sl w b (By m)) ?_ (fun w hw => ⟨has_sl hw (by first | (apply has_vw; (repeat (first | apply List.Mem.head | apply List.Mem.tail)); first | done | fail) | (apply has_own; (repeat (first | apply List.Mem.head | apply List.Mem.tail)); first | done | fail) | (apply has_ro; (repeat (first | apply List.Mem.head | apply List.Mem.tail)); first | done | fail) | apply has_nil | ((with_reducible apply has_el); (focus (first | (apply has_vels; (repeat (first | apply List.Mem.head | apply List.Mem.tail)); first | done | fail) | (apply has_rels; (repeat (first | apply List.Mem.head | apply List.Mem.tail)); first | done | fail))); omega) | (apply has_pt; (repeat (first | apply List.Mem.head | apply List.Mem.tail)); first | done | fail) | (apply has_lpt; (repeat (first | apply List.Mem.head | apply List.Mem.tail)); first | done | fail) | (apply has_vels; (repeat (first | apply List.Mem.head | apply List.Mem.tail)); first | done | fail) | (apply has_rels; (repeat (first | apply List.Mem.head | apply List.Mem.tail)); first | done | fail) | with_reducible assumption | ((with_reducible apply has_elg); (focus (first | (apply has_velg; (repeat (first | apply List.Mem.head | apply List.Mem.tail)); first | done | fail) | (apply has_relg; (repeat (first | apply List.Mem.head | apply List.Mem.tail)); first | done | fail))); omega) | (apply has_velg; (repeat (first | apply List.Mem.head | apply List.Mem.tail)); first | done | fail) | (apply has_relg; (repeat (first | apply List.Mem.head | apply List.Mem.tail)); first | done | fail) | (apply has_vwf; (repeat (first | apply List.Mem.head | apply List.Mem.tail)); first | done | fail)), has_sl hw (by first | (apply has_vw; (repeat (first | apply List.Mem.head | apply List.Mem.tail)); first | done | fail) | (apply has_own; (repeat (first | apply List.Mem.head | apply List.Mem.tail)); first | done | fail) | (apply has_ro; (repeat (first | apply List.Mem.head | apply List.Mem.tail)); first | done | fail) | apply has_nil | ((with_reducible apply has_el); (focus (first | (apply has_vels; (repeat (first | apply List.Mem.head | apply List.Mem.tail)); first | done | fail) | (apply has_rels; (repeat (first | apply List.Mem.head | apply List.Mem.tail)); first | done | fail))); omega) | (apply has_pt; (repeat (first | apply List.Mem.head | apply List.Mem.tail)); first | done | fail) | (apply has_lpt; (repeat (first | apply List.Mem.head | apply List.Mem.tail)); first | done | fail) | (apply has_vels; (repeat (first | apply List.Mem.head | apply List.Mem.tail)); first | done | fail) | (apply has_rels; (repeat (first | apply List.Mem.head | apply List.Mem.tail)); first | done | fail) | with_reducible assumption | ((with_reducible apply has_elg); (focus (first | (apply has_velg; (repeat (first | apply List.Mem.head | apply List.Mem.tail)); first | done | fail) | (apply has_relg; (repeat (first | apply List.Mem.head | apply List.Mem.tail)); first | done | fail))); omega) | (apply has_velg; (repeat (first | apply List.Mem.head | apply List.Mem.tail)); first | done | fail) | (apply has_relg; (repeat (first | apply List.Mem.head | apply List.Mem.tail)); first | done | fail) | (apply has_vwf; (repeat (first | apply List.Mem.head | apply List.Mem.tail)); first | done | fail))⟩)
    refine tka 0 ?_
    refine tka 1 ?_
    refine tka 2 ?_
    refine tkx 3 (len := l.length) (fun w h => ⟨_, h.1, hla⟩) ?_
    refine tk 4 (v := y8 p) (hi := rfl) (fun w h => by exact R_load (E := env) rfl rfl rfl (h.1.cell hp)) ?_
    refine tka 5 ?_
    refine tka 6 ?_
    refine tkx 7 (len := l.length) (fun w h => ⟨_, h.2, by rw [hlb]; omega⟩) ?_
    refine tk 8 (v := y8 q) (hi := rfl) (fun w h => by exact R_load (E := env) rfl rfl rfl (h.2.cell hq)) ?_
    refine tk 9 (v := y8 (bxr p q)) (hi := rfl) (fun w h => by exact R_bxr rfl rfl) ?_
    refine t1 10 ?_
    refine sli (vs := [y8 (bxr p q)]) (fun v1 => ?_) (h1 := one_cons rfl one_nil)
    refine nl ?_
    refine te (fun w hw => ⟨has_sl hw (by first | (apply has_vw; (repeat (first | apply List.Mem.head | apply List.Mem.tail)); first | done | fail) | (apply has_own; (repeat (first | apply List.Mem.head | apply List.Mem.tail)); first | done | fail) | (apply has_ro; (repeat (first | apply List.Mem.head | apply List.Mem.tail)); first | done | fail) | apply has_nil | ((with_reducible apply has_el); (focus (first | (apply has_vels; (repeat (first | apply List.Mem.head | apply List.Mem.tail)); first | done | fail) | (apply has_rels; (repeat (first | apply List.Mem.head | apply List.Mem.tail)); first | done | fail))); omega) | (apply has_pt; (repeat (first | apply List.Mem.head | apply List.Mem.tail)); first | done | fail) | (apply has_lpt; (repeat (first | apply List.Mem.head | apply List.Mem.tail)); first | done | fail) | (apply has_vels; (repeat (first | apply List.Mem.head | apply List.Mem.tail)); first | done | fail) | (apply has_rels; (repeat (first | apply List.Mem.head | apply List.Mem.tail)); first | done | fail) | with_reducible assumption | ((with_reducible apply has_elg); (focus (first | (apply has_velg; (repeat (first | apply List.Mem.head | apply List.Mem.tail)); first | done | fail) | (apply has_relg; (repeat (first | apply List.Mem.head | apply List.Mem.tail)); first | done | fail))); omega) | (apply has_velg; (repeat (first | apply List.Mem.head | apply List.Mem.tail)); first | done | fail) | (apply has_relg; (repeat (first | apply List.Mem.head | apply List.Mem.tail)); first | done | fail) | (apply has_vwf; (repeat (first | apply List.Mem.head | apply List.Mem.tail)); first | done | fail)), has_sl hw (by first | (apply has_vw; (repeat (first | apply List.Mem.head | apply List.Mem.tail)); first | done | fail) | (apply has_own; (repeat (first | apply List.Mem.head | apply List.Mem.tail)); first | done | fail) | (apply has_ro; (repeat (first | apply List.Mem.head | apply List.Mem.tail)); first | done | fail) | apply has_nil | ((with_reducible apply has_el); (focus (first | (apply has_vels; (repeat (first | apply List.Mem.head | apply List.Mem.tail)); first | done | fail) | (apply has_rels; (repeat (first | apply List.Mem.head | apply List.Mem.tail)); first | done | fail))); omega) | (apply has_pt; (repeat (first | apply List.Mem.head | apply List.Mem.tail)); first | done | fail) | (apply has_lpt; (repeat (first | apply List.Mem.head | apply List.Mem.tail)); first | done | fail) | (apply has_vels; (repeat (first | apply List.Mem.head | apply List.Mem.tail)); first | done | fail) | (apply has_rels; (repeat (first | apply List.Mem.head | apply List.Mem.tail)); first | done | fail) | with_reducible assumption | ((with_reducible apply has_elg); (focus (first | (apply has_velg; (repeat (first | apply List.Mem.head | apply List.Mem.tail)); first | done | fail) | (apply has_relg; (repeat (first | apply List.Mem.head | apply List.Mem.tail)); first | done | fail))); omega) | (apply has_velg; (repeat (first | apply List.Mem.head | apply List.Mem.tail)); first | done | fail) | (apply has_relg; (repeat (first | apply List.Mem.head | apply List.Mem.tail)); first | done | fail) | (apply has_vwf; (repeat (first | apply List.Mem.head | apply List.Mem.tail)); first | done | fail))⟩) ?_
    refine t1 11 ?_
    refine apb (l := T) (news := [bxr p q]) (fun v2 h2 => ?_)
    refine nl ?_
    refine te (fun w hw => ⟨has_sl hw (by first | (apply has_vw; (repeat (first | apply List.Mem.head | apply List.Mem.tail)); first | done | fail) | (apply has_own; (repeat (first | apply List.Mem.head | apply List.Mem.tail)); first | done | fail) | (apply has_ro; (repeat (first | apply List.Mem.head | apply List.Mem.tail)); first | done | fail) | apply has_nil | ((with_reducible apply has_el); (focus (first | (apply has_vels; (repeat (first | apply List.Mem.head | apply List.Mem.tail)); first | done | fail) | (apply has_rels; (repeat (first | apply List.Mem.head | apply List.Mem.tail)); first | done | fail))); omega) | (apply has_pt; (repeat (first | apply List.Mem.head | apply List.Mem.tail)); first | done | fail) | (apply has_lpt; (repeat (first | apply List.Mem.head | apply List.Mem.tail)); first | done | fail) | (apply has_vels; (repeat (first | apply List.Mem.head | apply List.Mem.tail)); first | done | fail) | (apply has_rels; (repeat (first | apply List.Mem.head | apply List.Mem.tail)); first | done | fail) | with_reducible assumption | ((with_reducible apply has_elg); (focus (first | (apply has_velg; (repeat (first | apply List.Mem.head | apply List.Mem.tail)); first | done | fail) | (apply has_relg; (repeat (first | apply List.Mem.head | apply List.Mem.tail)); first | done | fail))); omega) | (apply has_velg; (repeat (first | apply List.Mem.head | apply List.Mem.tail)); first | done | fail) | (apply has_relg; (repeat (first | apply List.Mem.head | apply List.Mem.tail)); first | done | fail) | (apply has_vwf; (repeat (first | apply List.Mem.head | apply List.Mem.tail)); first | done | fail)), has_sl hw (by first | (apply has_vw; (repeat (first | apply List.Mem.head | apply List.Mem.tail)); first | done | fail) | (apply has_own; (repeat (first | apply List.Mem.head | apply List.Mem.tail)); first | done | fail) | (apply has_ro; (repeat (first | apply List.Mem.head | apply List.Mem.tail)); first | done | fail) | apply has_nil | ((with_reducible apply has_el); (focus (first | (apply has_vels; (repeat (first | apply List.Mem.head | apply List.Mem.tail)); first | done | fail) | (apply has_rels; (repeat (first | apply List.Mem.head | apply List.Mem.tail)); first | done | fail))); omega) | (apply has_pt; (repeat (first | apply List.Mem.head | apply List.Mem.tail)); first | done | fail) | (apply has_lpt; (repeat (first | apply List.Mem.head | apply List.Mem.tail)); first | done | fail) | (apply has_vels; (repeat (first | apply List.Mem.head | apply List.Mem.tail)); first | done | fail) | (apply has_rels; (repeat (first | apply List.Mem.head | apply List.Mem.tail)); first | done | fail) | with_reducible assumption | ((with_reducible apply has_elg); (focus (first | (apply has_velg; (repeat (first | apply List.Mem.head | apply List.Mem.tail)); first | done | fail) | (apply has_relg; (repeat (first | apply List.Mem.head | apply List.Mem.tail)); first | done | fail))); omega) | (apply has_velg; (repeat (first | apply List.Mem.head | apply List.Mem.tail)); first | done | fail) | (apply has_relg; (repeat (first | apply List.Mem.head | apply List.Mem.tail)); first | done | fail) | (apply has_vwf; (repeat (first | apply List.Mem.head | apply List.Mem.tail)); first | done | fail))⟩) ?_
    refine tka 12 ?_
    refine t0 ?_
    repeat' first|(refine wo ?_; first|(refine ao ?_; first|refine aw ?_|refine aw6 ?_|refine oa ?_|refine adiv ?_|refine amod ?_|refine shr1 ?_|refine shr ?_|refine umod ?_|refine isl ?_|refine ipe ?_|refine ipn ?_|refine ibe ?_)|refine acw ?_|refine ucv ?_|refine anw ?_|refine oa ?_|refine ld ?_|refine ldl ?_|refine lnm ?_|refine ixmn ?_|refine ixm ?_|refine li ?_|refine lb ?_|refine lv ?_|refine ln ?_|refine ixn ?_|refine ix ?_|refine le ?_|refine sr ?_|refine soi ?_|refine sob ?_|refine scm ?_|refine sclm ?_|refine schm ?_|refine gy ?_|refine gn ?_|refine gnn ?_|refine gu ?_|(refine gsi (fun hB => ?_) (fun hB => ?_) <;> try (exfalso; omega))|(refine gsn (fun hB => ?_) (fun hB => ?_) <;> try (exfalso; omega))|(refine gs (fun hB => ?_) (fun hB => ?_) <;> try (exfalso; omega)))|(refine gc ?_; first|refine ct ?_|refine cf ?_|(refine ci (fun hB => ?_) (fun hB => ?_) <;> try (exfalso; omega))|(refine cn (fun hB => ?_) (fun hB => ?_) <;> try (exfalso; omega))|(refine cb (fun hB => ?_) (fun hB => ?_) <;> try (exfalso; omega)))|refine sq ?_|refine rg ?_|refine xc ?_|refine nl ?_|refine sk ?_|refine bk ?_|refine xe ?_|refine rt ?_|refine xb ?_
    exact lp (i + 1, v2) ⟨hlt, h2⟩ (hf := by dsimp only; rw [htk]; first | apply Fit.all | ((repeat (first | (apply Fit.nilN; (repeat (first | apply nrm_nil | apply nrm_cons)); try apply nrm_rfl) | (apply Fit.cons; focus ((repeat (first | apply Tk.here | apply Tk.there)); first | done | fail)))); first | done | fail))
  · obtain rfl : i = l.length := by omega
    repeat' first|(refine ln (xs := By l) ?_; rw [hla])|(refine wo ?_; first|(refine ao ?_; first|refine aw ?_|refine aw6 ?_|refine oa ?_|refine adiv ?_|refine amod ?_|refine shr1 ?_|refine shr ?_|refine umod ?_|refine isl ?_|refine ipe ?_|refine ipn ?_|refine ibe ?_)|refine acw ?_|refine ucv ?_|refine anw ?_|refine oa ?_|refine ld ?_|refine ldl ?_|refine lnm ?_|refine ixmn ?_|refine ixm ?_|refine li ?_|refine lb ?_|refine lv ?_|refine ln ?_|refine ixn ?_|refine ix ?_|refine le ?_|refine sr ?_|refine soi ?_|refine sob ?_|refine scm ?_|refine sclm ?_|refine schm ?_|refine gy ?_|refine gn ?_|refine gnn ?_|refine gu ?_|(refine gsi (fun hB => ?_) (fun hB => ?_) <;> try (exfalso; omega))|(refine gsn (fun hB => ?_) (fun hB => ?_) <;> try (exfalso; omega))|(refine gs (fun hB => ?_) (fun hB => ?_) <;> try (exfalso; omega)))|(refine gc ?_; first|refine ct ?_|refine cf ?_|(refine ci (fun hB => ?_) (fun hB => ?_) <;> try (exfalso; omega))|(refine cn (fun hB => ?_) (fun hB => ?_) <;> try (exfalso; omega))|(refine cb (fun hB => ?_) (fun hB => ?_) <;> try (exfalso; omega)))|refine sq ?_|refine rg ?_|refine xc ?_|refine nl ?_|refine sk ?_|refine bk ?_|refine xe ?_|refine rt ?_|refine xb ?_
    rw [← hxl, List.take_length]
    exact r2 ⟨o, rfl, ho, rfl⟩
end Go.Art
set_option linter.unusedSimpArgs false
set_option linter.unusedVariables false
namespace Go.Art
open Go
structure RaI (t : List Int) (all : Int) (u : AlS) (dn : List Bool) : Prop where
  ld : dn.length = t.length
  dr : ∀ c : Nat, c < t.length → dn.getD c false = true → u.rest.getD c 0 < all
  B : ∀ c : Nat, c < t.length → ((c : Int) ∈ u.B ↔ dn.getD c false = false ∧ u.rest.getD c 0 < all)
  A : ∀ c : Nat, c < t.length → ((c : Int) ∈ u.A ↔ all < u.rest.getD c 0)
  sB : u.B.Pairwise (· ≤ ·)
  sA : u.A.Pairwise (· ≤ ·)
theorem mem_srt {x y : Int} {l : List Int} : x ∈ srt (y :: l) ↔ x = y ∨ x ∈ l := by rw [(srt_perm (y :: l)).mem_iff, List.mem_cons]
theorem getB_set' (l : List Bool) (i t : Nat) (x : Bool) (h : i < l.length) : (l.set i x).getD t false = if t = i then x else l.getD t false := by
  rw [List.getD_eq_getElem?_getD, List.getElem?_set]
  by_cases e : i = t
  · subst e; simp [h]
  · rw [if_neg e, if_neg (fun q => e q.symm), List.getD_eq_getElem?_getD]
theorem RaI.step {t : List Int} {all : Int} {u : AlS} {dn : List Bool} {i j : Int} {B A : List Int} (r : RaI t all u dn) (h : AlI t all u) (hB : u.B = i :: B) (hA : u.A = j :: A) :
    RaI t all (alStep all u i j B A) (dn.set i.toNat true) := by
  have hbi := h.B i (by rw [hB]; simp)
  have haj := h.A j (by rw [hA]; simp)
  have hnd := h.nd
  rw [hB, hA] at hnd
  obtain ⟨n1, n2, n3⟩ := List.nodup_append.1 hnd
  obtain ⟨hiB, nB⟩ := List.nodup_cons.1 n1
  obtain ⟨hjA, nA⟩ := List.nodup_cons.1 n2
  have hij : i ≠ j := n3 i (by simp) j (by simp)
  have hsB := r.sB
  rw [hB] at hsB
  have hsA := r.sA
  rw [hA] at hsA
  obtain ⟨⟨i0, i1⟩, i2, i3⟩ := hbi
  obtain ⟨⟨j0, j1⟩, j2, j3, j4⟩ := haj
  have hlr := h.lr
  have hld := r.ld
  have hr : ∀ c : Nat, (alStep all u i j B A).rest.getD c 0 = if (c : Int) = j then u.rest.getD j.toNat 0 - (all - u.rest.getD i.toNat 0) else u.rest.getD c 0 := fun c => by
    have := getD_setI u.rest j c (u.rest.getD j.toNat 0 - (all - u.rest.getD i.toNat 0)) (by omega) (by omega)
    rw [Int.toNat_natCast] at this
    exact this
  have hd : ∀ c : Nat, (dn.set i.toNat true).getD c false = if (c : Int) = i then true else dn.getD c false := fun c => by
    rw [getB_set' _ _ _ _ (by omega)]
    by_cases e : (c : Int) = i
    · rw [if_pos (by omega), if_pos e]
    · rw [if_neg (by omega), if_neg e]
  have hdj : dn.getD j.toNat false = false := by
    cases hc : dn.getD j.toNat false with
    | false => rfl
    | true => have := r.dr j.toNat (by omega) hc; omega
  refine ⟨by rw [List.length_set]; exact hld, fun c hc hdc => ?_, fun c hc => ?_, fun c hc => ?_, ?_, ?_⟩
  · rw [hr]
    rw [hd] at hdc
    by_cases ej : (c : Int) = j
    · rw [if_neg (by omega)] at hdc
      have : c = j.toNat := by omega
      rw [this, hdj] at hdc; cases hdc
    · rw [if_neg ej]
      by_cases ei : (c : Int) = i
      · have : c = i.toNat := by omega
        rw [this]; exact i3
      · rw [if_neg ei] at hdc
        exact r.dr c hc hdc
  · rw [hr, hd]
    have hBc := r.B c hc
    rw [hB, List.mem_cons] at hBc
    show (c : Int) ∈ (if u.rest.getD j.toNat 0 - (all - u.rest.getD i.toNat 0) > all then B else if u.rest.getD j.toNat 0 - (all - u.rest.getD i.toNat 0) < all then srt (j :: B) else B) ↔ _
    generalize u.rest.getD j.toNat 0 - (all - u.rest.getD i.toNat 0) = rr
    have hjB : j ∉ B := fun hm => n3 j (by simp [hm]) j (by simp) rfl
    by_cases ej : (c : Int) = j
    · have hcj : c = j.toNat := by omega
      rw [if_pos ej, if_neg (show ¬ (c : Int) = i by omega), show dn.getD c false = false by rw [hcj]; exact hdj, ej]
      by_cases g1 : rr > all
      · rw [if_pos g1]; exact ⟨fun q => absurd q hjB, fun q => by omega⟩
      · rw [if_neg g1]
        by_cases g2 : rr < all
        · rw [if_pos g2]; exact ⟨fun _ => ⟨rfl, g2⟩, fun _ => mem_srt.2 (.inl rfl)⟩
        · rw [if_neg g2]; exact ⟨fun q => absurd q hjB, fun q => absurd q.2 g2⟩
    · rw [if_neg ej]
      have hm : (c : Int) ∈ (if rr > all then B else if rr < all then srt (j :: B) else B) ↔ (c : Int) ∈ B := by
        split
        · exact Iff.rfl
        · split
          · rw [mem_srt]; exact ⟨fun q => q.resolve_left ej, .inr⟩
          · exact Iff.rfl
      rw [hm]
      by_cases ei : (c : Int) = i
      · rw [if_pos ei, ei]
        exact ⟨fun q => absurd q hiB, fun q => by cases q.1⟩
      · rw [if_neg ei, ← hBc]
        exact ⟨.inr, fun q => q.resolve_left ei⟩
  · rw [hr]
    have hAc := r.A c hc
    rw [hA, List.mem_cons] at hAc
    show (c : Int) ∈ (if u.rest.getD j.toNat 0 - (all - u.rest.getD i.toNat 0) > all then j :: A else A) ↔ _
    generalize u.rest.getD j.toNat 0 - (all - u.rest.getD i.toNat 0) = rr
    by_cases ej : (c : Int) = j
    · rw [if_pos ej, ej]
      by_cases g1 : rr > all
      · rw [if_pos g1]; exact ⟨fun _ => g1, fun _ => by simp⟩
      · rw [if_neg g1]; exact ⟨fun q => absurd q hjA, fun q => absurd q g1⟩
    · rw [if_neg ej, ← hAc]
      split
      · rw [List.mem_cons]
      · exact ⟨.inr, fun q => q.resolve_left ej⟩
  · show (if u.rest.getD j.toNat 0 - (all - u.rest.getD i.toNat 0) > all then B else if u.rest.getD j.toNat 0 - (all - u.rest.getD i.toNat 0) < all then srt (j :: B) else B).Pairwise (· ≤ ·)
    have hs := (List.pairwise_cons.1 hsB).2
    split
    · exact hs
    · split
      · exact srt_sorted _
      · exact hs
  · show (if u.rest.getD j.toNat 0 - (all - u.rest.getD i.toNat 0) > all then j :: A else A).Pairwise (· ≤ ·)
    split
    · exact hsA
    · exact (List.pairwise_cons.1 hsA).2
theorem alIn_mem {t : List Int} {all : Int} : ∀ n : Nat, n ≤ t.length → (∀ c : Int, (c ∈ (alIn t all n).B ↔ (0 ≤ c ∧ c < n) ∧ t.getD c.toNat 0 * t.length < all) ∧ (c ∈ (alIn t all n).A ↔ (0 ≤ c ∧ c < n) ∧ all < t.getD c.toNat 0 * t.length)) ∧
    (alIn t all n).B.Pairwise (· ≤ ·) ∧ (alIn t all n).A.Pairwise (· ≤ ·) ∧ (alIn t all n).rest.length = t.length ∧ ∀ c : Nat, c < n → (alIn t all n).rest.getD c 0 = t.getD c 0 * t.length
  | 0, _ => ⟨fun c => ⟨⟨fun q => (by simp [alIn] at q), fun q => by omega⟩, ⟨fun q => (by simp [alIn] at q), fun q => by omega⟩⟩, by simp [alIn], by simp [alIn], by simp [alIn], fun c h => by omega⟩
  | n + 1, hn => by
    obtain ⟨h1, h2, h3, h4, h5⟩ := alIn_mem (t := t) (all := all) n (by omega)
    have hc1 : ∀ c : Int, (0 ≤ c ∧ c < ((n + 1 : Nat) : Int)) ↔ c = n ∨ (0 ≤ c ∧ c < (n : Int)) := fun c => by omega
    have hcn : (n : Int).toNat = n := Int.toNat_natCast n
    refine ⟨fun c => ⟨?_, ?_⟩, ?_, ?_, ?_, fun c hc => ?_⟩
    · show c ∈ (if t.getD n 0 * t.length < all then srt ((n : Int) :: (alIn t all n).B) else (alIn t all n).B) ↔ _
      rw [hc1]
      split
      · rename_i g
        rw [mem_srt, (h1 c).1]
        constructor
        · rintro (rfl | q)
          · exact ⟨.inl rfl, by rw [hcn]; exact g⟩
          · exact ⟨.inr q.1, q.2⟩
        · rintro ⟨rfl | q, g2⟩
          · exact .inl rfl
          · exact .inr ⟨q, g2⟩
      · rename_i g
        rw [(h1 c).1]
        constructor
        · intro q; exact ⟨.inr q.1, q.2⟩
        · rintro ⟨rfl | q, g2⟩
          · rw [hcn] at g2; exact absurd g2 g
          · exact ⟨q, g2⟩
    · show c ∈ (if t.getD n 0 * t.length < all then (alIn t all n).A else if t.getD n 0 * t.length > all then srt ((n : Int) :: (alIn t all n).A) else (alIn t all n).A) ↔ _
      rw [hc1]
      split
      · rename_i g
        rw [(h1 c).2]
        constructor
        · intro q; exact ⟨.inr q.1, q.2⟩
        · rintro ⟨rfl | q, g2⟩
          · rw [hcn] at g2; omega
          · exact ⟨q, g2⟩
      · split
        · rename_i g
          rw [mem_srt, (h1 c).2]
          constructor
          · rintro (rfl | q)
            · exact ⟨.inl rfl, by rw [hcn]; exact g⟩
            · exact ⟨.inr q.1, q.2⟩
          · rintro ⟨rfl | q, g2⟩
            · exact .inl rfl
            · exact .inr ⟨q, g2⟩
        · rename_i g
          rw [(h1 c).2]
          constructor
          · intro q; exact ⟨.inr q.1, q.2⟩
          · rintro ⟨rfl | q, g2⟩
            · rw [hcn] at g2; exact absurd g2 g
            · exact ⟨q, g2⟩
    · show (if t.getD n 0 * t.length < all then srt ((n : Int) :: (alIn t all n).B) else (alIn t all n).B).Pairwise (· ≤ ·)
      split
      · exact srt_sorted _
      · exact h2
    · show (if t.getD n 0 * t.length < all then (alIn t all n).A else if t.getD n 0 * t.length > all then srt ((n : Int) :: (alIn t all n).A) else (alIn t all n).A).Pairwise (· ≤ ·)
      split
      · exact h3
      · split
        · exact srt_sorted _
        · exact h3
    · show ((alIn t all n).rest.set n _).length = _
      rw [List.length_set]; exact h4
    · show ((alIn t all n).rest.set n (t.getD n 0 * t.length)).getD c 0 = _
      rw [getD_set _ _ _ _ (by omega)]
      by_cases e : n = c
      · rw [if_pos e, e]
      · rw [if_neg e]; exact h5 c (by omega)
theorem RaI.start (t : List Int) (all : Int) : RaI t all (alIn t all t.length) (List.replicate t.length false) := by
  obtain ⟨h1, h2, h3, h4, h5⟩ := alIn_mem (t := t) (all := all) t.length (Nat.le_refl _)
  have hf : ∀ c : Nat, (List.replicate t.length false).getD c false = false := fun c => by
    rw [List.getD_eq_getElem?_getD, List.getElem?_replicate]; split <;> rfl
  refine ⟨by simp, fun c _ q => (by rw [hf] at q; cases q), fun c hc => ?_, fun c hc => ?_, h2, h3⟩
  · rw [(h1 c).1, hf, h5 c hc, Int.toNat_natCast]
    exact ⟨fun q => ⟨rfl, q.2⟩, fun q => ⟨by omega, q.2⟩⟩
  · rw [(h1 c).2, h5 c hc, Int.toNat_natCast]
    exact ⟨fun q => q.2, fun q => ⟨by omega, q⟩⟩
theorem RaI.least {t : List Int} {all : Int} {u : AlS} {dn : List Bool} (r : RaI t all u dn) (h : AlI t all u) {i : Nat} (hi : i ≤ t.length) (h1 : i < t.length → dn.getD i false = false ∧ u.rest.getD i 0 < all) (h2 : ∀ j : Nat, j < i → ¬ (dn.getD j false = false ∧ u.rest.getD j 0 < all)) :
    if i < t.length then u.B.head? = some (i : Int) else u.B = [] := by
  cases hB : u.B with
  | nil =>
    split
    · rename_i g
      have := (r.B i g).2 (h1 g)
      rw [hB] at this; simp at this
    · rfl
  | cons x B =>
    have hx := h.B x (by rw [hB]; simp)
    have hx2 := (r.B x.toNat (by omega)).1 (by rw [show ((x.toNat : Nat) : Int) = x by omega, hB]; simp)
    have hix : ¬ x.toNat < i := fun q => h2 _ q hx2
    rw [if_pos (by omega)]
    have hm := (r.B i (by omega)).2 (h1 (by omega))
    rw [hB] at hm
    have hs := r.sB
    rw [hB] at hs
    rcases List.mem_cons.1 hm with e | hm
    · rw [e]; rfl
    · have := (List.pairwise_cons.1 hs).1 _ hm
      have e : x = i := by omega
      rw [e]; rfl
theorem RaI.most {t : List Int} {all : Int} {u : AlS} {dn : List Bool} (r : RaI t all u dn) (h : AlI t all u) {x : Int} {A : List Int} (hA : u.A = x :: A) {j : Nat} (hj : j < t.length) (h1 : j < t.length - 1 → all < u.rest.getD j 0) (h2 : ∀ c : Nat, c < j → ¬ all < u.rest.getD c 0) : (j : Int) = x := by
  have hx := h.A x (by rw [hA]; simp)
  have hx2 := (r.A x.toNat (by omega)).1 (by rw [show ((x.toNat : Nat) : Int) = x by omega, hA]; simp)
  have hix : ¬ x.toNat < j := fun q => h2 _ q hx2
  by_cases e : j = t.length - 1
  · omega
  · have hm := (r.A j hj).2 (h1 (by omega))
    rw [hA] at hm
    have hs := r.sA
    rw [hA] at hs
    rcases List.mem_cons.1 hm with e | hm
    · exact e
    · have := (List.pairwise_cons.1 hs).1 _ hm
      omega
end Go.Art
set_option linter.unusedSimpArgs false
set_option linter.unusedVariables false
namespace Go.Art
open Go Go.Proofs Go.RowKit
section
variable {P : Program} {E : Env P} {n : Sh} {X : Cx} {s : List K} {fr : Fr} {A A' : List Ch} {ops : Array Oper} {rest : List Oper} {d : Nat} {ty t el : TypeId} {pos : String} {after : Array Edge} {v z : Value} {x y : Operand} {by_ : Nat}
theorem sbo {l : List Bool} {j : Nat} {m : Bool} (k : TO E n X s ops rest fr (own el v (Bo (l.set j m)) :: A')) (hx : ev fr x = some (.pointer (some (addrAt v j))) := by rfl) (hm : Tk (own el v (Bo l)) A A' := by (repeat (first | apply Tk.here | apply Tk.there)); first | done | fail) (hy : ev fr y = some (.bool m) := by rfl)
    (hj : j < l.length := by omega) (ht : lk E.inf t = some (z, 1, by_) := by rfl) : TO E n X s ops (⟨none, .store t x y, ty, pos, after, none⟩ :: rest) fr A := so k hx hm hy (by simpa using hj) (List.map_set ..) rfl ht
end
attribute [local irreducible] Fit pt own ro vw mpc lpt vels rels mow lrc dfr
attribute [local irreducible] lmp lme mit velg relg
theorem RSoCheck_tr (s : Value) (t : List Int) (k : Int) : Tr Tryz.prog 27 [s, I k] [vw s (Is t)] [] fun v D => v = I (solE t k) ∧ D = [] := by
  by_cases hg : k < 1 ∨ 65536 < k ∨ t.length < 1 ∨ k < t.length
  · rw [show solE t k = 13 from if_pos hg]
    refine Tr.enter env _ Tryz.func27 (by kernel_rfl) rfl Tryz.ntmps27 rfl (by repeat (first | exact has00 | refine has01 ?_)) fun w0 => ?_
    refine TC.leni (l := t) fun htl => ?_
    repeat' first|(refine wo ?_; first|(refine ao ?_; first|refine aw ?_|refine aw6 ?_|refine oa ?_|refine adiv ?_|refine amod ?_|refine shr1 ?_|refine shr ?_|refine umod ?_|refine isl ?_|refine ipe ?_|refine ipn ?_|refine ibe ?_)|refine acw ?_|refine ucv ?_|refine anw ?_|refine oa ?_|refine ld ?_|refine ldl ?_|refine lnm ?_|refine ixmn ?_|refine ixm ?_|refine li ?_|refine lb ?_|refine lv ?_|refine ln ?_|refine ixn ?_|refine ix ?_|refine le ?_|refine sr ?_|refine soi ?_|refine sob ?_|refine scm ?_|refine sclm ?_|refine schm ?_|refine gy ?_|refine gn ?_|refine gnn ?_|refine gu ?_|(refine gsi (fun hB => ?_) (fun hB => ?_) <;> try (exfalso; omega))|(refine gsn (fun hB => ?_) (fun hB => ?_) <;> try (exfalso; omega))|(refine gs (fun hB => ?_) (fun hB => ?_) <;> try (exfalso; omega)))|(refine gc ?_; first|refine ct ?_|refine cf ?_|(refine ci (fun hB => ?_) (fun hB => ?_) <;> try (exfalso; omega))|(refine cn (fun hB => ?_) (fun hB => ?_) <;> try (exfalso; omega))|(refine cb (fun hB => ?_) (fun hB => ?_) <;> try (exfalso; omega)))|refine sq ?_|refine rg ?_|refine xc ?_|refine nl ?_|refine sk ?_|refine bk ?_|refine xe ?_|refine rt ?_|refine xb ?_
    all_goals first | exact r1 ⟨rfl, rfl⟩ | (exfalso; omega)
  rw [show solE t k = if t.all wOk && t.any wPos then 0 else 13 from if_neg hg]
  refine Tr.enter env _ Tryz.func27 (by kernel_rfl) rfl Tryz.ntmps27 rfl (by repeat (first | exact has00 | refine has01 ?_)) fun w0 => ?_
  refine TC.leni (l := t) fun htl => ?_
  repeat' first|(refine wo ?_; first|(refine ao ?_; first|refine aw ?_|refine aw6 ?_|refine oa ?_|refine adiv ?_|refine amod ?_|refine shr1 ?_|refine shr ?_|refine umod ?_|refine isl ?_|refine ipe ?_|refine ipn ?_|refine ibe ?_)|refine acw ?_|refine ucv ?_|refine anw ?_|refine oa ?_|refine ld ?_|refine ldl ?_|refine lnm ?_|refine ixmn ?_|refine ixm ?_|refine li ?_|refine lb ?_|refine lv ?_|refine ln ?_|refine ixn ?_|refine ix ?_|refine le ?_|refine sr ?_|refine soi ?_|refine sob ?_|refine scm ?_|refine sclm ?_|refine schm ?_|refine gy ?_|refine gn ?_|refine gnn ?_|refine gu ?_|(refine gsi (fun hB => ?_) (fun hB => ?_) <;> try (exfalso; omega))|(refine gsn (fun hB => ?_) (fun hB => ?_) <;> try (exfalso; omega))|(refine gs (fun hB => ?_) (fun hB => ?_) <;> try (exfalso; omega)))|(refine gc ?_; first|refine ct ?_|refine cf ?_|(refine ci (fun hB => ?_) (fun hB => ?_) <;> try (exfalso; omega))|(refine cn (fun hB => ?_) (fun hB => ?_) <;> try (exfalso; omega))|(refine cb (fun hB => ?_) (fun hB => ?_) <;> try (exfalso; omega)))|refine sq ?_|refine rg ?_|refine xc ?_|refine nl ?_|refine sk ?_|refine bk ?_|refine xe ?_|refine rt ?_|refine xb ?_
  refine TC.loop (ι := Nat × Bool) (fun i => [(6, I i.1), (5, .bool i.2)]) (fun _ => []) (fun i => i.1 ≤ t.length ∧ (t.take i.1).all wOk = true ∧ i.2 = (t.take i.1).any wPos) (fun i => t.length - i.1) (0, false) [0, 1] ⟨by simp, rfl, rfl⟩ ?_
  rintro ⟨i, so⟩ ⟨h1, h2, h3⟩
  dsimp only at h1 h2 h3 ⊢
  by_cases hi : i < t.length
  · have ha := take_all (p := wOk) hi
    have hb := take_any (p := wPos) hi
    have hc := all_of_take (p := wOk) hi
    generalize hy : t.getD i 0 = y at *
    repeat' first|refine lie hy ?_|(refine wo ?_; first|(refine ao ?_; first|refine aw ?_|refine aw6 ?_|refine oa ?_|refine adiv ?_|refine amod ?_|refine shr1 ?_|refine shr ?_|refine umod ?_|refine isl ?_|refine ipe ?_|refine ipn ?_|refine ibe ?_)|refine acw ?_|refine ucv ?_|refine anw ?_|refine oa ?_|refine ld ?_|refine ldl ?_|refine lnm ?_|refine ixmn ?_|refine ixm ?_|refine li ?_|refine lb ?_|refine lv ?_|refine ln ?_|refine ixn ?_|refine ix ?_|refine le ?_|refine sr ?_|refine soi ?_|refine sob ?_|refine scm ?_|refine sclm ?_|refine schm ?_|refine gy ?_|refine gn ?_|refine gnn ?_|refine gu ?_|(refine gsi (fun hB => ?_) (fun hB => ?_) <;> try (exfalso; omega))|(refine gsn (fun hB => ?_) (fun hB => ?_) <;> try (exfalso; omega))|(refine gs (fun hB => ?_) (fun hB => ?_) <;> try (exfalso; omega)))|(refine gc ?_; first|refine ct ?_|refine cf ?_|(refine ci (fun hB => ?_) (fun hB => ?_) <;> try (exfalso; omega))|(refine cn (fun hB => ?_) (fun hB => ?_) <;> try (exfalso; omega))|(refine cb (fun hB => ?_) (fun hB => ?_) <;> try (exfalso; omega)))|refine sq ?_|refine rg ?_|refine xc ?_|refine nl ?_|refine sk ?_|refine bk ?_|refine xe ?_|refine rt ?_|refine xb ?_
    · refine r1 ⟨?_, rfl⟩
      rw [hc (by simp [wOk]; omega)]; rfl
    · refine r1 ⟨?_, rfl⟩
      rw [hc (by simp [wOk]; omega)]; rfl
    · have hw : wOk y = true := by simp [wOk]; omega
      exact lp (i + 1, true) ⟨by dsimp only; omega, by dsimp only; rw [ha, h2, hw]; rfl, by dsimp only; rw [hb, ← h3, hB]; rfl⟩
    · have hw : wOk y = true := by simp [wOk]; omega
      exact lp (i + 1, decide (0 < y)) ⟨by dsimp only; omega, by dsimp only; rw [ha, h2, hw]; rfl, by dsimp only; rw [hb, ← h3, hB]; rfl⟩
  · obtain rfl : i = t.length := by omega
    rw [List.take_length] at h2 h3
    repeat' first|(refine wo ?_; first|(refine ao ?_; first|refine aw ?_|refine aw6 ?_|refine oa ?_|refine adiv ?_|refine amod ?_|refine shr1 ?_|refine shr ?_|refine umod ?_|refine isl ?_|refine ipe ?_|refine ipn ?_|refine ibe ?_)|refine acw ?_|refine ucv ?_|refine anw ?_|refine oa ?_|refine ld ?_|refine ldl ?_|refine lnm ?_|refine ixmn ?_|refine ixm ?_|refine li ?_|refine lb ?_|refine lv ?_|refine ln ?_|refine ixn ?_|refine ix ?_|refine le ?_|refine sr ?_|refine soi ?_|refine sob ?_|refine scm ?_|refine sclm ?_|refine schm ?_|refine gy ?_|refine gn ?_|refine gnn ?_|refine gu ?_|(refine gsi (fun hB => ?_) (fun hB => ?_) <;> try (exfalso; omega))|(refine gsn (fun hB => ?_) (fun hB => ?_) <;> try (exfalso; omega))|(refine gs (fun hB => ?_) (fun hB => ?_) <;> try (exfalso; omega)))|(refine gc ?_; first|refine ct ?_|refine cf ?_|(refine ci (fun hB => ?_) (fun hB => ?_) <;> try (exfalso; omega))|(refine cn (fun hB => ?_) (fun hB => ?_) <;> try (exfalso; omega))|(refine cb (fun hB => ?_) (fun hB => ?_) <;> try (exfalso; omega)))|refine sq ?_|refine rg ?_|refine xc ?_|refine nl ?_|refine sk ?_|refine bk ?_|refine xe ?_|refine rt ?_|refine xb ?_
    · refine r1 ⟨?_, rfl⟩
      rw [h2, ← h3, show so = false by simpa using hB]; rfl
    · refine r1 ⟨?_, rfl⟩
      rw [h2, ← h3, show so = true by simpa using hB]; rfl
theorem RTable_tr (s : Value) (t : List Int) (hl : t.length ≤ 65536) (hw : ∀ w ∈ t, 0 ≤ w ∧ w ≤ 16777215) (hp : t.any wPos = true) : Tr Tryz.prog 44 [s] [vw s (Is t)] [] fun v D => v = .bool true ∧ D = [] := by
  refine Tr.enter env _ Tryz.func44 (by kernel_rfl) rfl Tryz.ntmps44 rfl (by repeat (first | exact has00 | refine has01 ?_)) fun w0 => ?_
  repeat' first|(refine wo ?_; first|(refine ao ?_; first|refine aw ?_|refine aw6 ?_|refine oa ?_|refine adiv ?_|refine amod ?_|refine shr1 ?_|refine shr ?_|refine umod ?_|refine isl ?_|refine ipe ?_|refine ipn ?_|refine ibe ?_)|refine acw ?_|refine ucv ?_|refine anw ?_|refine oa ?_|refine ld ?_|refine ldl ?_|refine lnm ?_|refine ixmn ?_|refine ixm ?_|refine li ?_|refine lb ?_|refine lv ?_|refine ln ?_|refine ixn ?_|refine ix ?_|refine le ?_|refine sr ?_|refine soi ?_|refine sob ?_|refine scm ?_|refine sclm ?_|refine schm ?_|refine gy ?_|refine gn ?_|refine gnn ?_|refine gu ?_|(refine gsi (fun hB => ?_) (fun hB => ?_) <;> try (exfalso; omega))|(refine gsn (fun hB => ?_) (fun hB => ?_) <;> try (exfalso; omega))|(refine gs (fun hB => ?_) (fun hB => ?_) <;> try (exfalso; omega)))|(refine gc ?_; first|refine ct ?_|refine cf ?_|(refine ci (fun hB => ?_) (fun hB => ?_) <;> try (exfalso; omega))|(refine cn (fun hB => ?_) (fun hB => ?_) <;> try (exfalso; omega))|(refine cb (fun hB => ?_) (fun hB => ?_) <;> try (exfalso; omega)))|refine sq ?_|refine rg ?_|refine xc ?_|refine nl ?_|refine sk ?_|refine bk ?_|refine xe ?_|refine rt ?_|refine xb ?_
  refine TC.loop (ι := Nat × Bool) (fun i => [(4, I i.1), (3, .bool i.2)]) (fun _ => []) (fun i => i.1 ≤ t.length ∧ i.2 = (t.take i.1).any wPos) (fun i => t.length - i.1) (0, false) [0] ⟨by simp, rfl⟩ ?_
  rintro ⟨i, so⟩ ⟨h1, h3⟩
  dsimp only at h1 h3 ⊢
  by_cases hi : i < t.length
  · have hb := take_any (p := wPos) hi
    have hx := hw _ (mem_getD.2 ⟨i, hi, rfl⟩)
    generalize hy : t.getD i 0 = y at *
    repeat' first|refine lie hy ?_|(refine wo ?_; first|(refine ao ?_; first|refine aw ?_|refine aw6 ?_|refine oa ?_|refine adiv ?_|refine amod ?_|refine shr1 ?_|refine shr ?_|refine umod ?_|refine isl ?_|refine ipe ?_|refine ipn ?_|refine ibe ?_)|refine acw ?_|refine ucv ?_|refine anw ?_|refine oa ?_|refine ld ?_|refine ldl ?_|refine lnm ?_|refine ixmn ?_|refine ixm ?_|refine li ?_|refine lb ?_|refine lv ?_|refine ln ?_|refine ixn ?_|refine ix ?_|refine le ?_|refine sr ?_|refine soi ?_|refine sob ?_|refine scm ?_|refine sclm ?_|refine schm ?_|refine gy ?_|refine gn ?_|refine gnn ?_|refine gu ?_|(refine gsi (fun hB => ?_) (fun hB => ?_) <;> try (exfalso; omega))|(refine gsn (fun hB => ?_) (fun hB => ?_) <;> try (exfalso; omega))|(refine gs (fun hB => ?_) (fun hB => ?_) <;> try (exfalso; omega)))|(refine gc ?_; first|refine ct ?_|refine cf ?_|(refine ci (fun hB => ?_) (fun hB => ?_) <;> try (exfalso; omega))|(refine cn (fun hB => ?_) (fun hB => ?_) <;> try (exfalso; omega))|(refine cb (fun hB => ?_) (fun hB => ?_) <;> try (exfalso; omega)))|refine sq ?_|refine rg ?_|refine xc ?_|refine nl ?_|refine sk ?_|refine bk ?_|refine xe ?_|refine rt ?_|refine xb ?_
    · exact lp (i + 1, true) ⟨by dsimp only; omega, by dsimp only; rw [hb, ← h3, hB]; rfl⟩
    · exact lp (i + 1, decide (0 < y)) ⟨by dsimp only; omega, by dsimp only; rw [hb, ← h3, hB]; rfl⟩
  · obtain rfl : i = t.length := by omega
    rw [List.take_length, hp] at h3
    subst h3
    repeat' first|(refine wo ?_; first|(refine ao ?_; first|refine aw ?_|refine aw6 ?_|refine oa ?_|refine adiv ?_|refine amod ?_|refine shr1 ?_|refine shr ?_|refine umod ?_|refine isl ?_|refine ipe ?_|refine ipn ?_|refine ibe ?_)|refine acw ?_|refine ucv ?_|refine anw ?_|refine oa ?_|refine ld ?_|refine ldl ?_|refine lnm ?_|refine ixmn ?_|refine ixm ?_|refine li ?_|refine lb ?_|refine lv ?_|refine ln ?_|refine ixn ?_|refine ix ?_|refine le ?_|refine sr ?_|refine soi ?_|refine sob ?_|refine scm ?_|refine sclm ?_|refine schm ?_|refine gy ?_|refine gn ?_|refine gnn ?_|refine gu ?_|(refine gsi (fun hB => ?_) (fun hB => ?_) <;> try (exfalso; omega))|(refine gsn (fun hB => ?_) (fun hB => ?_) <;> try (exfalso; omega))|(refine gs (fun hB => ?_) (fun hB => ?_) <;> try (exfalso; omega)))|(refine gc ?_; first|refine ct ?_|refine cf ?_|(refine ci (fun hB => ?_) (fun hB => ?_) <;> try (exfalso; omega))|(refine cn (fun hB => ?_) (fun hB => ?_) <;> try (exfalso; omega))|(refine cb (fun hB => ?_) (fun hB => ?_) <;> try (exfalso; omega)))|refine sq ?_|refine rg ?_|refine xc ?_|refine nl ?_|refine sk ?_|refine bk ?_|refine xe ?_|refine rt ?_|refine xb ?_
    exact r1 ⟨by rw [decide_eq_true (show (t.length : Int) ≤ 65536 by omega)], rfl⟩ (v := .bool (decide ((t.length : Int) ≤ 65536)))
theorem take_sum' {t : List Int} {i : Nat} (hi : i < t.length) : (t.take (i + 1)).sum = (t.take i).sum + t.getD i 0 := by rw [take_succ' hi 0, List.sum_append]; simp
theorem RTotal_tr (s : Value) (t : List Int) (hl : t.length ≤ 65536) (hw : ∀ w ∈ t, 0 ≤ w ∧ w ≤ 16777215) : Tr Tryz.prog 45 [s] [vw s (Is t)] [] fun v D => v = I t.sum ∧ D = [] := by
  refine Tr.enter env _ Tryz.func45 (by kernel_rfl) rfl Tryz.ntmps45 rfl (by repeat (first | exact has00 | refine has01 ?_)) fun w0 => ?_
  repeat' first|(refine wo ?_; first|(refine ao ?_; first|refine aw ?_|refine aw6 ?_|refine oa ?_|refine adiv ?_|refine amod ?_|refine shr1 ?_|refine shr ?_|refine umod ?_|refine isl ?_|refine ipe ?_|refine ipn ?_|refine ibe ?_)|refine acw ?_|refine ucv ?_|refine anw ?_|refine oa ?_|refine ld ?_|refine ldl ?_|refine lnm ?_|refine ixmn ?_|refine ixm ?_|refine li ?_|refine lb ?_|refine lv ?_|refine ln ?_|refine ixn ?_|refine ix ?_|refine le ?_|refine sr ?_|refine soi ?_|refine sob ?_|refine scm ?_|refine sclm ?_|refine schm ?_|refine gy ?_|refine gn ?_|refine gnn ?_|refine gu ?_|(refine gsi (fun hB => ?_) (fun hB => ?_) <;> try (exfalso; omega))|(refine gsn (fun hB => ?_) (fun hB => ?_) <;> try (exfalso; omega))|(refine gs (fun hB => ?_) (fun hB => ?_) <;> try (exfalso; omega)))|(refine gc ?_; first|refine ct ?_|refine cf ?_|(refine ci (fun hB => ?_) (fun hB => ?_) <;> try (exfalso; omega))|(refine cn (fun hB => ?_) (fun hB => ?_) <;> try (exfalso; omega))|(refine cb (fun hB => ?_) (fun hB => ?_) <;> try (exfalso; omega)))|refine sq ?_|refine rg ?_|refine xc ?_|refine nl ?_|refine sk ?_|refine bk ?_|refine xe ?_|refine rt ?_|refine xb ?_
  refine TC.loop (ι := Nat) (fun i => [(4, I i), (3, I (t.take i).sum)]) (fun _ => []) (fun i => i ≤ t.length) (fun i => t.length - i) 0 [0] (Nat.zero_le _) ?_
  intro i h1
  have hsb := sum_bound (t := t.take i) (fun w h => hw w (List.mem_of_mem_take h))
  rw [List.length_take, Nat.min_eq_left h1] at hsb
  by_cases hi : i < t.length
  · have hb := take_sum' hi
    have hx := hw _ (mem_getD.2 ⟨i, hi, rfl⟩)
    generalize hy : t.getD i 0 = y at *
    generalize (t.take i).sum = sm at *
    repeat' first|refine lie hy ?_|(refine wo ?_; first|(refine ao ?_; first|refine aw ?_|refine aw6 ?_|refine oa ?_|refine adiv ?_|refine amod ?_|refine shr1 ?_|refine shr ?_|refine umod ?_|refine isl ?_|refine ipe ?_|refine ipn ?_|refine ibe ?_)|refine acw ?_|refine ucv ?_|refine anw ?_|refine oa ?_|refine ld ?_|refine ldl ?_|refine lnm ?_|refine ixmn ?_|refine ixm ?_|refine li ?_|refine lb ?_|refine lv ?_|refine ln ?_|refine ixn ?_|refine ix ?_|refine le ?_|refine sr ?_|refine soi ?_|refine sob ?_|refine scm ?_|refine sclm ?_|refine schm ?_|refine gy ?_|refine gn ?_|refine gnn ?_|refine gu ?_|(refine gsi (fun hB => ?_) (fun hB => ?_) <;> try (exfalso; omega))|(refine gsn (fun hB => ?_) (fun hB => ?_) <;> try (exfalso; omega))|(refine gs (fun hB => ?_) (fun hB => ?_) <;> try (exfalso; omega)))|(refine gc ?_; first|refine ct ?_|refine cf ?_|(refine ci (fun hB => ?_) (fun hB => ?_) <;> try (exfalso; omega))|(refine cn (fun hB => ?_) (fun hB => ?_) <;> try (exfalso; omega))|(refine cb (fun hB => ?_) (fun hB => ?_) <;> try (exfalso; omega)))|refine sq ?_|refine rg ?_|refine xc ?_|refine nl ?_|refine sk ?_|refine bk ?_|refine xe ?_|refine rt ?_|refine xb ?_
    exact lp (i + 1) hi (hs := by rw [hb]; (repeat (refine Sub.cons rfl (by first | rfl | go_num) ?_)); exact Sub.nil)
  · obtain rfl : i = t.length := by omega
    rw [List.take_length]
    repeat' first|(refine wo ?_; first|(refine ao ?_; first|refine aw ?_|refine aw6 ?_|refine oa ?_|refine adiv ?_|refine amod ?_|refine shr1 ?_|refine shr ?_|refine umod ?_|refine isl ?_|refine ipe ?_|refine ipn ?_|refine ibe ?_)|refine acw ?_|refine ucv ?_|refine anw ?_|refine oa ?_|refine ld ?_|refine ldl ?_|refine lnm ?_|refine ixmn ?_|refine ixm ?_|refine li ?_|refine lb ?_|refine lv ?_|refine ln ?_|refine ixn ?_|refine ix ?_|refine le ?_|refine sr ?_|refine soi ?_|refine sob ?_|refine scm ?_|refine sclm ?_|refine schm ?_|refine gy ?_|refine gn ?_|refine gnn ?_|refine gu ?_|(refine gsi (fun hB => ?_) (fun hB => ?_) <;> try (exfalso; omega))|(refine gsn (fun hB => ?_) (fun hB => ?_) <;> try (exfalso; omega))|(refine gs (fun hB => ?_) (fun hB => ?_) <;> try (exfalso; omega)))|(refine gc ?_; first|refine ct ?_|refine cf ?_|(refine ci (fun hB => ?_) (fun hB => ?_) <;> try (exfalso; omega))|(refine cn (fun hB => ?_) (fun hB => ?_) <;> try (exfalso; omega))|(refine cb (fun hB => ?_) (fun hB => ?_) <;> try (exfalso; omega)))|refine sq ?_|refine rg ?_|refine xc ?_|refine nl ?_|refine sk ?_|refine bk ?_|refine xe ?_|refine rt ?_|refine xb ?_
    exact r1 ⟨rfl, rfl⟩
theorem below_tr (rv dv : Value) (l : List Int) (dn : List Bool) (all : Int) (hl : l.length ≤ 65536) (hd : dn.length = l.length) : Tr Tryz.prog 46 [rv, dv, I all] [vw rv (Is l), vw dv (Bo dn)] []
    fun v D => (∃ i : Nat, v = I i ∧ i ≤ l.length ∧ (i < l.length → dn.getD i false = false ∧ l.getD i 0 < all) ∧ ∀ j : Nat, j < i → ¬ (dn.getD j false = false ∧ l.getD j 0 < all)) ∧ D = [] := by
  refine Tr.enter env _ Tryz.func46 (by kernel_rfl) rfl Tryz.ntmps46 rfl (by repeat (first | exact has00 | refine has01 ?_)) fun w0 => ?_
  repeat' first|(refine wo ?_; first|(refine ao ?_; first|refine aw ?_|refine aw6 ?_|refine oa ?_|refine adiv ?_|refine amod ?_|refine shr1 ?_|refine shr ?_|refine umod ?_|refine isl ?_|refine ipe ?_|refine ipn ?_|refine ibe ?_)|refine acw ?_|refine ucv ?_|refine anw ?_|refine oa ?_|refine ld ?_|refine ldl ?_|refine lnm ?_|refine ixmn ?_|refine ixm ?_|refine li ?_|refine lb ?_|refine lv ?_|refine ln ?_|refine ixn ?_|refine ix ?_|refine le ?_|refine sr ?_|refine soi ?_|refine sob ?_|refine scm ?_|refine sclm ?_|refine schm ?_|refine gy ?_|refine gn ?_|refine gnn ?_|refine gu ?_|(refine gsi (fun hB => ?_) (fun hB => ?_) <;> try (exfalso; omega))|(refine gsn (fun hB => ?_) (fun hB => ?_) <;> try (exfalso; omega))|(refine gs (fun hB => ?_) (fun hB => ?_) <;> try (exfalso; omega)))|(refine gc ?_; first|refine ct ?_|refine cf ?_|(refine ci (fun hB => ?_) (fun hB => ?_) <;> try (exfalso; omega))|(refine cn (fun hB => ?_) (fun hB => ?_) <;> try (exfalso; omega))|(refine cb (fun hB => ?_) (fun hB => ?_) <;> try (exfalso; omega)))|refine sq ?_|refine rg ?_|refine xc ?_|refine nl ?_|refine sk ?_|refine bk ?_|refine xe ?_|refine rt ?_|refine xb ?_
  refine TC.loop (ι := Nat) (fun i => [(7, I i)]) (fun _ => []) (fun i => i ≤ l.length ∧ ∀ j : Nat, j < i → ¬ (dn.getD j false = false ∧ l.getD j 0 < all)) (fun i => l.length - i) 0 [0, 1, 2] ⟨Nat.zero_le _, fun j h => absurd h (Nat.not_lt_zero j)⟩ ?_
  rintro i ⟨h1, h2⟩
  by_cases hi : i < l.length
  · have hid : i < dn.length := by omega
    cases hb : dn.getD i false
    · by_cases hc : l.getD i 0 < all
      · generalize hy : l.getD i 0 = y at *
        repeat' first|refine lie hy ?_|(refine lbo (l := dn) ?_; rw [hb])|(refine wo ?_; first|(refine ao ?_; first|refine aw ?_|refine aw6 ?_|refine oa ?_|refine adiv ?_|refine amod ?_|refine shr1 ?_|refine shr ?_|refine umod ?_|refine isl ?_|refine ipe ?_|refine ipn ?_|refine ibe ?_)|refine acw ?_|refine ucv ?_|refine anw ?_|refine oa ?_|refine ld ?_|refine ldl ?_|refine lnm ?_|refine ixmn ?_|refine ixm ?_|refine li ?_|refine lb ?_|refine lv ?_|refine ln ?_|refine ixn ?_|refine ix ?_|refine le ?_|refine sr ?_|refine soi ?_|refine sob ?_|refine scm ?_|refine sclm ?_|refine schm ?_|refine gy ?_|refine gn ?_|refine gnn ?_|refine gu ?_|(refine gsi (fun hB => ?_) (fun hB => ?_) <;> try (exfalso; omega))|(refine gsn (fun hB => ?_) (fun hB => ?_) <;> try (exfalso; omega))|(refine gs (fun hB => ?_) (fun hB => ?_) <;> try (exfalso; omega)))|(refine gc ?_; first|refine ct ?_|refine cf ?_|(refine ci (fun hB => ?_) (fun hB => ?_) <;> try (exfalso; omega))|(refine cn (fun hB => ?_) (fun hB => ?_) <;> try (exfalso; omega))|(refine cb (fun hB => ?_) (fun hB => ?_) <;> try (exfalso; omega)))|refine sq ?_|refine rg ?_|refine xc ?_|refine nl ?_|refine sk ?_|refine bk ?_|refine xe ?_|refine rt ?_|refine xb ?_
        exact r1 ⟨⟨i, rfl, h1, fun _ => ⟨hb, by omega⟩, h2⟩, rfl⟩
      · have hn : ∀ j : Nat, j < i + 1 → ¬ (dn.getD j false = false ∧ l.getD j 0 < all) := fun j hj => by
          by_cases e : j = i
          · subst e; exact fun q => hc q.2
          · exact h2 j (by omega)
        generalize hy : l.getD i 0 = y at *
        repeat' first|refine lie hy ?_|(refine lbo (l := dn) ?_; rw [hb])|(refine wo ?_; first|(refine ao ?_; first|refine aw ?_|refine aw6 ?_|refine oa ?_|refine adiv ?_|refine amod ?_|refine shr1 ?_|refine shr ?_|refine umod ?_|refine isl ?_|refine ipe ?_|refine ipn ?_|refine ibe ?_)|refine acw ?_|refine ucv ?_|refine anw ?_|refine oa ?_|refine ld ?_|refine ldl ?_|refine lnm ?_|refine ixmn ?_|refine ixm ?_|refine li ?_|refine lb ?_|refine lv ?_|refine ln ?_|refine ixn ?_|refine ix ?_|refine le ?_|refine sr ?_|refine soi ?_|refine sob ?_|refine scm ?_|refine sclm ?_|refine schm ?_|refine gy ?_|refine gn ?_|refine gnn ?_|refine gu ?_|(refine gsi (fun hB => ?_) (fun hB => ?_) <;> try (exfalso; omega))|(refine gsn (fun hB => ?_) (fun hB => ?_) <;> try (exfalso; omega))|(refine gs (fun hB => ?_) (fun hB => ?_) <;> try (exfalso; omega)))|(refine gc ?_; first|refine ct ?_|refine cf ?_|(refine ci (fun hB => ?_) (fun hB => ?_) <;> try (exfalso; omega))|(refine cn (fun hB => ?_) (fun hB => ?_) <;> try (exfalso; omega))|(refine cb (fun hB => ?_) (fun hB => ?_) <;> try (exfalso; omega)))|refine sq ?_|refine rg ?_|refine xc ?_|refine nl ?_|refine sk ?_|refine bk ?_|refine xe ?_|refine rt ?_|refine xb ?_
        exact lp (i + 1) ⟨hi, hn⟩
    · have hn : ∀ j : Nat, j < i + 1 → ¬ (dn.getD j false = false ∧ l.getD j 0 < all) := fun j hj => by
        by_cases e : j = i
        · subst e; exact fun q => by rw [hb] at q; cases q.1
        · exact h2 j (by omega)
      repeat' first|(refine lbo (l := dn) ?_; rw [hb])|(refine wo ?_; first|(refine ao ?_; first|refine aw ?_|refine aw6 ?_|refine oa ?_|refine adiv ?_|refine amod ?_|refine shr1 ?_|refine shr ?_|refine umod ?_|refine isl ?_|refine ipe ?_|refine ipn ?_|refine ibe ?_)|refine acw ?_|refine ucv ?_|refine anw ?_|refine oa ?_|refine ld ?_|refine ldl ?_|refine lnm ?_|refine ixmn ?_|refine ixm ?_|refine li ?_|refine lb ?_|refine lv ?_|refine ln ?_|refine ixn ?_|refine ix ?_|refine le ?_|refine sr ?_|refine soi ?_|refine sob ?_|refine scm ?_|refine sclm ?_|refine schm ?_|refine gy ?_|refine gn ?_|refine gnn ?_|refine gu ?_|(refine gsi (fun hB => ?_) (fun hB => ?_) <;> try (exfalso; omega))|(refine gsn (fun hB => ?_) (fun hB => ?_) <;> try (exfalso; omega))|(refine gs (fun hB => ?_) (fun hB => ?_) <;> try (exfalso; omega)))|(refine gc ?_; first|refine ct ?_|refine cf ?_|(refine ci (fun hB => ?_) (fun hB => ?_) <;> try (exfalso; omega))|(refine cn (fun hB => ?_) (fun hB => ?_) <;> try (exfalso; omega))|(refine cb (fun hB => ?_) (fun hB => ?_) <;> try (exfalso; omega)))|refine sq ?_|refine rg ?_|refine xc ?_|refine nl ?_|refine sk ?_|refine bk ?_|refine xe ?_|refine rt ?_|refine xb ?_
      exact lp (i + 1) ⟨hi, hn⟩
  · obtain rfl : i = l.length := by omega
    repeat' first|(refine wo ?_; first|(refine ao ?_; first|refine aw ?_|refine aw6 ?_|refine oa ?_|refine adiv ?_|refine amod ?_|refine shr1 ?_|refine shr ?_|refine umod ?_|refine isl ?_|refine ipe ?_|refine ipn ?_|refine ibe ?_)|refine acw ?_|refine ucv ?_|refine anw ?_|refine oa ?_|refine ld ?_|refine ldl ?_|refine lnm ?_|refine ixmn ?_|refine ixm ?_|refine li ?_|refine lb ?_|refine lv ?_|refine ln ?_|refine ixn ?_|refine ix ?_|refine le ?_|refine sr ?_|refine soi ?_|refine sob ?_|refine scm ?_|refine sclm ?_|refine schm ?_|refine gy ?_|refine gn ?_|refine gnn ?_|refine gu ?_|(refine gsi (fun hB => ?_) (fun hB => ?_) <;> try (exfalso; omega))|(refine gsn (fun hB => ?_) (fun hB => ?_) <;> try (exfalso; omega))|(refine gs (fun hB => ?_) (fun hB => ?_) <;> try (exfalso; omega)))|(refine gc ?_; first|refine ct ?_|refine cf ?_|(refine ci (fun hB => ?_) (fun hB => ?_) <;> try (exfalso; omega))|(refine cn (fun hB => ?_) (fun hB => ?_) <;> try (exfalso; omega))|(refine cb (fun hB => ?_) (fun hB => ?_) <;> try (exfalso; omega)))|refine sq ?_|refine rg ?_|refine xc ?_|refine nl ?_|refine sk ?_|refine bk ?_|refine xe ?_|refine rt ?_|refine xb ?_
    exact r1 ⟨⟨l.length, rfl, Nat.le_refl _, fun q => absurd q (Nat.lt_irrefl _), h2⟩, rfl⟩
theorem above_tr (rv : Value) (l : List Int) (all : Int) (hl : 1 ≤ l.length ∧ l.length ≤ 65536) : Tr Tryz.prog 47 [rv, I all] [vw rv (Is l)] []
    fun v D => (∃ i : Nat, v = I i ∧ i < l.length ∧ (i < l.length - 1 → all < l.getD i 0) ∧ ∀ j : Nat, j < i → ¬ all < l.getD j 0) ∧ D = [] := by
  refine Tr.enter env _ Tryz.func47 (by kernel_rfl) rfl Tryz.ntmps47 rfl (by repeat (first | exact has00 | refine has01 ?_)) fun w0 => ?_
  repeat' first|(refine wo ?_; first|(refine ao ?_; first|refine aw ?_|refine aw6 ?_|refine oa ?_|refine adiv ?_|refine amod ?_|refine shr1 ?_|refine shr ?_|refine umod ?_|refine isl ?_|refine ipe ?_|refine ipn ?_|refine ibe ?_)|refine acw ?_|refine ucv ?_|refine anw ?_|refine oa ?_|refine ld ?_|refine ldl ?_|refine lnm ?_|refine ixmn ?_|refine ixm ?_|refine li ?_|refine lb ?_|refine lv ?_|refine ln ?_|refine ixn ?_|refine ix ?_|refine le ?_|refine sr ?_|refine soi ?_|refine sob ?_|refine scm ?_|refine sclm ?_|refine schm ?_|refine gy ?_|refine gn ?_|refine gnn ?_|refine gu ?_|(refine gsi (fun hB => ?_) (fun hB => ?_) <;> try (exfalso; omega))|(refine gsn (fun hB => ?_) (fun hB => ?_) <;> try (exfalso; omega))|(refine gs (fun hB => ?_) (fun hB => ?_) <;> try (exfalso; omega)))|(refine gc ?_; first|refine ct ?_|refine cf ?_|(refine ci (fun hB => ?_) (fun hB => ?_) <;> try (exfalso; omega))|(refine cn (fun hB => ?_) (fun hB => ?_) <;> try (exfalso; omega))|(refine cb (fun hB => ?_) (fun hB => ?_) <;> try (exfalso; omega)))|refine sq ?_|refine rg ?_|refine xc ?_|refine nl ?_|refine sk ?_|refine bk ?_|refine xe ?_|refine rt ?_|refine xb ?_
  refine TC.loop (ι := Nat) (fun i => [(5, I i)]) (fun _ => []) (fun i => i < l.length ∧ ∀ j : Nat, j < i → ¬ all < l.getD j 0) (fun i => l.length - i) 0 [0, 1] ⟨hl.1, fun j h => absurd h (Nat.not_lt_zero j)⟩ ?_
  rintro i ⟨h1, h2⟩
  by_cases hi : i < l.length - 1
  · by_cases hc : all < l.getD i 0
    · generalize hy : l.getD i 0 = y at *
      repeat' first|refine lie hy ?_|(refine wo ?_; first|(refine ao ?_; first|refine aw ?_|refine aw6 ?_|refine oa ?_|refine adiv ?_|refine amod ?_|refine shr1 ?_|refine shr ?_|refine umod ?_|refine isl ?_|refine ipe ?_|refine ipn ?_|refine ibe ?_)|refine acw ?_|refine ucv ?_|refine anw ?_|refine oa ?_|refine ld ?_|refine ldl ?_|refine lnm ?_|refine ixmn ?_|refine ixm ?_|refine li ?_|refine lb ?_|refine lv ?_|refine ln ?_|refine ixn ?_|refine ix ?_|refine le ?_|refine sr ?_|refine soi ?_|refine sob ?_|refine scm ?_|refine sclm ?_|refine schm ?_|refine gy ?_|refine gn ?_|refine gnn ?_|refine gu ?_|(refine gsi (fun hB => ?_) (fun hB => ?_) <;> try (exfalso; omega))|(refine gsn (fun hB => ?_) (fun hB => ?_) <;> try (exfalso; omega))|(refine gs (fun hB => ?_) (fun hB => ?_) <;> try (exfalso; omega)))|(refine gc ?_; first|refine ct ?_|refine cf ?_|(refine ci (fun hB => ?_) (fun hB => ?_) <;> try (exfalso; omega))|(refine cn (fun hB => ?_) (fun hB => ?_) <;> try (exfalso; omega))|(refine cb (fun hB => ?_) (fun hB => ?_) <;> try (exfalso; omega)))|refine sq ?_|refine rg ?_|refine xc ?_|refine nl ?_|refine sk ?_|refine bk ?_|refine xe ?_|refine rt ?_|refine xb ?_
      exact r1 ⟨⟨i, rfl, h1, fun _ => by omega, h2⟩, rfl⟩
    · have hn : ∀ j : Nat, j < i + 1 → ¬ all < l.getD j 0 := fun j hj => by
        by_cases e : j = i
        · subst e; exact hc
        · exact h2 j (by omega)
      generalize hy : l.getD i 0 = y at *
      repeat' first|refine lie hy ?_|(refine wo ?_; first|(refine ao ?_; first|refine aw ?_|refine aw6 ?_|refine oa ?_|refine adiv ?_|refine amod ?_|refine shr1 ?_|refine shr ?_|refine umod ?_|refine isl ?_|refine ipe ?_|refine ipn ?_|refine ibe ?_)|refine acw ?_|refine ucv ?_|refine anw ?_|refine oa ?_|refine ld ?_|refine ldl ?_|refine lnm ?_|refine ixmn ?_|refine ixm ?_|refine li ?_|refine lb ?_|refine lv ?_|refine ln ?_|refine ixn ?_|refine ix ?_|refine le ?_|refine sr ?_|refine soi ?_|refine sob ?_|refine scm ?_|refine sclm ?_|refine schm ?_|refine gy ?_|refine gn ?_|refine gnn ?_|refine gu ?_|(refine gsi (fun hB => ?_) (fun hB => ?_) <;> try (exfalso; omega))|(refine gsn (fun hB => ?_) (fun hB => ?_) <;> try (exfalso; omega))|(refine gs (fun hB => ?_) (fun hB => ?_) <;> try (exfalso; omega)))|(refine gc ?_; first|refine ct ?_|refine cf ?_|(refine ci (fun hB => ?_) (fun hB => ?_) <;> try (exfalso; omega))|(refine cn (fun hB => ?_) (fun hB => ?_) <;> try (exfalso; omega))|(refine cb (fun hB => ?_) (fun hB => ?_) <;> try (exfalso; omega)))|refine sq ?_|refine rg ?_|refine xc ?_|refine nl ?_|refine sk ?_|refine bk ?_|refine xe ?_|refine rt ?_|refine xb ?_
      exact lp (i + 1) ⟨by omega, hn⟩
  · repeat' first|(refine wo ?_; first|(refine ao ?_; first|refine aw ?_|refine aw6 ?_|refine oa ?_|refine adiv ?_|refine amod ?_|refine shr1 ?_|refine shr ?_|refine umod ?_|refine isl ?_|refine ipe ?_|refine ipn ?_|refine ibe ?_)|refine acw ?_|refine ucv ?_|refine anw ?_|refine oa ?_|refine ld ?_|refine ldl ?_|refine lnm ?_|refine ixmn ?_|refine ixm ?_|refine li ?_|refine lb ?_|refine lv ?_|refine ln ?_|refine ixn ?_|refine ix ?_|refine le ?_|refine sr ?_|refine soi ?_|refine sob ?_|refine scm ?_|refine sclm ?_|refine schm ?_|refine gy ?_|refine gn ?_|refine gnn ?_|refine gu ?_|(refine gsi (fun hB => ?_) (fun hB => ?_) <;> try (exfalso; omega))|(refine gsn (fun hB => ?_) (fun hB => ?_) <;> try (exfalso; omega))|(refine gs (fun hB => ?_) (fun hB => ?_) <;> try (exfalso; omega)))|(refine gc ?_; first|refine ct ?_|refine cf ?_|(refine ci (fun hB => ?_) (fun hB => ?_) <;> try (exfalso; omega))|(refine cn (fun hB => ?_) (fun hB => ?_) <;> try (exfalso; omega))|(refine cb (fun hB => ?_) (fun hB => ?_) <;> try (exfalso; omega)))|refine sq ?_|refine rg ?_|refine xc ?_|refine nl ?_|refine sk ?_|refine bk ?_|refine xe ?_|refine rt ?_|refine xb ?_
    exact r1 ⟨⟨i, rfl, h1, fun q => absurd q hi, h2⟩, rfl⟩
structure RmG where
  u : AlS
  dn : List Bool
  i : Nat
theorem Bo_rep (n : Nat) : Bo (List.replicate n false) = List.replicate n (.bool false) := List.map_replicate ..
set_option maxHeartbeats 1000000 in
theorem RMake_tr (s : Value) (t : List Int) (hl : 1 ≤ t.length ∧ t.length ≤ 65536) (hw : ∀ w ∈ t, 0 ≤ w ∧ w ≤ 16777215) (hpos : 0 < t.sum) (hp : t.any wPos = true) : Tr Tryz.prog 29 [s] [vw s (Is t)] []
    fun v D => ∃ cv ov, v = tup2 (.agg #[I t.sum, cv, ov]) (I 0) ∧ D = [own 3 cv (Is (alF t).cut), own 3 ov (Is (alF t).oth)] ∧ cv.oneCell' = true ∧ ov.oneCell' = true := by
  have hsb := sum_bound hw
  refine Tr.enter env _ Tryz.func29 (by kernel_rfl) rfl Tryz.ntmps29 rfl (by repeat (first | exact has00 | refine has01 ?_)) fun w0 => ?_
  repeat' first|(refine gca ?_; first|(refine ca (RTable_tr s t hl.2 hw hp) ?_; rintro _ _ ⟨rfl, rfl⟩)|(refine ca (RTotal_tr s t hl.2 hw) ?_; rintro _ _ ⟨rfl, rfl⟩))|refine al fun br => ?_|refine sq_cutX (a := .region 4 _ _) (ι := Value × Value) (fun i => i.1.oneCell' = true ∧ i.2.oneCell' = true) (fun i => [(0, s), (2, ptr br), (4, I t.length), (5, I t.sum), (6, i.1), (7, i.2)]) (fun i => [vw s (Is t), pt br [I 0, nS, nS] TAl, own 3 i.1 (Is (List.replicate t.length 0)), own 4 i.2 (List.replicate t.length (.bool false))]) ?_ (fun kb => ?_)|refine rs (id := 4) (fun _ => True) ?_ (fun _ _ => trivial)|(refine wo ?_; first|(refine ao ?_; first|refine aw ?_|refine aw6 ?_|refine oa ?_|refine adiv ?_|refine amod ?_|refine shr1 ?_|refine shr ?_|refine umod ?_|refine isl ?_|refine ipe ?_|refine ipn ?_|refine ibe ?_)|refine acw ?_|refine ucv ?_|refine anw ?_|refine oa ?_|refine ld ?_|refine ldl ?_|refine lnm ?_|refine ixmn ?_|refine ixm ?_|refine li ?_|refine lb ?_|refine lv ?_|refine ln ?_|refine ixn ?_|refine ix ?_|refine le ?_|refine sr ?_|refine soi ?_|refine sob ?_|refine scm ?_|refine sclm ?_|refine schm ?_|refine gy ?_|refine gn ?_|refine gnn ?_|refine gu ?_|(refine gsi (fun hB => ?_) (fun hB => ?_) <;> try (exfalso; omega))|(refine gsn (fun hB => ?_) (fun hB => ?_) <;> try (exfalso; omega))|(refine gs (fun hB => ?_) (fun hB => ?_) <;> try (exfalso; omega)))|(refine gc ?_; first|refine ct ?_|refine cf ?_|(refine ci (fun hB => ?_) (fun hB => ?_) <;> try (exfalso; omega))|(refine cn (fun hB => ?_) (fun hB => ?_) <;> try (exfalso; omega))|(refine cb (fun hB => ?_) (fun hB => ?_) <;> try (exfalso; omega)))|refine sq ?_|refine rg ?_|refine xc ?_|refine nl ?_|refine sk ?_|refine bk ?_|refine xe ?_|refine rt ?_|refine xb ?_
  rotate_left
  · refine tka 0 ?_
    refine tka 2 ?_
    refine t2 1 3 ?_ ?_
    · refine mki fun rv => ?_
      refine TO.one (v := rv) (xs := Is (List.replicate (t.length : Int).toNat 0)) fun hrv => ?_
      refine nl ?_
      refine te (fun _ _ => trivial) ?_
      refine tka 4 ?_
      refine t1 3 ?_
      refine mk (fun dv => ?_)
      refine TO.one (v := dv) (xs := List.replicate (t.length : Int).toNat (.bool false)) fun hdv => ?_
      refine nl ?_
      refine te (fun _ _ => trivial) ?_
      refine tka 5 ?_
      refine t0 ?_
      refine xc ?_
      exact kb (rv, dv) ⟨hrv, hdv⟩ _ _ (by (repeat (refine Sub.cons rfl (by first | rfl | go_num) ?_)); exact Sub.nil) (by first | apply Fit.all | ((repeat (first | (apply Fit.nilN; (repeat (first | apply nrm_nil | apply nrm_cons)); try apply nrm_rfl) | (apply Fit.cons; focus ((repeat (first | apply Tk.here | apply Tk.there)); first | done | fail)))); first | done | fail))
    · refine mk (fun dv => ?_)
      refine TO.one (v := dv) (xs := List.replicate (t.length : Int).toNat (.bool false)) fun hdv => ?_
      refine nl ?_
      refine te (fun _ _ => trivial) ?_
      refine t1 1 ?_
      refine mki fun rv => ?_
      refine TO.one (v := rv) (xs := Is (List.replicate (t.length : Int).toNat 0)) fun hrv => ?_
      refine nl ?_
      refine te (fun _ _ => trivial) ?_
      refine tka 4 ?_
      refine tka 5 ?_
      refine t0 ?_
      refine xc ?_
      exact kb (rv, dv) ⟨hrv, hdv⟩ _ _ (by (repeat (refine Sub.cons rfl (by first | rfl | go_num) ?_)); exact Sub.nil) (by first | apply Fit.all | ((repeat (first | (apply Fit.nilN; (repeat (first | apply nrm_nil | apply nrm_cons)); try apply nrm_rfl) | (apply Fit.cons; focus ((repeat (first | apply Tk.here | apply Tk.there)); first | done | fail)))); first | done | fail))
  rintro ⟨rv, dv⟩ ⟨hrv, hdv⟩
  dsimp only at hrv hdv ⊢
  repeat' first|refine sq_cutX (a := .region 5 _ _) (ι := Nat × Value × Value) (fun i => i.2.1.oneCell' = true ∧ i.2.2.oneCell' = true) (fun i => [(0, s), (2, ptr br), (4, I t.length), (5, I t.sum), (6, rv), (7, dv), (8, ptr i.1)]) (fun i => [vw s (Is t), pt br [I 0, nS, nS] TAl, own 3 rv (Is (List.replicate t.length 0)), own 4 dv (List.replicate t.length (.bool false)), pt i.1 [I t.sum, i.2.1, i.2.2] TAl, own 3 i.2.1 (Is (List.replicate t.length 0)), own 3 i.2.2 (Is (List.replicate t.length 0))]) ?_ (fun kb => ?_)|refine rs (id := 5) (fun _ => True) ?_ (fun _ _ => trivial)|(refine wo ?_; first|(refine ao ?_; first|refine aw ?_|refine aw6 ?_|refine oa ?_|refine adiv ?_|refine amod ?_|refine shr1 ?_|refine shr ?_|refine umod ?_|refine isl ?_|refine ipe ?_|refine ipn ?_|refine ibe ?_)|refine acw ?_|refine ucv ?_|refine anw ?_|refine oa ?_|refine ld ?_|refine ldl ?_|refine lnm ?_|refine ixmn ?_|refine ixm ?_|refine li ?_|refine lb ?_|refine lv ?_|refine ln ?_|refine ixn ?_|refine ix ?_|refine le ?_|refine sr ?_|refine soi ?_|refine sob ?_|refine scm ?_|refine sclm ?_|refine schm ?_|refine gy ?_|refine gn ?_|refine gnn ?_|refine gu ?_|(refine gsi (fun hB => ?_) (fun hB => ?_) <;> try (exfalso; omega))|(refine gsn (fun hB => ?_) (fun hB => ?_) <;> try (exfalso; omega))|(refine gs (fun hB => ?_) (fun hB => ?_) <;> try (exfalso; omega)))|(refine gc ?_; first|refine ct ?_|refine cf ?_|(refine ci (fun hB => ?_) (fun hB => ?_) <;> try (exfalso; omega))|(refine cn (fun hB => ?_) (fun hB => ?_) <;> try (exfalso; omega))|(refine cb (fun hB => ?_) (fun hB => ?_) <;> try (exfalso; omega)))|refine sq ?_|refine rg ?_|refine xc ?_|refine nl ?_|refine sk ?_|refine bk ?_|refine xe ?_|refine rt ?_|refine xb ?_
  rotate_left
  · refine tka 0 ?_
    refine tka 1 ?_
    refine tka 3 ?_
    refine t3 2 4 6 ?_ ?_ ?_
    · refine mki fun cv => ?_
      refine TO.one (v := cv) (xs := Is (List.replicate (t.length : Int).toNat 0)) fun hcv => ?_
      refine nl ?_
      refine te (fun _ _ => trivial) ?_
      refine t2 4 6 ?_ ?_
      · refine mki fun ov => ?_
        refine TO.one (v := ov) (xs := Is (List.replicate (t.length : Int).toNat 0)) fun hov => ?_
        refine nl ?_
        refine te (fun _ _ => trivial) ?_
        refine t2 5 6 ?_ ?_
        · refine bdz ?_
          refine nl ?_
          refine te (fun _ _ => trivial) ?_
          refine t1 6 ?_
          refine al fun bo => ?_
          refine nl ?_
          refine te (fun _ _ => trivial) ?_
          refine t1 7 ?_
          refine srz ?_
          refine nl ?_
          refine te (fun _ _ => trivial) ?_
          refine t0 ?_
          refine xc ?_
          exact kb (bo, cv, ov) ⟨hcv, hov⟩ _ _ (by (repeat (refine Sub.cons rfl (by first | rfl | go_num) ?_)); exact Sub.nil) (by first | apply Fit.all | ((repeat (first | (apply Fit.nilN; (repeat (first | apply nrm_nil | apply nrm_cons)); try apply nrm_rfl) | (apply Fit.cons; focus ((repeat (first | apply Tk.here | apply Tk.there)); first | done | fail)))); first | done | fail))
        · refine al fun bo => ?_
          refine nl ?_
          refine te (fun _ _ => trivial) ?_
          refine t1 5 ?_
          refine bdz ?_
          refine nl ?_
          refine te (fun _ _ => trivial) ?_
          refine t1 7 ?_
          refine srz ?_
          refine nl ?_
          refine te (fun _ _ => trivial) ?_
          refine t0 ?_
          refine xc ?_
          exact kb (bo, cv, ov) ⟨hcv, hov⟩ _ _ (by (repeat (refine Sub.cons rfl (by first | rfl | go_num) ?_)); exact Sub.nil) (by first | apply Fit.all | ((repeat (first | (apply Fit.nilN; (repeat (first | apply nrm_nil | apply nrm_cons)); try apply nrm_rfl) | (apply Fit.cons; focus ((repeat (first | apply Tk.here | apply Tk.there)); first | done | fail)))); first | done | fail))
      · refine al fun bo => ?_
        refine nl ?_
        refine te (fun _ _ => trivial) ?_
        refine t1 4 ?_
        refine mki fun ov => ?_
        refine TO.one (v := ov) (xs := Is (List.replicate (t.length : Int).toNat 0)) fun hov => ?_
        refine nl ?_
        refine te (fun _ _ => trivial) ?_
        refine t1 5 ?_
        refine bdz ?_
        refine nl ?_
        refine te (fun _ _ => trivial) ?_
        refine t1 7 ?_
        refine srz ?_
        refine nl ?_
        refine te (fun _ _ => trivial) ?_
        refine t0 ?_
        refine xc ?_
        exact kb (bo, cv, ov) ⟨hcv, hov⟩ _ _ (by (repeat (refine Sub.cons rfl (by first | rfl | go_num) ?_)); exact Sub.nil) (by first | apply Fit.all | ((repeat (first | (apply Fit.nilN; (repeat (first | apply nrm_nil | apply nrm_cons)); try apply nrm_rfl) | (apply Fit.cons; focus ((repeat (first | apply Tk.here | apply Tk.there)); first | done | fail)))); first | done | fail))
    · refine mki fun ov => ?_
      refine TO.one (v := ov) (xs := Is (List.replicate (t.length : Int).toNat 0)) fun hov => ?_
      refine nl ?_
      refine te (fun _ _ => trivial) ?_
      refine t2 2 6 ?_ ?_
      · refine mki fun cv => ?_
        refine TO.one (v := cv) (xs := Is (List.replicate (t.length : Int).toNat 0)) fun hcv => ?_
        refine nl ?_
        refine te (fun _ _ => trivial) ?_
        refine t2 5 6 ?_ ?_
        · refine bdz ?_
          refine nl ?_
          refine te (fun _ _ => trivial) ?_
          refine t1 6 ?_
          refine al fun bo => ?_
          refine nl ?_
          refine te (fun _ _ => trivial) ?_
          refine t1 7 ?_
          refine srz ?_
          refine nl ?_
          refine te (fun _ _ => trivial) ?_
          refine t0 ?_
          refine xc ?_
          exact kb (bo, cv, ov) ⟨hcv, hov⟩ _ _ (by (repeat (refine Sub.cons rfl (by first | rfl | go_num) ?_)); exact Sub.nil) (by first | apply Fit.all | ((repeat (first | (apply Fit.nilN; (repeat (first | apply nrm_nil | apply nrm_cons)); try apply nrm_rfl) | (apply Fit.cons; focus ((repeat (first | apply Tk.here | apply Tk.there)); first | done | fail)))); first | done | fail))
        · refine al fun bo => ?_
          refine nl ?_
          refine te (fun _ _ => trivial) ?_
          refine t1 5 ?_
          refine bdz ?_
          refine nl ?_
          refine te (fun _ _ => trivial) ?_
          refine t1 7 ?_
          refine srz ?_
          refine nl ?_
          refine te (fun _ _ => trivial) ?_
          refine t0 ?_
          refine xc ?_
          exact kb (bo, cv, ov) ⟨hcv, hov⟩ _ _ (by (repeat (refine Sub.cons rfl (by first | rfl | go_num) ?_)); exact Sub.nil) (by first | apply Fit.all | ((repeat (first | (apply Fit.nilN; (repeat (first | apply nrm_nil | apply nrm_cons)); try apply nrm_rfl) | (apply Fit.cons; focus ((repeat (first | apply Tk.here | apply Tk.there)); first | done | fail)))); first | done | fail))
      · refine al fun bo => ?_
        refine nl ?_
        refine te (fun _ _ => trivial) ?_
        refine t1 2 ?_
        refine mki fun cv => ?_
        refine TO.one (v := cv) (xs := Is (List.replicate (t.length : Int).toNat 0)) fun hcv => ?_
        refine nl ?_
        refine te (fun _ _ => trivial) ?_
        refine t1 5 ?_
        refine bdz ?_
        refine nl ?_
        refine te (fun _ _ => trivial) ?_
        refine t1 7 ?_
        refine srz ?_
        refine nl ?_
        refine te (fun _ _ => trivial) ?_
        refine t0 ?_
        refine xc ?_
        exact kb (bo, cv, ov) ⟨hcv, hov⟩ _ _ (by (repeat (refine Sub.cons rfl (by first | rfl | go_num) ?_)); exact Sub.nil) (by first | apply Fit.all | ((repeat (first | (apply Fit.nilN; (repeat (first | apply nrm_nil | apply nrm_cons)); try apply nrm_rfl) | (apply Fit.cons; focus ((repeat (first | apply Tk.here | apply Tk.there)); first | done | fail)))); first | done | fail))
    · refine al fun bo => ?_
      refine nl ?_
      refine te (fun _ _ => trivial) ?_
      refine t2 2 4 ?_ ?_
      · refine mki fun cv => ?_
        refine TO.one (v := cv) (xs := Is (List.replicate (t.length : Int).toNat 0)) fun hcv => ?_
        refine nl ?_
        refine te (fun _ _ => trivial) ?_
        refine t1 4 ?_
        refine mki fun ov => ?_
        refine TO.one (v := ov) (xs := Is (List.replicate (t.length : Int).toNat 0)) fun hov => ?_
        refine nl ?_
        refine te (fun _ _ => trivial) ?_
        refine t1 5 ?_
        refine bdz ?_
        refine nl ?_
        refine te (fun _ _ => trivial) ?_
        refine t1 7 ?_
        refine srz ?_
        refine nl ?_
        refine te (fun _ _ => trivial) ?_
        refine t0 ?_
        refine xc ?_
        exact kb (bo, cv, ov) ⟨hcv, hov⟩ _ _ (by (repeat (refine Sub.cons rfl (by first | rfl | go_num) ?_)); exact Sub.nil) (by first | apply Fit.all | ((repeat (first | (apply Fit.nilN; (repeat (first | apply nrm_nil | apply nrm_cons)); try apply nrm_rfl) | (apply Fit.cons; focus ((repeat (first | apply Tk.here | apply Tk.there)); first | done | fail)))); first | done | fail))
      · refine mki fun ov => ?_
        refine TO.one (v := ov) (xs := Is (List.replicate (t.length : Int).toNat 0)) fun hov => ?_
        refine nl ?_
        refine te (fun _ _ => trivial) ?_
        refine t1 2 ?_
        refine mki fun cv => ?_
        refine TO.one (v := cv) (xs := Is (List.replicate (t.length : Int).toNat 0)) fun hcv => ?_
        refine nl ?_
        refine te (fun _ _ => trivial) ?_
        refine t1 5 ?_
        refine bdz ?_
        refine nl ?_
        refine te (fun _ _ => trivial) ?_
        refine t1 7 ?_
        refine srz ?_
        refine nl ?_
        refine te (fun _ _ => trivial) ?_
        refine t0 ?_
        refine xc ?_
        exact kb (bo, cv, ov) ⟨hcv, hov⟩ _ _ (by (repeat (refine Sub.cons rfl (by first | rfl | go_num) ?_)); exact Sub.nil) (by first | apply Fit.all | ((repeat (first | (apply Fit.nilN; (repeat (first | apply nrm_nil | apply nrm_cons)); try apply nrm_rfl) | (apply Fit.cons; focus ((repeat (first | apply Tk.here | apply Tk.there)); first | done | fail)))); first | done | fail))
  rintro ⟨bo, cv, ov⟩ ⟨hcv, hov⟩
  dsimp only at hcv hov ⊢
  repeat' first|(refine wo ?_; first|(refine ao ?_; first|refine aw ?_|refine aw6 ?_|refine oa ?_|refine adiv ?_|refine amod ?_|refine shr1 ?_|refine shr ?_|refine umod ?_|refine isl ?_|refine ipe ?_|refine ipn ?_|refine ibe ?_)|refine acw ?_|refine ucv ?_|refine anw ?_|refine oa ?_|refine ld ?_|refine ldl ?_|refine lnm ?_|refine ixmn ?_|refine ixm ?_|refine li ?_|refine lb ?_|refine lv ?_|refine ln ?_|refine ixn ?_|refine ix ?_|refine le ?_|refine sr ?_|refine soi ?_|refine sob ?_|refine scm ?_|refine sclm ?_|refine schm ?_|refine gy ?_|refine gn ?_|refine gnn ?_|refine gu ?_|(refine gsi (fun hB => ?_) (fun hB => ?_) <;> try (exfalso; omega))|(refine gsn (fun hB => ?_) (fun hB => ?_) <;> try (exfalso; omega))|(refine gs (fun hB => ?_) (fun hB => ?_) <;> try (exfalso; omega)))|(refine gc ?_; first|refine ct ?_|refine cf ?_|(refine ci (fun hB => ?_) (fun hB => ?_) <;> try (exfalso; omega))|(refine cn (fun hB => ?_) (fun hB => ?_) <;> try (exfalso; omega))|(refine cb (fun hB => ?_) (fun hB => ?_) <;> try (exfalso; omega)))|refine sq ?_|refine rg ?_|refine xc ?_|refine nl ?_|refine sk ?_|refine bk ?_|refine xe ?_|refine rt ?_|refine xb ?_
  have hall := AlJ.all hw hl.2 hpos
  refine TC.loop (ι := Nat) (fun i => [(9, I i)]) (fun i => [own 3 rv (Is (alIn t t.sum i).rest), own 3 cv (Is (alIn t t.sum i).cut), own 3 ov (Is (alIn t t.sum i).oth)]) (fun i => i ≤ t.length) (fun i => t.length - i) 0 [0, 2, 4, 5, 6, 7, 8] (Nat.zero_le _) ?_
  intro i hi
  by_cases hlt : i < t.length
  · have hst : alIn t t.sum (i + 1) = ⟨(alIn t t.sum i).rest.set i (t.getD i 0 * t.length), (alIn t t.sum i).cut.set i t.sum, (alIn t t.sum i).oth.set i i, (alIn t t.sum (i + 1)).B, (alIn t t.sum (i + 1)).A⟩ := rfl
    have hJ := hall i hi
    have hx := hw _ (mem_getD.2 ⟨i, hlt, rfl⟩)
    have hr0 : 0 ≤ t.getD i 0 * t.length := Int.mul_nonneg hx.1 (by omega)
    have hr1 : t.getD i 0 * t.length ≤ 16777215 * 65536 := Int.mul_le_mul hx.2 (by omega) (by omega) (by omega)
    have hu1 := hJ.lr
    have hu2 := hJ.lc
    have hu3 := hJ.lo
    clear hJ hall
    generalize (alIn t t.sum (i + 1)).B = UB at *
    generalize (alIn t t.sum (i + 1)).A = UA at *
    generalize alIn t t.sum i = U at *
    generalize hxe : t.getD i 0 = x at *
    rw [Int.mul_comm x] at hst hr0 hr1
    repeat' first|refine lie hxe ?_|refine soi (l := U.rest) (j := i) ?_|refine soi (l := U.cut) (j := i) ?_|refine soi (l := U.oth) (j := i) ?_|(refine wo ?_; first|(refine ao ?_; first|refine aw ?_|refine aw6 ?_|refine oa ?_|refine adiv ?_|refine amod ?_|refine shr1 ?_|refine shr ?_|refine umod ?_|refine isl ?_|refine ipe ?_|refine ipn ?_|refine ibe ?_)|refine acw ?_|refine ucv ?_|refine anw ?_|refine oa ?_|refine ld ?_|refine ldl ?_|refine lnm ?_|refine ixmn ?_|refine ixm ?_|refine li ?_|refine lb ?_|refine lv ?_|refine ln ?_|refine ixn ?_|refine ix ?_|refine le ?_|refine sr ?_|refine soi ?_|refine sob ?_|refine scm ?_|refine sclm ?_|refine schm ?_|refine gy ?_|refine gn ?_|refine gnn ?_|refine gu ?_|(refine gsi (fun hB => ?_) (fun hB => ?_) <;> try (exfalso; omega))|(refine gsn (fun hB => ?_) (fun hB => ?_) <;> try (exfalso; omega))|(refine gs (fun hB => ?_) (fun hB => ?_) <;> try (exfalso; omega)))|(refine gc ?_; first|refine ct ?_|refine cf ?_|(refine ci (fun hB => ?_) (fun hB => ?_) <;> try (exfalso; omega))|(refine cn (fun hB => ?_) (fun hB => ?_) <;> try (exfalso; omega))|(refine cb (fun hB => ?_) (fun hB => ?_) <;> try (exfalso; omega)))|refine sq ?_|refine rg ?_|refine xc ?_|refine nl ?_|refine sk ?_|refine bk ?_|refine xe ?_|refine rt ?_|refine xb ?_
    exact lp (i + 1) hlt (hf := by rw [hst]; first | apply Fit.all | ((repeat (first | (apply Fit.nilN; (repeat (first | apply nrm_nil | apply nrm_cons)); try apply nrm_rfl) | (apply Fit.cons; focus ((repeat (first | apply Tk.here | apply Tk.there)); first | done | fail)))); first | done | fail))
  obtain rfl : i = t.length := by omega
  have hI := (hall t.length (Nat.le_refl _)).done hpos
  have hR := RaI.start t t.sum
  have hF : alEnd t.sum (alIn t t.sum t.length) = alF t := rfl
  rw [← Bo_rep]
  have hrl := hI.lr
  have hBel := fun (l : List Int) (dn : List Bool) (h1 : l.length = t.length) (h2 : dn.length = t.length) => below_tr rv dv l dn t.sum (by omega) (by omega)
  clear hall hlt hi
  generalize hU : alIn t t.sum t.length = U at *
  generalize hdn : List.replicate t.length false = dn0 at *
  have hld := hR.ld
  repeat' first|(refine gca ?_; first|(refine ca (hBel U.rest dn0 hrl hld) ?_; rintro _ _ ⟨⟨i, rfl, b1, b2, b3⟩, rfl⟩))|(refine wo ?_; first|(refine ao ?_; first|refine aw ?_|refine aw6 ?_|refine oa ?_|refine adiv ?_|refine amod ?_|refine shr1 ?_|refine shr ?_|refine umod ?_|refine isl ?_|refine ipe ?_|refine ipn ?_|refine ibe ?_)|refine acw ?_|refine ucv ?_|refine anw ?_|refine oa ?_|refine ld ?_|refine ldl ?_|refine lnm ?_|refine ixmn ?_|refine ixm ?_|refine li ?_|refine lb ?_|refine lv ?_|refine ln ?_|refine ixn ?_|refine ix ?_|refine le ?_|refine sr ?_|refine soi ?_|refine sob ?_|refine scm ?_|refine sclm ?_|refine schm ?_|refine gy ?_|refine gn ?_|refine gnn ?_|refine gu ?_|(refine gsi (fun hB => ?_) (fun hB => ?_) <;> try (exfalso; omega))|(refine gsn (fun hB => ?_) (fun hB => ?_) <;> try (exfalso; omega))|(refine gs (fun hB => ?_) (fun hB => ?_) <;> try (exfalso; omega)))|(refine gc ?_; first|refine ct ?_|refine cf ?_|(refine ci (fun hB => ?_) (fun hB => ?_) <;> try (exfalso; omega))|(refine cn (fun hB => ?_) (fun hB => ?_) <;> try (exfalso; omega))|(refine cb (fun hB => ?_) (fun hB => ?_) <;> try (exfalso; omega)))|refine sq ?_|refine rg ?_|refine xc ?_|refine nl ?_|refine sk ?_|refine bk ?_|refine xe ?_|refine rt ?_|refine xb ?_
  refine TC.loop (ι := RmG) (fun g => [(10, I g.i)]) (fun g => [own 3 rv (Is g.u.rest), own 4 dv (Bo g.dn), own 3 cv (Is g.u.cut), own 3 ov (Is g.u.oth)])
    (fun g => AlI t t.sum g.u ∧ RaI t t.sum g.u g.dn ∧ alEnd t.sum g.u = alF t ∧ g.i ≤ t.length ∧ (if g.i < t.length then g.u.B.head? = some (g.i : Int) else g.u.B = [])) (fun g => alMu g.u) ⟨U, dn0, i⟩ [2, 4, 5, 6, 7, 8] ⟨hI, hR, hF, by dsimp only; rw [← hrl]; exact b1, hR.least hI (by rw [← hrl]; exact b1) (by rw [← hrl]; exact b2) b3⟩ ?_
  clear hI hR hF b1 b2 b3 hrl hld hU hdn
  rintro ⟨u, dn, i⟩ ⟨hI, hR, hF, hi, hB⟩
  dsimp only at hI hR hF hi hB ⊢
  by_cases hlt : i < t.length
  · rw [if_pos hlt] at hB
    obtain ⟨B, hB⟩ : ∃ B, u.B = (i : Int) :: B := by
      cases hb : u.B with
      | nil => rw [hb] at hB; cases hB
      | cons a B => rw [hb] at hB; cases hB; exact ⟨B, rfl⟩
    obtain ⟨j0, A, hA⟩ : ∃ j A, u.A = j :: A := by
      cases ha : u.A with
      | nil => exact absurd ha (hI.more (by rw [hB]; simp))
      | cons a A => exact ⟨a, A, rfl⟩
    have hAb := above_tr rv u.rest t.sum (by rw [hI.lr]; exact hl)
    have hI' := hI.step ⟨hpos, by omega⟩ hB hA
    have hR' := hR.step hI hB hA
    have hE' := alEnd_step (all := t.sum) hB hA
    have hM' := alStep_mu (all := t.sum) hB hA
    have hru := hI.lr
    have hcu := hI.lc
    have hou := hI.lo
    have hdu := hR.ld
    have hri := hI.B i (by rw [hB]; simp)
    have hrj := hI.A j0 (by rw [hA]; simp)
    have hmost := fun (j : Nat) (h1 : j < t.length) => hR.most hI hA (j := j) h1
    have hnext := fun (i' : Nat) (h1 : i' ≤ t.length) => hR'.least hI' (i := i') h1
    rw [Int.toNat_natCast] at hR' hnext hri
    repeat' first|(refine gca ?_; first|(refine ca hAb ?_; rintro _ _ ⟨⟨j, rfl, a1, a2, a3⟩, rfl⟩; rw [hru] at a1 a2; obtain rfl := hmost j a1 a2 a3))|(refine wo ?_; first|(refine ao ?_; first|refine aw ?_|refine aw6 ?_|refine oa ?_|refine adiv ?_|refine amod ?_|refine shr1 ?_|refine shr ?_|refine umod ?_|refine isl ?_|refine ipe ?_|refine ipn ?_|refine ibe ?_)|refine acw ?_|refine ucv ?_|refine anw ?_|refine oa ?_|refine ld ?_|refine ldl ?_|refine lnm ?_|refine ixmn ?_|refine ixm ?_|refine li ?_|refine lb ?_|refine lv ?_|refine ln ?_|refine ixn ?_|refine ix ?_|refine le ?_|refine sr ?_|refine soi ?_|refine sob ?_|refine scm ?_|refine sclm ?_|refine schm ?_|refine gy ?_|refine gn ?_|refine gnn ?_|refine gu ?_|(refine gsi (fun hB => ?_) (fun hB => ?_) <;> try (exfalso; omega))|(refine gsn (fun hB => ?_) (fun hB => ?_) <;> try (exfalso; omega))|(refine gs (fun hB => ?_) (fun hB => ?_) <;> try (exfalso; omega)))|(refine gc ?_; first|refine ct ?_|refine cf ?_|(refine ci (fun hB => ?_) (fun hB => ?_) <;> try (exfalso; omega))|(refine cn (fun hB => ?_) (fun hB => ?_) <;> try (exfalso; omega))|(refine cb (fun hB => ?_) (fun hB => ?_) <;> try (exfalso; omega)))|refine sq ?_|refine rg ?_|refine xc ?_|refine nl ?_|refine sk ?_|refine bk ?_|refine xe ?_|refine rt ?_|refine xb ?_
    rw [Int.toNat_natCast] at hrj
    have hst : alStep t.sum u i j B A = ⟨u.rest.set j (u.rest.getD j 0 - (t.sum - u.rest.getD i 0)), u.cut.set i (u.rest.getD i 0), u.oth.set i j, (alStep t.sum u i j B A).B, (alStep t.sum u i j B A).A⟩ := by
      unfold alStep; simp only [Int.toNat_natCast]
    have hE2 := hE'.symm.trans hF
    clear hE' hF hmost hB hA hR hI hAb a2 a3
    generalize alStep t.sum u i j B A = u' at *
    generalize u'.B = UB at hst
    generalize u'.A = UA at hst
    generalize hri' : u.rest.getD i 0 = ri at *
    generalize hrj' : u.rest.getD j 0 = rj at *
    generalize hr : rj - (t.sum - ri) = r at *
    have hij : i ≠ j := fun e => by subst e; omega
    have e1 : u'.rest = u.rest.set j r := by rw [hst]
    have e2 : u'.cut = u.cut.set i ri := by rw [hst]
    have e3 : u'.oth = u.oth.set i j := by rw [hst]
    clear hst
    repeat' first|refine rs (id := 16) (fun w => w.heap[bo]? = some (.cells #[I t.sum, cv, ov] TAl (0, 0)) ∧ (∃ xs, Sl w rv xs ∧ xs.length = t.length) ∧ (∃ xs, Sl w cv xs ∧ xs.length = t.length)) ?_ (fun w hw => ⟨pt_at (by (repeat (first | apply List.Mem.head | apply List.Mem.tail)); first | done | fail) hw, ⟨_, has_sl hw (by first | (apply has_vw; (repeat (first | apply List.Mem.head | apply List.Mem.tail)); first | done | fail) | (apply has_own; (repeat (first | apply List.Mem.head | apply List.Mem.tail)); first | done | fail) | (apply has_ro; (repeat (first | apply List.Mem.head | apply List.Mem.tail)); first | done | fail) | apply has_nil | ((with_reducible apply has_el); (focus (first | (apply has_vels; (repeat (first | apply List.Mem.head | apply List.Mem.tail)); first | done | fail) | (apply has_rels; (repeat (first | apply List.Mem.head | apply List.Mem.tail)); first | done | fail))); omega) | (apply has_pt; (repeat (first | apply List.Mem.head | apply List.Mem.tail)); first | done | fail) | (apply has_lpt; (repeat (first | apply List.Mem.head | apply List.Mem.tail)); first | done | fail) | (apply has_vels; (repeat (first | apply List.Mem.head | apply List.Mem.tail)); first | done | fail) | (apply has_rels; (repeat (first | apply List.Mem.head | apply List.Mem.tail)); first | done | fail) | with_reducible assumption | ((with_reducible apply has_elg); (focus (first | (apply has_velg; (repeat (first | apply List.Mem.head | apply List.Mem.tail)); first | done | fail) | (apply has_relg; (repeat (first | apply List.Mem.head | apply List.Mem.tail)); first | done | fail))); omega) | (apply has_velg; (repeat (first | apply List.Mem.head | apply List.Mem.tail)); first | done | fail) | (apply has_relg; (repeat (first | apply List.Mem.head | apply List.Mem.tail)); first | done | fail) | (apply has_vwf; (repeat (first | apply List.Mem.head | apply List.Mem.tail)); first | done | fail)), by rw [Is_len]; exact hru⟩, ⟨_, has_sl hw (by first | (apply has_vw; (repeat (first | apply List.Mem.head | apply List.Mem.tail)); first | done | fail) | (apply has_own; (repeat (first | apply List.Mem.head | apply List.Mem.tail)); first | done | fail) | (apply has_ro; (repeat (first | apply List.Mem.head | apply List.Mem.tail)); first | done | fail) | apply has_nil | ((with_reducible apply has_el); (focus (first | (apply has_vels; (repeat (first | apply List.Mem.head | apply List.Mem.tail)); first | done | fail) | (apply has_rels; (repeat (first | apply List.Mem.head | apply List.Mem.tail)); first | done | fail))); omega) | (apply has_pt; (repeat (first | apply List.Mem.head | apply List.Mem.tail)); first | done | fail) | (apply has_lpt; (repeat (first | apply List.Mem.head | apply List.Mem.tail)); first | done | fail) | (apply has_vels; (repeat (first | apply List.Mem.head | apply List.Mem.tail)); first | done | fail) | (apply has_rels; (repeat (first | apply List.Mem.head | apply List.Mem.tail)); first | done | fail) | with_reducible assumption | ((with_reducible apply has_elg); (focus (first | (apply has_velg; (repeat (first | apply List.Mem.head | apply List.Mem.tail)); first | done | fail) | (apply has_relg; (repeat (first | apply List.Mem.head | apply List.Mem.tail)); first | done | fail))); omega) | (apply has_velg; (repeat (first | apply List.Mem.head | apply List.Mem.tail)); first | done | fail) | (apply has_relg; (repeat (first | apply List.Mem.head | apply List.Mem.tail)); first | done | fail) | (apply has_vwf; (repeat (first | apply List.Mem.head | apply List.Mem.tail)); first | done | fail)), by rw [Is_len]; exact hcu⟩⟩)|(refine wo ?_; first|(refine ao ?_; first|refine aw ?_|refine aw6 ?_|refine oa ?_|refine adiv ?_|refine amod ?_|refine shr1 ?_|refine shr ?_|refine umod ?_|refine isl ?_|refine ipe ?_|refine ipn ?_|refine ibe ?_)|refine acw ?_|refine ucv ?_|refine anw ?_|refine oa ?_|refine ld ?_|refine ldl ?_|refine lnm ?_|refine ixmn ?_|refine ixm ?_|refine li ?_|refine lb ?_|refine lv ?_|refine ln ?_|refine ixn ?_|refine ix ?_|refine le ?_|refine sr ?_|refine soi ?_|refine sob ?_|refine scm ?_|refine sclm ?_|refine schm ?_|refine gy ?_|refine gn ?_|refine gnn ?_|refine gu ?_|(refine gsi (fun hB => ?_) (fun hB => ?_) <;> try (exfalso; omega))|(refine gsn (fun hB => ?_) (fun hB => ?_) <;> try (exfalso; omega))|(refine gs (fun hB => ?_) (fun hB => ?_) <;> try (exfalso; omega)))|(refine gc ?_; first|refine ct ?_|refine cf ?_|(refine ci (fun hB => ?_) (fun hB => ?_) <;> try (exfalso; omega))|(refine cn (fun hB => ?_) (fun hB => ?_) <;> try (exfalso; omega))|(refine cb (fun hB => ?_) (fun hB => ?_) <;> try (exfalso; omega)))|refine sq ?_|refine rg ?_|refine xc ?_|refine nl ?_|refine sk ?_|refine bk ?_|refine xe ?_|refine rt ?_|refine xb ?_
    refine tka 0 ?_
    refine tkl 1 (cs := [I t.sum, cv, ov]) (fun w h => h.1) ?_
    refine tka 2 ?_
    refine tka 3 ?_
    refine tka 4 ?_
    refine tkx 5 (len := t.length) (fun w h => h.2.1) ?_
    refine t1 6 ?_
    refine lie hri' ?_
    refine nl ?_
    refine te (fun w hw => ⟨pt_at (by (repeat (first | apply List.Mem.head | apply List.Mem.tail)); first | done | fail) hw, ⟨_, has_sl hw (by first | (apply has_vw; (repeat (first | apply List.Mem.head | apply List.Mem.tail)); first | done | fail) | (apply has_own; (repeat (first | apply List.Mem.head | apply List.Mem.tail)); first | done | fail) | (apply has_ro; (repeat (first | apply List.Mem.head | apply List.Mem.tail)); first | done | fail) | apply has_nil | ((with_reducible apply has_el); (focus (first | (apply has_vels; (repeat (first | apply List.Mem.head | apply List.Mem.tail)); first | done | fail) | (apply has_rels; (repeat (first | apply List.Mem.head | apply List.Mem.tail)); first | done | fail))); omega) | (apply has_pt; (repeat (first | apply List.Mem.head | apply List.Mem.tail)); first | done | fail) | (apply has_lpt; (repeat (first | apply List.Mem.head | apply List.Mem.tail)); first | done | fail) | (apply has_vels; (repeat (first | apply List.Mem.head | apply List.Mem.tail)); first | done | fail) | (apply has_rels; (repeat (first | apply List.Mem.head | apply List.Mem.tail)); first | done | fail) | with_reducible assumption | ((with_reducible apply has_elg); (focus (first | (apply has_velg; (repeat (first | apply List.Mem.head | apply List.Mem.tail)); first | done | fail) | (apply has_relg; (repeat (first | apply List.Mem.head | apply List.Mem.tail)); first | done | fail))); omega) | (apply has_velg; (repeat (first | apply List.Mem.head | apply List.Mem.tail)); first | done | fail) | (apply has_relg; (repeat (first | apply List.Mem.head | apply List.Mem.tail)); first | done | fail) | (apply has_vwf; (repeat (first | apply List.Mem.head | apply List.Mem.tail)); first | done | fail)), by rw [Is_len]; exact hru⟩, ⟨_, has_sl hw (by first | (apply has_vw; (repeat (first | apply List.Mem.head | apply List.Mem.tail)); first | done | fail) | (apply has_own; (repeat (first | apply List.Mem.head | apply List.Mem.tail)); first | done | fail) | (apply has_ro; (repeat (first | apply List.Mem.head | apply List.Mem.tail)); first | done | fail) | apply has_nil | ((with_reducible apply has_el); (focus (first | (apply has_vels; (repeat (first | apply List.Mem.head | apply List.Mem.tail)); first | done | fail) | (apply has_rels; (repeat (first | apply List.Mem.head | apply List.Mem.tail)); first | done | fail))); omega) | (apply has_pt; (repeat (first | apply List.Mem.head | apply List.Mem.tail)); first | done | fail) | (apply has_lpt; (repeat (first | apply List.Mem.head | apply List.Mem.tail)); first | done | fail) | (apply has_vels; (repeat (first | apply List.Mem.head | apply List.Mem.tail)); first | done | fail) | (apply has_rels; (repeat (first | apply List.Mem.head | apply List.Mem.tail)); first | done | fail) | with_reducible assumption | ((with_reducible apply has_elg); (focus (first | (apply has_velg; (repeat (first | apply List.Mem.head | apply List.Mem.tail)); first | done | fail) | (apply has_relg; (repeat (first | apply List.Mem.head | apply List.Mem.tail)); first | done | fail))); omega) | (apply has_velg; (repeat (first | apply List.Mem.head | apply List.Mem.tail)); first | done | fail) | (apply has_relg; (repeat (first | apply List.Mem.head | apply List.Mem.tail)); first | done | fail) | (apply has_vwf; (repeat (first | apply List.Mem.head | apply List.Mem.tail)); first | done | fail)), by rw [Is_len]; exact hcu⟩⟩) ?_
    refine tkx 7 (len := t.length) (fun w h => h.2.2) ?_
    refine t1 8 ?_
    refine soi (l := u.cut) (j := i) ?_
    refine nl ?_
    refine te (fun w hw => ⟨pt_at (by (repeat (first | apply List.Mem.head | apply List.Mem.tail)); first | done | fail) hw, ⟨_, has_sl hw (by first | (apply has_vw; (repeat (first | apply List.Mem.head | apply List.Mem.tail)); first | done | fail) | (apply has_own; (repeat (first | apply List.Mem.head | apply List.Mem.tail)); first | done | fail) | (apply has_ro; (repeat (first | apply List.Mem.head | apply List.Mem.tail)); first | done | fail) | apply has_nil | ((with_reducible apply has_el); (focus (first | (apply has_vels; (repeat (first | apply List.Mem.head | apply List.Mem.tail)); first | done | fail) | (apply has_rels; (repeat (first | apply List.Mem.head | apply List.Mem.tail)); first | done | fail))); omega) | (apply has_pt; (repeat (first | apply List.Mem.head | apply List.Mem.tail)); first | done | fail) | (apply has_lpt; (repeat (first | apply List.Mem.head | apply List.Mem.tail)); first | done | fail) | (apply has_vels; (repeat (first | apply List.Mem.head | apply List.Mem.tail)); first | done | fail) | (apply has_rels; (repeat (first | apply List.Mem.head | apply List.Mem.tail)); first | done | fail) | with_reducible assumption | ((with_reducible apply has_elg); (focus (first | (apply has_velg; (repeat (first | apply List.Mem.head | apply List.Mem.tail)); first | done | fail) | (apply has_relg; (repeat (first | apply List.Mem.head | apply List.Mem.tail)); first | done | fail))); omega) | (apply has_velg; (repeat (first | apply List.Mem.head | apply List.Mem.tail)); first | done | fail) | (apply has_relg; (repeat (first | apply List.Mem.head | apply List.Mem.tail)); first | done | fail) | (apply has_vwf; (repeat (first | apply List.Mem.head | apply List.Mem.tail)); first | done | fail)), by rw [Is_len]; exact hru⟩, ⟨_, has_sl hw (by first | (apply has_vw; (repeat (first | apply List.Mem.head | apply List.Mem.tail)); first | done | fail) | (apply has_own; (repeat (first | apply List.Mem.head | apply List.Mem.tail)); first | done | fail) | (apply has_ro; (repeat (first | apply List.Mem.head | apply List.Mem.tail)); first | done | fail) | apply has_nil | ((with_reducible apply has_el); (focus (first | (apply has_vels; (repeat (first | apply List.Mem.head | apply List.Mem.tail)); first | done | fail) | (apply has_rels; (repeat (first | apply List.Mem.head | apply List.Mem.tail)); first | done | fail))); omega) | (apply has_pt; (repeat (first | apply List.Mem.head | apply List.Mem.tail)); first | done | fail) | (apply has_lpt; (repeat (first | apply List.Mem.head | apply List.Mem.tail)); first | done | fail) | (apply has_vels; (repeat (first | apply List.Mem.head | apply List.Mem.tail)); first | done | fail) | (apply has_rels; (repeat (first | apply List.Mem.head | apply List.Mem.tail)); first | done | fail) | with_reducible assumption | ((with_reducible apply has_elg); (focus (first | (apply has_velg; (repeat (first | apply List.Mem.head | apply List.Mem.tail)); first | done | fail) | (apply has_relg; (repeat (first | apply List.Mem.head | apply List.Mem.tail)); first | done | fail))); omega) | (apply has_velg; (repeat (first | apply List.Mem.head | apply List.Mem.tail)); first | done | fail) | (apply has_relg; (repeat (first | apply List.Mem.head | apply List.Mem.tail)); first | done | fail) | (apply has_vwf; (repeat (first | apply List.Mem.head | apply List.Mem.tail)); first | done | fail)), by rw [Is_len, List.length_set]; exact hcu⟩⟩) ?_
    refine t0 ?_
    repeat' first|refine soi (l := u.oth) (j := i) ?_|refine rs (id := 18) (fun w => ∃ xs, Sl w rv xs ∧ xs.length = t.length) ?_ (fun w hw => ⟨_, has_sl hw (by first | (apply has_vw; (repeat (first | apply List.Mem.head | apply List.Mem.tail)); first | done | fail) | (apply has_own; (repeat (first | apply List.Mem.head | apply List.Mem.tail)); first | done | fail) | (apply has_ro; (repeat (first | apply List.Mem.head | apply List.Mem.tail)); first | done | fail) | apply has_nil | ((with_reducible apply has_el); (focus (first | (apply has_vels; (repeat (first | apply List.Mem.head | apply List.Mem.tail)); first | done | fail) | (apply has_rels; (repeat (first | apply List.Mem.head | apply List.Mem.tail)); first | done | fail))); omega) | (apply has_pt; (repeat (first | apply List.Mem.head | apply List.Mem.tail)); first | done | fail) | (apply has_lpt; (repeat (first | apply List.Mem.head | apply List.Mem.tail)); first | done | fail) | (apply has_vels; (repeat (first | apply List.Mem.head | apply List.Mem.tail)); first | done | fail) | (apply has_rels; (repeat (first | apply List.Mem.head | apply List.Mem.tail)); first | done | fail) | with_reducible assumption | ((with_reducible apply has_elg); (focus (first | (apply has_velg; (repeat (first | apply List.Mem.head | apply List.Mem.tail)); first | done | fail) | (apply has_relg; (repeat (first | apply List.Mem.head | apply List.Mem.tail)); first | done | fail))); omega) | (apply has_velg; (repeat (first | apply List.Mem.head | apply List.Mem.tail)); first | done | fail) | (apply has_relg; (repeat (first | apply List.Mem.head | apply List.Mem.tail)); first | done | fail) | (apply has_vwf; (repeat (first | apply List.Mem.head | apply List.Mem.tail)); first | done | fail)), by rw [Is_len]; exact hru⟩)|(refine wo ?_; first|(refine ao ?_; first|refine aw ?_|refine aw6 ?_|refine oa ?_|refine adiv ?_|refine amod ?_|refine shr1 ?_|refine shr ?_|refine umod ?_|refine isl ?_|refine ipe ?_|refine ipn ?_|refine ibe ?_)|refine acw ?_|refine ucv ?_|refine anw ?_|refine oa ?_|refine ld ?_|refine ldl ?_|refine lnm ?_|refine ixmn ?_|refine ixm ?_|refine li ?_|refine lb ?_|refine lv ?_|refine ln ?_|refine ixn ?_|refine ix ?_|refine le ?_|refine sr ?_|refine soi ?_|refine sob ?_|refine scm ?_|refine sclm ?_|refine schm ?_|refine gy ?_|refine gn ?_|refine gnn ?_|refine gu ?_|(refine gsi (fun hB => ?_) (fun hB => ?_) <;> try (exfalso; omega))|(refine gsn (fun hB => ?_) (fun hB => ?_) <;> try (exfalso; omega))|(refine gs (fun hB => ?_) (fun hB => ?_) <;> try (exfalso; omega)))|(refine gc ?_; first|refine ct ?_|refine cf ?_|(refine ci (fun hB => ?_) (fun hB => ?_) <;> try (exfalso; omega))|(refine cn (fun hB => ?_) (fun hB => ?_) <;> try (exfalso; omega))|(refine cb (fun hB => ?_) (fun hB => ?_) <;> try (exfalso; omega)))|refine sq ?_|refine rg ?_|refine xc ?_|refine nl ?_|refine sk ?_|refine bk ?_|refine xe ?_|refine rt ?_|refine xb ?_
    refine tka 0 ?_
    refine tka 1 ?_
    refine tka 2 ?_
    refine tka 3 ?_
    refine tkx 4 (len := t.length) (fun w h => h) ?_
    refine tka 6 ?_
    refine tka 7 ?_
    refine tka 8 ?_
    refine tkx 9 (len := t.length) (fun w h => h) ?_
    have hq : (u.rest.set j r).length = t.length := by rw [List.length_set]; exact hru
    have hdq : (dn.set i true).length = t.length := by rw [List.length_set]; exact hdu
    refine t2 5 10 ?_ ?_
    · refine lie hrj' ?_
      refine nl ?_
      refine te (fun w hw => ⟨_, has_sl hw (by first | (apply has_vw; (repeat (first | apply List.Mem.head | apply List.Mem.tail)); first | done | fail) | (apply has_own; (repeat (first | apply List.Mem.head | apply List.Mem.tail)); first | done | fail) | (apply has_ro; (repeat (first | apply List.Mem.head | apply List.Mem.tail)); first | done | fail) | apply has_nil | ((with_reducible apply has_el); (focus (first | (apply has_vels; (repeat (first | apply List.Mem.head | apply List.Mem.tail)); first | done | fail) | (apply has_rels; (repeat (first | apply List.Mem.head | apply List.Mem.tail)); first | done | fail))); omega) | (apply has_pt; (repeat (first | apply List.Mem.head | apply List.Mem.tail)); first | done | fail) | (apply has_lpt; (repeat (first | apply List.Mem.head | apply List.Mem.tail)); first | done | fail) | (apply has_vels; (repeat (first | apply List.Mem.head | apply List.Mem.tail)); first | done | fail) | (apply has_rels; (repeat (first | apply List.Mem.head | apply List.Mem.tail)); first | done | fail) | with_reducible assumption | ((with_reducible apply has_elg); (focus (first | (apply has_velg; (repeat (first | apply List.Mem.head | apply List.Mem.tail)); first | done | fail) | (apply has_relg; (repeat (first | apply List.Mem.head | apply List.Mem.tail)); first | done | fail))); omega) | (apply has_velg; (repeat (first | apply List.Mem.head | apply List.Mem.tail)); first | done | fail) | (apply has_relg; (repeat (first | apply List.Mem.head | apply List.Mem.tail)); first | done | fail) | (apply has_vwf; (repeat (first | apply List.Mem.head | apply List.Mem.tail)); first | done | fail)), by rw [Is_len]; exact hru⟩) ?_
      refine t1 10 ?_
      refine lie hri' ?_
      refine nl ?_
      refine te (fun w hw => ⟨_, has_sl hw (by first | (apply has_vw; (repeat (first | apply List.Mem.head | apply List.Mem.tail)); first | done | fail) | (apply has_own; (repeat (first | apply List.Mem.head | apply List.Mem.tail)); first | done | fail) | (apply has_ro; (repeat (first | apply List.Mem.head | apply List.Mem.tail)); first | done | fail) | apply has_nil | ((with_reducible apply has_el); (focus (first | (apply has_vels; (repeat (first | apply List.Mem.head | apply List.Mem.tail)); first | done | fail) | (apply has_rels; (repeat (first | apply List.Mem.head | apply List.Mem.tail)); first | done | fail))); omega) | (apply has_pt; (repeat (first | apply List.Mem.head | apply List.Mem.tail)); first | done | fail) | (apply has_lpt; (repeat (first | apply List.Mem.head | apply List.Mem.tail)); first | done | fail) | (apply has_vels; (repeat (first | apply List.Mem.head | apply List.Mem.tail)); first | done | fail) | (apply has_rels; (repeat (first | apply List.Mem.head | apply List.Mem.tail)); first | done | fail) | with_reducible assumption | ((with_reducible apply has_elg); (focus (first | (apply has_velg; (repeat (first | apply List.Mem.head | apply List.Mem.tail)); first | done | fail) | (apply has_relg; (repeat (first | apply List.Mem.head | apply List.Mem.tail)); first | done | fail))); omega) | (apply has_velg; (repeat (first | apply List.Mem.head | apply List.Mem.tail)); first | done | fail) | (apply has_relg; (repeat (first | apply List.Mem.head | apply List.Mem.tail)); first | done | fail) | (apply has_vwf; (repeat (first | apply List.Mem.head | apply List.Mem.tail)); first | done | fail)), by rw [Is_len]; exact hru⟩) ?_
      refine tkw 11 (t.sum - ri) ?_
      refine tkw 12 r ?_
      refine tkx 13 (len := t.length) (fun w h => h) ?_
      refine t1 14 ?_
      refine soi (l := u.rest) (j := j) ?_
      refine nl ?_
      refine te (fun w hw => ⟨_, has_sl hw (by first | (apply has_vw; (repeat (first | apply List.Mem.head | apply List.Mem.tail)); first | done | fail) | (apply has_own; (repeat (first | apply List.Mem.head | apply List.Mem.tail)); first | done | fail) | (apply has_ro; (repeat (first | apply List.Mem.head | apply List.Mem.tail)); first | done | fail) | apply has_nil | ((with_reducible apply has_el); (focus (first | (apply has_vels; (repeat (first | apply List.Mem.head | apply List.Mem.tail)); first | done | fail) | (apply has_rels; (repeat (first | apply List.Mem.head | apply List.Mem.tail)); first | done | fail))); omega) | (apply has_pt; (repeat (first | apply List.Mem.head | apply List.Mem.tail)); first | done | fail) | (apply has_lpt; (repeat (first | apply List.Mem.head | apply List.Mem.tail)); first | done | fail) | (apply has_vels; (repeat (first | apply List.Mem.head | apply List.Mem.tail)); first | done | fail) | (apply has_rels; (repeat (first | apply List.Mem.head | apply List.Mem.tail)); first | done | fail) | with_reducible assumption | ((with_reducible apply has_elg); (focus (first | (apply has_velg; (repeat (first | apply List.Mem.head | apply List.Mem.tail)); first | done | fail) | (apply has_relg; (repeat (first | apply List.Mem.head | apply List.Mem.tail)); first | done | fail))); omega) | (apply has_velg; (repeat (first | apply List.Mem.head | apply List.Mem.tail)); first | done | fail) | (apply has_relg; (repeat (first | apply List.Mem.head | apply List.Mem.tail)); first | done | fail) | (apply has_vwf; (repeat (first | apply List.Mem.head | apply List.Mem.tail)); first | done | fail)), by rw [Is_len]; exact hq⟩) ?_
      refine t0 ?_
      repeat' first|(refine gca ?_; first|(refine ca (hBel (u.rest.set j r) (dn.set i true) hq hdq) ?_; rintro _ _ ⟨⟨i', rfl, b1, b2, b3⟩, rfl⟩))|refine sbo (l := dn) (j := i) ?_|(refine wo ?_; first|(refine ao ?_; first|refine aw ?_|refine aw6 ?_|refine oa ?_|refine adiv ?_|refine amod ?_|refine shr1 ?_|refine shr ?_|refine umod ?_|refine isl ?_|refine ipe ?_|refine ipn ?_|refine ibe ?_)|refine acw ?_|refine ucv ?_|refine anw ?_|refine oa ?_|refine ld ?_|refine ldl ?_|refine lnm ?_|refine ixmn ?_|refine ixm ?_|refine li ?_|refine lb ?_|refine lv ?_|refine ln ?_|refine ixn ?_|refine ix ?_|refine le ?_|refine sr ?_|refine soi ?_|refine sob ?_|refine scm ?_|refine sclm ?_|refine schm ?_|refine gy ?_|refine gn ?_|refine gnn ?_|refine gu ?_|(refine gsi (fun hB => ?_) (fun hB => ?_) <;> try (exfalso; omega))|(refine gsn (fun hB => ?_) (fun hB => ?_) <;> try (exfalso; omega))|(refine gs (fun hB => ?_) (fun hB => ?_) <;> try (exfalso; omega)))|(refine gc ?_; first|refine ct ?_|refine cf ?_|(refine ci (fun hB => ?_) (fun hB => ?_) <;> try (exfalso; omega))|(refine cn (fun hB => ?_) (fun hB => ?_) <;> try (exfalso; omega))|(refine cb (fun hB => ?_) (fun hB => ?_) <;> try (exfalso; omega)))|refine sq ?_|refine rg ?_|refine xc ?_|refine nl ?_|refine sk ?_|refine bk ?_|refine xe ?_|refine rt ?_|refine xb ?_
      rw [← e1] at b1 b2 b3
      exact lp ⟨u', dn.set i true, i'⟩ ⟨hI', hR', hE2, by dsimp only; rw [← hI'.lr]; exact b1, hnext i' (by rw [← hI'.lr]; exact b1) (by rw [← hI'.lr]; exact b2) b3⟩ (hf := by dsimp only; rw [e1, e2, e3]; first | apply Fit.all | ((repeat (first | (apply Fit.nilN; (repeat (first | apply nrm_nil | apply nrm_cons)); try apply nrm_rfl) | (apply Fit.cons; focus ((repeat (first | apply Tk.here | apply Tk.there)); first | done | fail)))); first | done | fail)) (hlt := hM')
    · refine lie hri' ?_
      refine nl ?_
      refine te (fun w hw => ⟨_, has_sl hw (by first | (apply has_vw; (repeat (first | apply List.Mem.head | apply List.Mem.tail)); first | done | fail) | (apply has_own; (repeat (first | apply List.Mem.head | apply List.Mem.tail)); first | done | fail) | (apply has_ro; (repeat (first | apply List.Mem.head | apply List.Mem.tail)); first | done | fail) | apply has_nil | ((with_reducible apply has_el); (focus (first | (apply has_vels; (repeat (first | apply List.Mem.head | apply List.Mem.tail)); first | done | fail) | (apply has_rels; (repeat (first | apply List.Mem.head | apply List.Mem.tail)); first | done | fail))); omega) | (apply has_pt; (repeat (first | apply List.Mem.head | apply List.Mem.tail)); first | done | fail) | (apply has_lpt; (repeat (first | apply List.Mem.head | apply List.Mem.tail)); first | done | fail) | (apply has_vels; (repeat (first | apply List.Mem.head | apply List.Mem.tail)); first | done | fail) | (apply has_rels; (repeat (first | apply List.Mem.head | apply List.Mem.tail)); first | done | fail) | with_reducible assumption | ((with_reducible apply has_elg); (focus (first | (apply has_velg; (repeat (first | apply List.Mem.head | apply List.Mem.tail)); first | done | fail) | (apply has_relg; (repeat (first | apply List.Mem.head | apply List.Mem.tail)); first | done | fail))); omega) | (apply has_velg; (repeat (first | apply List.Mem.head | apply List.Mem.tail)); first | done | fail) | (apply has_relg; (repeat (first | apply List.Mem.head | apply List.Mem.tail)); first | done | fail) | (apply has_vwf; (repeat (first | apply List.Mem.head | apply List.Mem.tail)); first | done | fail)), by rw [Is_len]; exact hru⟩) ?_
      refine tkw 11 (t.sum - ri) ?_
      refine t1 5 ?_
      refine lie hrj' ?_
      refine nl ?_
      refine te (fun w hw => ⟨_, has_sl hw (by first | (apply has_vw; (repeat (first | apply List.Mem.head | apply List.Mem.tail)); first | done | fail) | (apply has_own; (repeat (first | apply List.Mem.head | apply List.Mem.tail)); first | done | fail) | (apply has_ro; (repeat (first | apply List.Mem.head | apply List.Mem.tail)); first | done | fail) | apply has_nil | ((with_reducible apply has_el); (focus (first | (apply has_vels; (repeat (first | apply List.Mem.head | apply List.Mem.tail)); first | done | fail) | (apply has_rels; (repeat (first | apply List.Mem.head | apply List.Mem.tail)); first | done | fail))); omega) | (apply has_pt; (repeat (first | apply List.Mem.head | apply List.Mem.tail)); first | done | fail) | (apply has_lpt; (repeat (first | apply List.Mem.head | apply List.Mem.tail)); first | done | fail) | (apply has_vels; (repeat (first | apply List.Mem.head | apply List.Mem.tail)); first | done | fail) | (apply has_rels; (repeat (first | apply List.Mem.head | apply List.Mem.tail)); first | done | fail) | with_reducible assumption | ((with_reducible apply has_elg); (focus (first | (apply has_velg; (repeat (first | apply List.Mem.head | apply List.Mem.tail)); first | done | fail) | (apply has_relg; (repeat (first | apply List.Mem.head | apply List.Mem.tail)); first | done | fail))); omega) | (apply has_velg; (repeat (first | apply List.Mem.head | apply List.Mem.tail)); first | done | fail) | (apply has_relg; (repeat (first | apply List.Mem.head | apply List.Mem.tail)); first | done | fail) | (apply has_vwf; (repeat (first | apply List.Mem.head | apply List.Mem.tail)); first | done | fail)), by rw [Is_len]; exact hru⟩) ?_
      refine tkw 12 r ?_
      refine tkx 13 (len := t.length) (fun w h => h) ?_
      refine t1 14 ?_
      refine soi (l := u.rest) (j := j) ?_
      refine nl ?_
      refine te (fun w hw => ⟨_, has_sl hw (by first | (apply has_vw; (repeat (first | apply List.Mem.head | apply List.Mem.tail)); first | done | fail) | (apply has_own; (repeat (first | apply List.Mem.head | apply List.Mem.tail)); first | done | fail) | (apply has_ro; (repeat (first | apply List.Mem.head | apply List.Mem.tail)); first | done | fail) | apply has_nil | ((with_reducible apply has_el); (focus (first | (apply has_vels; (repeat (first | apply List.Mem.head | apply List.Mem.tail)); first | done | fail) | (apply has_rels; (repeat (first | apply List.Mem.head | apply List.Mem.tail)); first | done | fail))); omega) | (apply has_pt; (repeat (first | apply List.Mem.head | apply List.Mem.tail)); first | done | fail) | (apply has_lpt; (repeat (first | apply List.Mem.head | apply List.Mem.tail)); first | done | fail) | (apply has_vels; (repeat (first | apply List.Mem.head | apply List.Mem.tail)); first | done | fail) | (apply has_rels; (repeat (first | apply List.Mem.head | apply List.Mem.tail)); first | done | fail) | with_reducible assumption | ((with_reducible apply has_elg); (focus (first | (apply has_velg; (repeat (first | apply List.Mem.head | apply List.Mem.tail)); first | done | fail) | (apply has_relg; (repeat (first | apply List.Mem.head | apply List.Mem.tail)); first | done | fail))); omega) | (apply has_velg; (repeat (first | apply List.Mem.head | apply List.Mem.tail)); first | done | fail) | (apply has_relg; (repeat (first | apply List.Mem.head | apply List.Mem.tail)); first | done | fail) | (apply has_vwf; (repeat (first | apply List.Mem.head | apply List.Mem.tail)); first | done | fail)), by rw [Is_len]; exact hq⟩) ?_
      refine t0 ?_
      repeat' first|(refine gca ?_; first|(refine ca (hBel (u.rest.set j r) (dn.set i true) hq hdq) ?_; rintro _ _ ⟨⟨i', rfl, b1, b2, b3⟩, rfl⟩))|refine sbo (l := dn) (j := i) ?_|(refine wo ?_; first|(refine ao ?_; first|refine aw ?_|refine aw6 ?_|refine oa ?_|refine adiv ?_|refine amod ?_|refine shr1 ?_|refine shr ?_|refine umod ?_|refine isl ?_|refine ipe ?_|refine ipn ?_|refine ibe ?_)|refine acw ?_|refine ucv ?_|refine anw ?_|refine oa ?_|refine ld ?_|refine ldl ?_|refine lnm ?_|refine ixmn ?_|refine ixm ?_|refine li ?_|refine lb ?_|refine lv ?_|refine ln ?_|refine ixn ?_|refine ix ?_|refine le ?_|refine sr ?_|refine soi ?_|refine sob ?_|refine scm ?_|refine sclm ?_|refine schm ?_|refine gy ?_|refine gn ?_|refine gnn ?_|refine gu ?_|(refine gsi (fun hB => ?_) (fun hB => ?_) <;> try (exfalso; omega))|(refine gsn (fun hB => ?_) (fun hB => ?_) <;> try (exfalso; omega))|(refine gs (fun hB => ?_) (fun hB => ?_) <;> try (exfalso; omega)))|(refine gc ?_; first|refine ct ?_|refine cf ?_|(refine ci (fun hB => ?_) (fun hB => ?_) <;> try (exfalso; omega))|(refine cn (fun hB => ?_) (fun hB => ?_) <;> try (exfalso; omega))|(refine cb (fun hB => ?_) (fun hB => ?_) <;> try (exfalso; omega)))|refine sq ?_|refine rg ?_|refine xc ?_|refine nl ?_|refine sk ?_|refine bk ?_|refine xe ?_|refine rt ?_|refine xb ?_
      rw [← e1] at b1 b2 b3
      exact lp ⟨u', dn.set i true, i'⟩ ⟨hI', hR', hE2, by dsimp only; rw [← hI'.lr]; exact b1, hnext i' (by rw [← hI'.lr]; exact b1) (by rw [← hI'.lr]; exact b2) b3⟩ (hf := by dsimp only; rw [e1, e2, e3]; first | apply Fit.all | ((repeat (first | (apply Fit.nilN; (repeat (first | apply nrm_nil | apply nrm_cons)); try apply nrm_rfl) | (apply Fit.cons; focus ((repeat (first | apply Tk.here | apply Tk.there)); first | done | fail)))); first | done | fail)) (hlt := hM')
  · rw [if_neg hlt] at hB
    rw [alEnd_stop hB] at hF
    rw [← hF]
    repeat' first|refine lda ?_|refine srz ?_|(refine wo ?_; first|(refine ao ?_; first|refine aw ?_|refine aw6 ?_|refine oa ?_|refine adiv ?_|refine amod ?_|refine shr1 ?_|refine shr ?_|refine umod ?_|refine isl ?_|refine ipe ?_|refine ipn ?_|refine ibe ?_)|refine acw ?_|refine ucv ?_|refine anw ?_|refine oa ?_|refine ld ?_|refine ldl ?_|refine lnm ?_|refine ixmn ?_|refine ixm ?_|refine li ?_|refine lb ?_|refine lv ?_|refine ln ?_|refine ixn ?_|refine ix ?_|refine le ?_|refine sr ?_|refine soi ?_|refine sob ?_|refine scm ?_|refine sclm ?_|refine schm ?_|refine gy ?_|refine gn ?_|refine gnn ?_|refine gu ?_|(refine gsi (fun hB => ?_) (fun hB => ?_) <;> try (exfalso; omega))|(refine gsn (fun hB => ?_) (fun hB => ?_) <;> try (exfalso; omega))|(refine gs (fun hB => ?_) (fun hB => ?_) <;> try (exfalso; omega)))|(refine gc ?_; first|refine ct ?_|refine cf ?_|(refine ci (fun hB => ?_) (fun hB => ?_) <;> try (exfalso; omega))|(refine cn (fun hB => ?_) (fun hB => ?_) <;> try (exfalso; omega))|(refine cb (fun hB => ?_) (fun hB => ?_) <;> try (exfalso; omega)))|refine sq ?_|refine rg ?_|refine xc ?_|refine nl ?_|refine sk ?_|refine bk ?_|refine xe ?_|refine rt ?_|refine xb ?_
    exact rca ⟨cv, ov, rfl, rfl, hcv, hov⟩
end Go.Art
set_option linter.unusedSimpArgs false
set_option linter.unusedVariables false
namespace Go.Art
open Go Go.Proofs Go.RowKit
theorem mod_succ (M n : Nat) (hn : 0 < n) : (M % n = n - 1 → (M + 1) % n = 0) ∧ (M % n ≠ n - 1 → (M + 1) % n = M % n + 1) := by
  have h1 := Nat.div_add_mod M n
  have h2 := Nat.mod_lt M hn
  constructor
  · intro e
    have : M + 1 = n * (M / n + 1) := by rw [Nat.mul_add]; omega
    rw [this, Nat.mul_mod_right]
  · intro e
    have : M + 1 = n * (M / n) + (M % n + 1) := by omega
    rw [this, Nat.mul_add_mod, Nat.mod_eq_of_lt (by omega)]
def over (n : Int) : BitVec 64 := c64 18446744073709551615 % c64 n
theorem overR_toNat {n : Int} (h : 1 ≤ n ∧ n ≤ 1099511627776) : (over n).toNat = 18446744073709551615 % n.toNat := by
  unfold over
  rw [BitVec.toNat_umod, c64_toNat (by omega), c64_toNat (by omega)]
  rfl
theorem over_last {n : Int} (h : 1 ≤ n ∧ n ≤ 1099511627776) (e : over n = c64 n - c64 1) : lim n.toNat = 18446744073709551615 := by
  have h1 := congrArg BitVec.toNat e
  rw [overR_toNat h, BitVec.toNat_sub, c64_toNat (by omega), c64_toNat (by omega)] at h1
  have h2 : 18446744073709551615 % n.toNat = n.toNat - 1 := by omega
  have h3 : 18446744073709551616 % n.toNat = 0 := (mod_succ 18446744073709551615 n.toNat (by omega)).1 h2
  unfold lim
  omega
theorem over_else {n : Int} (h : 1 ≤ n ∧ n ≤ 1099511627776) (e : ¬ over n = c64 n - c64 1) : (c64 18446744073709551615 - over n).toNat = lim n.toNat + 1 := by
  have h0 := overR_toNat h
  have h2 : 18446744073709551615 % n.toNat ≠ n.toNat - 1 := fun q => e (BitVec.eq_of_toNat_eq (by
    rw [h0, q, BitVec.toNat_sub, c64_toNat (by omega), c64_toNat (by omega)]; omega))
  have h3 : 18446744073709551616 % n.toNat = 18446744073709551615 % n.toNat + 1 := (mod_succ 18446744073709551615 n.toNat (by omega)).2 h2
  have h4 := Nat.mod_lt 18446744073709551615 (show 0 < n.toNat by omega)
  have e64 : Int.toNat 18446744073709551615 = 18446744073709551615 := rfl
  have e65 : 2 ^ 64 = 18446744073709551616 := rfl
  rw [BitVec.toNat_sub, h0, c64_toNat (by omega), e64, e65]
  unfold lim
  rw [h3]
  generalize 18446744073709551615 % n.toNat = m at *
  omega
attribute [local irreducible] Fit pt own ro vw mpc lpt vels rels mow lrc dfr
abbrev TRl : TypeId := 87
abbrev rloP (b : Nat) (st : BitVec 64) (used : Int) : List Ch := [pt b [nS, .bool true, U st, I used, .bool false] TRl]
theorem RStir_tr (x : BitVec 64) : Tr Tryz.prog 52 [U x] [] [] fun v D => v = U (stir x) ∧ D = [] := by
  refine Tr.enter env _ Tryz.func52 (by kernel_rfl) rfl Tryz.ntmps52 rfl (by repeat (first | exact has00 | refine has01 ?_)) fun w0 => ?_
  repeat' first|refine uad ?_|refine uml ?_|refine uxr ?_|refine ush ?_|(refine wo ?_; first|(refine ao ?_; first|refine aw ?_|refine aw6 ?_|refine oa ?_|refine adiv ?_|refine amod ?_|refine shr1 ?_|refine shr ?_|refine umod ?_|refine isl ?_|refine ipe ?_|refine ipn ?_|refine ibe ?_)|refine acw ?_|refine ucv ?_|refine anw ?_|refine oa ?_|refine ld ?_|refine ldl ?_|refine lnm ?_|refine ixmn ?_|refine ixm ?_|refine li ?_|refine lb ?_|refine lv ?_|refine ln ?_|refine ixn ?_|refine ix ?_|refine le ?_|refine sr ?_|refine soi ?_|refine sob ?_|refine scm ?_|refine sclm ?_|refine schm ?_|refine gy ?_|refine gn ?_|refine gnn ?_|refine gu ?_|(refine gsi (fun hB => ?_) (fun hB => ?_) <;> try (exfalso; omega))|(refine gsn (fun hB => ?_) (fun hB => ?_) <;> try (exfalso; omega))|(refine gs (fun hB => ?_) (fun hB => ?_) <;> try (exfalso; omega)))|(refine gc ?_; first|refine ct ?_|refine cf ?_|(refine ci (fun hB => ?_) (fun hB => ?_) <;> try (exfalso; omega))|(refine cn (fun hB => ?_) (fun hB => ?_) <;> try (exfalso; omega))|(refine cb (fun hB => ?_) (fun hB => ?_) <;> try (exfalso; omega)))|refine sq ?_|refine rg ?_|refine xc ?_|refine nl ?_|refine sk ?_|refine bk ?_|refine xe ?_|refine rt ?_|refine xb ?_
  exact r1 ⟨rfl, rfl⟩
theorem RSeeded_tr (x y z : BitVec 64) : Tr Tryz.prog 31 [U x, U y, U z] [] [] fun v D => ∃ b, v = ptr b ∧ D = rloP b (seedOf x y z) 0 := by
  refine Tr.enter env _ Tryz.func31 (by kernel_rfl) rfl Tryz.ntmps31 rfl (by repeat (first | exact has00 | refine has01 ?_)) fun w0 => ?_
  repeat' first|(refine gca ?_; first|(refine ca (RStir_tr _) ?_; rintro _ _ ⟨rfl, rfl⟩))|refine uad ?_|refine bdz ?_|refine bx fun r => ?_|(refine wo ?_; first|(refine ao ?_; first|refine aw ?_|refine aw6 ?_|refine oa ?_|refine adiv ?_|refine amod ?_|refine shr1 ?_|refine shr ?_|refine umod ?_|refine isl ?_|refine ipe ?_|refine ipn ?_|refine ibe ?_)|refine acw ?_|refine ucv ?_|refine anw ?_|refine oa ?_|refine ld ?_|refine ldl ?_|refine lnm ?_|refine ixmn ?_|refine ixm ?_|refine li ?_|refine lb ?_|refine lv ?_|refine ln ?_|refine ixn ?_|refine ix ?_|refine le ?_|refine sr ?_|refine soi ?_|refine sob ?_|refine scm ?_|refine sclm ?_|refine schm ?_|refine gy ?_|refine gn ?_|refine gnn ?_|refine gu ?_|(refine gsi (fun hB => ?_) (fun hB => ?_) <;> try (exfalso; omega))|(refine gsn (fun hB => ?_) (fun hB => ?_) <;> try (exfalso; omega))|(refine gs (fun hB => ?_) (fun hB => ?_) <;> try (exfalso; omega)))|(refine gc ?_; first|refine ct ?_|refine cf ?_|(refine ci (fun hB => ?_) (fun hB => ?_) <;> try (exfalso; omega))|(refine cn (fun hB => ?_) (fun hB => ?_) <;> try (exfalso; omega))|(refine cb (fun hB => ?_) (fun hB => ?_) <;> try (exfalso; omega)))|refine sq ?_|refine rg ?_|refine xc ?_|refine nl ?_|refine sk ?_|refine bk ?_|refine xe ?_|refine rt ?_|refine xb ?_
  exact r1 ⟨_, rfl, rfl⟩
theorem word_tr (b : Nat) (st : BitVec 64) (used : Int) : Tr Tryz.prog 67 [ptr b] [] (rloP b st used) fun v D => v = U (stir st) ∧ D = rloP b (st + gold) used := by
  refine Tr.enter env _ Tryz.func67 (by kernel_rfl) rfl Tryz.ntmps67 rfl (by repeat (first | exact has00 | refine has01 ?_)) fun w0 => ?_
  repeat' first|(refine gca ?_; first|(refine ca (RStir_tr _) ?_; rintro _ _ ⟨rfl, rfl⟩))|refine uad ?_|(refine wo ?_; first|(refine ao ?_; first|refine aw ?_|refine aw6 ?_|refine oa ?_|refine adiv ?_|refine amod ?_|refine shr1 ?_|refine shr ?_|refine umod ?_|refine isl ?_|refine ipe ?_|refine ipn ?_|refine ibe ?_)|refine acw ?_|refine ucv ?_|refine anw ?_|refine oa ?_|refine ld ?_|refine ldl ?_|refine lnm ?_|refine ixmn ?_|refine ixm ?_|refine li ?_|refine lb ?_|refine lv ?_|refine ln ?_|refine ixn ?_|refine ix ?_|refine le ?_|refine sr ?_|refine soi ?_|refine sob ?_|refine scm ?_|refine sclm ?_|refine schm ?_|refine gy ?_|refine gn ?_|refine gnn ?_|refine gu ?_|(refine gsi (fun hB => ?_) (fun hB => ?_) <;> try (exfalso; omega))|(refine gsn (fun hB => ?_) (fun hB => ?_) <;> try (exfalso; omega))|(refine gs (fun hB => ?_) (fun hB => ?_) <;> try (exfalso; omega)))|(refine gc ?_; first|refine ct ?_|refine cf ?_|(refine ci (fun hB => ?_) (fun hB => ?_) <;> try (exfalso; omega))|(refine cn (fun hB => ?_) (fun hB => ?_) <;> try (exfalso; omega))|(refine cb (fun hB => ?_) (fun hB => ?_) <;> try (exfalso; omega)))|refine sq ?_|refine rg ?_|refine xc ?_|refine nl ?_|refine sk ?_|refine bk ?_|refine xe ?_|refine rt ?_|refine xb ?_
  exact r1 ⟨rfl, rfl⟩
theorem RDraw_tr (b : Nat) (st : BitVec 64) (used n : Int) (hu : 0 ≤ used ∧ used ≤ 4611686018427387904) : Tr Tryz.prog 49 [ptr b, I n] [] (rloP b st used)
    fun v D => v = tup2 (I (ldraw n st used).1.1) (I (ldraw n st used).1.2) ∧ D = rloP b (ldraw n st used).2.1 (ldraw n st used).2.2 := by
  by_cases hn : 1 ≤ n ∧ n ≤ 1099511627776
  rotate_left
  · rw [show ldraw n st used = ((0, 3), (st, used)) from if_neg hn]
    refine Tr.enter env _ Tryz.func49 (by kernel_rfl) rfl Tryz.ntmps49 rfl (by repeat (first | exact has00 | refine has01 ?_)) fun w0 => ?_
    repeat' first|(refine wo ?_; first|(refine ao ?_; first|refine aw ?_|refine aw6 ?_|refine oa ?_|refine adiv ?_|refine amod ?_|refine shr1 ?_|refine shr ?_|refine umod ?_|refine isl ?_|refine ipe ?_|refine ipn ?_|refine ibe ?_)|refine acw ?_|refine ucv ?_|refine anw ?_|refine oa ?_|refine ld ?_|refine ldl ?_|refine lnm ?_|refine ixmn ?_|refine ixm ?_|refine li ?_|refine lb ?_|refine lv ?_|refine ln ?_|refine ixn ?_|refine ix ?_|refine le ?_|refine sr ?_|refine soi ?_|refine sob ?_|refine scm ?_|refine sclm ?_|refine schm ?_|refine gy ?_|refine gn ?_|refine gnn ?_|refine gu ?_|(refine gsi (fun hB => ?_) (fun hB => ?_) <;> try (exfalso; omega))|(refine gsn (fun hB => ?_) (fun hB => ?_) <;> try (exfalso; omega))|(refine gs (fun hB => ?_) (fun hB => ?_) <;> try (exfalso; omega)))|(refine gc ?_; first|refine ct ?_|refine cf ?_|(refine ci (fun hB => ?_) (fun hB => ?_) <;> try (exfalso; omega))|(refine cn (fun hB => ?_) (fun hB => ?_) <;> try (exfalso; omega))|(refine cb (fun hB => ?_) (fun hB => ?_) <;> try (exfalso; omega)))|refine sq ?_|refine rg ?_|refine xc ?_|refine nl ?_|refine sk ?_|refine bk ?_|refine xe ?_|refine rt ?_|refine xb ?_
    all_goals exact r2 ⟨rfl, rfl⟩
  rw [show ldraw n st used = ((((sdraw n.toNat st).1 : Int), 0), ((sdraw n.toNat st).2, used + 1)) from if_pos hn]
  have hnz := c64_ne (n := n) (by omega)
  have hml : ∀ x : BitVec 64, (x % c64 n).toNat = x.toNat % n.toNat ∧ (x % c64 n).toNat ≤ 9223372036854775807 := fun x => by
    have h2 := Nat.mod_lt x.toNat (show 0 < n.toNat by omega)
    have h3 : (x % c64 n).toNat = x.toNat % n.toNat := by rw [BitVec.toNat_umod, c64_toNat (by omega)]
    exact ⟨h3, by omega⟩
  by_cases he : over n = c64 n - c64 1
  · have hs : sacc n.toNat st = st := sacc_yes (by rw [over_last hn he]; have := (stir st).isLt; omega)
    have hv : (sdraw n.toNat st).1 = (stir st % c64 n).toNat := by rw [(hml _).1]; unfold sdraw; rw [hs]
    have hv2 : (sdraw n.toNat st).2 = st + gold := by unfold sdraw; rw [hs]
    rw [hv, hv2]
    refine Tr.enter env _ Tryz.func49 (by kernel_rfl) rfl Tryz.ntmps49 rfl (by repeat (first | exact has00 | refine has01 ?_)) fun w0 => ?_
    repeat' first|(refine gca ?_; first|(refine ca (word_tr b st (used + 1)) ?_; rintro _ _ ⟨rfl, rfl⟩))|refine uto ?_|refine urm ?_|refine usb ?_|(refine TO.val (v := .bool true) (fun _ _ => R_true (R_ueql (p := over n) (q := c64 n - c64 1) rfl rfl) he) ?_ rfl)|refine uof ?_ (h := (hml _).2)|(refine wo ?_; first|(refine ao ?_; first|refine aw ?_|refine aw6 ?_|refine oa ?_|refine adiv ?_|refine amod ?_|refine shr1 ?_|refine shr ?_|refine umod ?_|refine isl ?_|refine ipe ?_|refine ipn ?_|refine ibe ?_)|refine acw ?_|refine ucv ?_|refine anw ?_|refine oa ?_|refine ld ?_|refine ldl ?_|refine lnm ?_|refine ixmn ?_|refine ixm ?_|refine li ?_|refine lb ?_|refine lv ?_|refine ln ?_|refine ixn ?_|refine ix ?_|refine le ?_|refine sr ?_|refine soi ?_|refine sob ?_|refine scm ?_|refine sclm ?_|refine schm ?_|refine gy ?_|refine gn ?_|refine gnn ?_|refine gu ?_|(refine gsi (fun hB => ?_) (fun hB => ?_) <;> try (exfalso; omega))|(refine gsn (fun hB => ?_) (fun hB => ?_) <;> try (exfalso; omega))|(refine gs (fun hB => ?_) (fun hB => ?_) <;> try (exfalso; omega)))|(refine gc ?_; first|refine ct ?_|refine cf ?_|(refine ci (fun hB => ?_) (fun hB => ?_) <;> try (exfalso; omega))|(refine cn (fun hB => ?_) (fun hB => ?_) <;> try (exfalso; omega))|(refine cb (fun hB => ?_) (fun hB => ?_) <;> try (exfalso; omega)))|refine sq ?_|refine rg ?_|refine xc ?_|refine nl ?_|refine sk ?_|refine bk ?_|refine xe ?_|refine rt ?_|refine xb ?_
    exact r2 ⟨rfl, rfl⟩
  · have hlim : ∀ x : BitVec 64, (x.toNat ≤ lim n.toNat → ¬ (c64 18446744073709551615 - over n).toNat ≤ x.toNat) ∧ (¬ x.toNat ≤ lim n.toNat → (c64 18446744073709551615 - over n).toNat ≤ x.toNat) := fun x => by
      have hl : (c64 18446744073709551615 - over n).toNat = lim n.toNat + 1 := over_else hn he
      constructor <;> omega
    refine Tr.enter env _ Tryz.func49 (by kernel_rfl) rfl Tryz.ntmps49 rfl (by repeat (first | exact has00 | refine has01 ?_)) fun w0 => ?_
    repeat' first|(refine gca ?_; first|(refine ca (word_tr b st (used + 1)) ?_; rintro _ _ ⟨rfl, rfl⟩))|refine uto ?_|refine urm ?_|refine usb ?_|(refine TO.val (v := .bool false) (fun _ _ => R_false (R_ueql (p := over n) (q := c64 n - c64 1) rfl rfl) he) ?_ rfl)|(refine wo ?_; first|(refine ao ?_; first|refine aw ?_|refine aw6 ?_|refine oa ?_|refine adiv ?_|refine amod ?_|refine shr1 ?_|refine shr ?_|refine umod ?_|refine isl ?_|refine ipe ?_|refine ipn ?_|refine ibe ?_)|refine acw ?_|refine ucv ?_|refine anw ?_|refine oa ?_|refine ld ?_|refine ldl ?_|refine lnm ?_|refine ixmn ?_|refine ixm ?_|refine li ?_|refine lb ?_|refine lv ?_|refine ln ?_|refine ixn ?_|refine ix ?_|refine le ?_|refine sr ?_|refine soi ?_|refine sob ?_|refine scm ?_|refine sclm ?_|refine schm ?_|refine gy ?_|refine gn ?_|refine gnn ?_|refine gu ?_|(refine gsi (fun hB => ?_) (fun hB => ?_) <;> try (exfalso; omega))|(refine gsn (fun hB => ?_) (fun hB => ?_) <;> try (exfalso; omega))|(refine gs (fun hB => ?_) (fun hB => ?_) <;> try (exfalso; omega)))|(refine gc ?_; first|refine ct ?_|refine cf ?_|(refine ci (fun hB => ?_) (fun hB => ?_) <;> try (exfalso; omega))|(refine cn (fun hB => ?_) (fun hB => ?_) <;> try (exfalso; omega))|(refine cb (fun hB => ?_) (fun hB => ?_) <;> try (exfalso; omega)))|refine sq ?_|refine rg ?_|refine xc ?_|refine nl ?_|refine sk ?_|refine bk ?_|refine xe ?_|refine rt ?_|refine xb ?_
    refine TC.loop (ι := BitVec 64) (fun g => [(7, U (stir g))]) (fun g => rloP b (g + gold) (used + 1)) (fun g => sacc n.toNat g = sacc n.toNat st) far st [0, 1, 6] rfl ?_
    rintro g hg
    by_cases hst : (stir g).toNat ≤ lim n.toNat
    · have hst' := (hlim (stir g)).1 hst
      have hv : (sdraw n.toNat st).1 = (stir g % c64 n).toNat := by rw [(hml _).1]; unfold sdraw; rw [← hg, sacc_yes hst]
      have hv2 : (sdraw n.toNat st).2 = g + gold := by unfold sdraw; rw [← hg, sacc_yes hst]
      rw [hv, hv2]
      repeat' first|refine uto ?_|refine urm ?_|refine usb ?_|(refine TO.val (v := .bool false) (fun _ _ => R_false (R_ugeq (p := stir g) (q := c64 18446744073709551615 - over n) rfl rfl) hst') ?_ rfl)|refine uof ?_ (h := (hml _).2)|(refine wo ?_; first|(refine ao ?_; first|refine aw ?_|refine aw6 ?_|refine oa ?_|refine adiv ?_|refine amod ?_|refine shr1 ?_|refine shr ?_|refine umod ?_|refine isl ?_|refine ipe ?_|refine ipn ?_|refine ibe ?_)|refine acw ?_|refine ucv ?_|refine anw ?_|refine oa ?_|refine ld ?_|refine ldl ?_|refine lnm ?_|refine ixmn ?_|refine ixm ?_|refine li ?_|refine lb ?_|refine lv ?_|refine ln ?_|refine ixn ?_|refine ix ?_|refine le ?_|refine sr ?_|refine soi ?_|refine sob ?_|refine scm ?_|refine sclm ?_|refine schm ?_|refine gy ?_|refine gn ?_|refine gnn ?_|refine gu ?_|(refine gsi (fun hB => ?_) (fun hB => ?_) <;> try (exfalso; omega))|(refine gsn (fun hB => ?_) (fun hB => ?_) <;> try (exfalso; omega))|(refine gs (fun hB => ?_) (fun hB => ?_) <;> try (exfalso; omega)))|(refine gc ?_; first|refine ct ?_|refine cf ?_|(refine ci (fun hB => ?_) (fun hB => ?_) <;> try (exfalso; omega))|(refine cn (fun hB => ?_) (fun hB => ?_) <;> try (exfalso; omega))|(refine cb (fun hB => ?_) (fun hB => ?_) <;> try (exfalso; omega)))|refine sq ?_|refine rg ?_|refine xc ?_|refine nl ?_|refine sk ?_|refine bk ?_|refine xe ?_|refine rt ?_|refine xb ?_
      exact r2 ⟨rfl, rfl⟩
    · have hst' := (hlim (stir g)).2 hst
      repeat' first|(refine gca ?_; first|(refine ca (word_tr b (g + gold) (used + 1)) ?_; rintro _ _ ⟨rfl, rfl⟩))|refine usb ?_|(refine TO.val (v := .bool true) (fun _ _ => R_true (R_ugeq (p := stir g) (q := c64 18446744073709551615 - over n) rfl rfl) hst') ?_ rfl)|(refine wo ?_; first|(refine ao ?_; first|refine aw ?_|refine aw6 ?_|refine oa ?_|refine adiv ?_|refine amod ?_|refine shr1 ?_|refine shr ?_|refine umod ?_|refine isl ?_|refine ipe ?_|refine ipn ?_|refine ibe ?_)|refine acw ?_|refine ucv ?_|refine anw ?_|refine oa ?_|refine ld ?_|refine ldl ?_|refine lnm ?_|refine ixmn ?_|refine ixm ?_|refine li ?_|refine lb ?_|refine lv ?_|refine ln ?_|refine ixn ?_|refine ix ?_|refine le ?_|refine sr ?_|refine soi ?_|refine sob ?_|refine scm ?_|refine sclm ?_|refine schm ?_|refine gy ?_|refine gn ?_|refine gnn ?_|refine gu ?_|(refine gsi (fun hB => ?_) (fun hB => ?_) <;> try (exfalso; omega))|(refine gsn (fun hB => ?_) (fun hB => ?_) <;> try (exfalso; omega))|(refine gs (fun hB => ?_) (fun hB => ?_) <;> try (exfalso; omega)))|(refine gc ?_; first|refine ct ?_|refine cf ?_|(refine ci (fun hB => ?_) (fun hB => ?_) <;> try (exfalso; omega))|(refine cn (fun hB => ?_) (fun hB => ?_) <;> try (exfalso; omega))|(refine cb (fun hB => ?_) (fun hB => ?_) <;> try (exfalso; omega)))|refine sq ?_|refine rg ?_|refine xc ?_|refine nl ?_|refine sk ?_|refine bk ?_|refine xe ?_|refine rt ?_|refine xb ?_
      exact lp (g + gold) (by rw [← sacc_no hst]; exact hg) (hlt := far_step g (far_stop g _ hst))
end Go.Art
