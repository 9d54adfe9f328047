/- Texts put together: LaySort Srt Q Lt Ss Oo Ql Qm So Sg Al Qn Ct Rn Bg Ro Na. Conditions: none. -/
import Derived.Test.YtbdmhamjhkibgaaGreatZGb
namespace Go.Art
open Go Go.Proofs
def renSort : Shelf.Ren :=
{
  f := fun x =>
    match x with
    | 189 => 136
    | 125 => 159
    | 257 => 158
    | 128 => 182
    | 129 => 124
    | 294 => 173
    | 295 => 174
    | 296 => 175
    | 297 => 176
    | 298 => 177
    | 299 => 178
    | 216 => 179
    | 300 => 180
    | 301 => 181
    | 328 => 188
    | 329 => 189
    | 330 => 190
    | 331 => 191
    | 332 => 192
    | 215 => 193
    | 343 => 195
    | n => n,
  t := fun x =>
    match x with
    | 28 => 22
    | 3 => 3
    | 46 => 72
    | 0 => 0
    | 51 => 191
    | 53 => 45
    | 4 => 4
    | 183 => 185
    | 182 => 184
    | 131 => 150
    | 5 => 5
    | 9 => 9
    | 218 => 194
    | 222 => 197
    | 228 => 199
    | 229 => 200
    | n => n,
  g := fun x =>
    have n := x;
    n }
theorem laysSort : Lays.n189 Tryz.prog renSort :=
{ mixed := Eq.refl true, f125 := Eq.trans Tryz.func159 (congrArg some (Eq.refl (Body.n125 renSort))),
  f128 := Eq.trans Tryz.func182 (congrArg some (Eq.refl (Body.n128 renSort))),
  f129 := Eq.trans Tryz.func124 (congrArg some (Eq.refl (Body.n129 renSort))),
  f189 := Eq.trans Tryz.func136 (congrArg some (Eq.refl (Body.n189 renSort))),
  f215 := Eq.trans Tryz.func193 (congrArg some (Eq.refl (Body.n215 renSort))),
  f216 := Eq.trans Tryz.func179 (congrArg some (Eq.refl (Body.n216 renSort))),
  f257 := Eq.trans Tryz.func158 (congrArg some (Eq.refl (Body.n257 renSort))),
  f294 := Eq.trans Tryz.func173 (congrArg some (Eq.refl (Body.n294 renSort))),
  f295 := Eq.trans Tryz.func174 (congrArg some (Eq.refl (Body.n295 renSort))),
  f296 := Eq.trans Tryz.func175 (congrArg some (Eq.refl (Body.n296 renSort))),
  f297 := Eq.trans Tryz.func176 (congrArg some (Eq.refl (Body.n297 renSort))),
  f298 := Eq.trans Tryz.func177 (congrArg some (Eq.refl (Body.n298 renSort))),
  f299 := Eq.trans Tryz.func178 (congrArg some (Eq.refl (Body.n299 renSort))),
  f300 := Eq.trans Tryz.func180 (congrArg some (Eq.refl (Body.n300 renSort))),
  f301 := Eq.trans Tryz.func181 (congrArg some (Eq.refl (Body.n301 renSort))),
  f328 := Eq.trans Tryz.func188 (congrArg some (Eq.refl (Body.n328 renSort))),
  f329 := Eq.trans Tryz.func189 (congrArg some (Eq.refl (Body.n329 renSort))),
  f330 := Eq.trans Tryz.func190 (congrArg some (Eq.refl (Body.n330 renSort))),
  f331 := Eq.trans Tryz.func191 (congrArg some (Eq.refl (Body.n331 renSort))),
  f332 := Eq.trans Tryz.func192 (congrArg some (Eq.refl (Body.n332 renSort))),
  f343 := Eq.trans Tryz.func195 (congrArg some (Eq.refl (Body.n343 renSort))), t0 := Tryz.underlying0,
  a0 := Tryz.isAgg0, z0 := Tryz.sizeOf0, v0 := Tryz.zeroValue0, t3 := Tryz.underlying3, a3 := Tryz.isAgg3,
  z3 := Tryz.sizeOf3, v3 := Tryz.zeroValue3, t4 := Tryz.underlying4, a4 := Tryz.isAgg4, z4 := Tryz.sizeOf4,
  v4 := Tryz.zeroValue4, t5 := Tryz.underlying5, a5 := Tryz.isAgg5, z5 := Tryz.sizeOf5, v5 := Tryz.zeroValue5,
  t9 := Tryz.underlying9, a9 := Tryz.isAgg9, z9 := Tryz.sizeOf9, v9 := Tryz.zeroValue9, t28 := Tryz.underlying22,
  a28 := Tryz.isAgg22, z28 := Tryz.sizeOf22, v28 := Tryz.zeroValue22, t46 := Tryz.underlying72, a46 := Tryz.isAgg72,
  z46 := Tryz.sizeOf72, v46 := Tryz.zeroValue72, t51 := Tryz.underlying191, a51 := Tryz.isAgg191, z51 := Tryz.sizeOf191,
  v51 := Tryz.zeroValue191, t53 := Tryz.underlying45, a53 := Tryz.isAgg45, z53 := Tryz.sizeOf45,
  v53 := Tryz.zeroValue45, t131 := Tryz.underlying150, a131 := Tryz.isAgg150, z131 := Tryz.sizeOf150,
  v131 := Tryz.zeroValue150, t182 := Tryz.underlying184, a182 := Tryz.isAgg184, z182 := Tryz.sizeOf184,
  v182 := Tryz.zeroValue184, t183 := Tryz.underlying185, a183 := Tryz.isAgg185, z183 := Tryz.sizeOf185,
  v183 := Tryz.zeroValue185, t218 := Tryz.underlying194, a218 := Tryz.isAgg194, z218 := Tryz.sizeOf194,
  v218 := Tryz.zeroValue194, t222 := Tryz.underlying197, a222 := Tryz.isAgg197, z222 := Tryz.sizeOf197,
  v222 := Tryz.zeroValue197, t228 := Tryz.underlying199, a228 := Tryz.isAgg199, z228 := Tryz.sizeOf199,
  v228 := Tryz.zeroValue199, t229 := Tryz.underlying200, a229 := Tryz.isAgg200, z229 := Tryz.sizeOf200,
  v229 := Tryz.zeroValue200 }
end Go.Art
set_option linter.unusedSimpArgs false
set_option linter.unusedVariables false
namespace Go.Art
open Go Go.Proofs Go.RowKit

def srt (xs : List Int) : List Int := xs.mergeSort fun x y => decide (x ≤ y)
theorem srt_perm (xs : List Int) : (srt xs).Perm xs := List.mergeSort_perm xs _
theorem srt_length (xs : List Int) : (srt xs).length = xs.length := (srt_perm xs).length_eq
theorem srt_sorted (xs : List Int) : (srt xs).Pairwise (· ≤ ·) := by
  have h := List.pairwise_mergeSort (le := fun x y : Int => decide (x ≤ y)) (fun a b c h1 h2 => by simp at *; omega) (fun a b => by simp; omega) xs
  exact h.imp fun h => by simpa using h


theorem Sort_tr (v : Value) (xs : List Int) (hlen : xs.length < 4611686018427387904) : Tr Tryz.prog 136 [v] [] [own 3 v (Is xs)] fun u D => u = .tuple #[] ∧ D = [own 3 v (Is (srt xs))] := by
  refine ⟨fun w hw => ?_, fun _ h => nomatch h⟩
  have hO : OwnO w 3 v (Is xs) := hw.h (own 3 v (Is xs)) (by simp)
  have fin : ∀ (w' : World) (u : Value), Upd w w' v.ownBlock.toList → OwnO w' 3 v (Is (srt xs)) → u = .tuple #[] → PR w [own 3 v (Is xs)] (fun u D => u = .tuple #[] ∧ D = [own 3 v (Is (srt xs))]) u w' := by
    intro w' u hU hO' hu
    refine ⟨[own 3 v (Is (srt xs))], ⟨hu, rfl⟩, Sat.one hO', Mv.upd hU (fun b hb => .inl (wrs_one.2 (by show v.ownBlock = some b; simpa using hb))) (fun b hb => .inl (wrs_one.2 (by have := wrs_one.1 hb; exact this))) (fun b hb => (by have := rds_one.1 hb; exact this.elim)), fun c hc b hb => ?_⟩
    obtain rfl : c = own 3 v (Is (srt xs)) := by simpa using hc
    exact hb
  refine ⟨⟨_, Tryz.func136, rfl, rfl⟩, ?_⟩
  have hl := Is_len xs
  rcases hO with ⟨rfl, h0⟩ | ⟨b, o, cap, cur, rfl, hb, h1, h2, h3, h4⟩
  · obtain rfl : xs = [] := by cases xs with | nil => rfl | cons => cases h0
    exact (calls_of_every_depth fun D => AnyS.slices_Sort_int_none_in laysSort D none 0 w).mono fun e w' ⟨he, hw⟩ => by
      subst he hw
      exact ⟨_, rfl, fin _ _ (Upd.refl _ _) (by rw [show srt [] = [] by simp [srt]]; exact .inl ⟨rfl, rfl⟩) rfl⟩
  · have hcell : ∀ j, j < xs.length → w.cell? ⟨b, o + j, none⟩ = some (I (xs.getD j 0)) ∧ w.frozen? ⟨b, o + j, none⟩ = false := fun j hj => by
      have hg := Is_get xs j hj
      rw [← h4, List.getElem?_take, if_pos (by omega), List.getElem?_drop] at hg
      exact ⟨blk_cell hb (by simpa using hg), frozen_of_row w b (o + j) cur _ hb⟩
    have hH : Sort.Holds (Value.int .i64) w b o xs.toArray := fun j hj => by
      have hj' : j < xs.length := by simpa using hj
      obtain ⟨h5, h6⟩ := hcell j hj'
      refine ⟨?_, h6⟩
      rw [h5]
      simp [List.getD_eq_getElem?_getD, hj']
    rw [hl] at fin ⊢
    refine (calls_of_every_depth fun D => AnyS.slices_Sort_int_in laysSort D b o cap xs w hH (lt_of_heap hb) hlen).mono fun e w' ⟨he, n, os, hw⟩ => ?_
    subst he
    refine ⟨_, rfl, fin _ _ ?_ ?_ rfl⟩
    · subst hw
      refine ⟨rfl, rfl, rfl, by simp [Sort.ahead], fun k hk hn => ?_⟩
      have hkb : k ≠ b := fun q => hn (by simp [q, Value.ownBlock])
      rw [Sort.heap_grow_old _ _ (by simpa [Sort.ahead] using hk)]
      simp [Sort.putRow, Sort.mapBlock, Array.getElem?_modify, Ne.symm hkb, Sort.ahead]
    · refine .inr ⟨b, o, cap, Sort.putCells (Value.int .i64) o (srt xs).toArray cur, by rw [Is_len, srt_length], ?_, by rw [Is_len, srt_length]; omega, h2, by simp [Sort.putCells]; omega, ?_⟩
      · subst hw
        rw [Sort.heap_grow_old _ _ (by simpa [Sort.ahead] using lt_of_heap hb)]
        simp [Sort.putRow, Sort.mapBlock, Array.getElem?_modify, hb, Sort.ahead, Sort.onCells, srt]
      · apply List.ext_getElem?
        intro j
        rw [List.getElem?_take, List.getElem?_drop]
        by_cases hj : j < xs.length
        · have hj2 : o + j < cur.size := by omega
          have hj3 : j < (srt xs).length := by rw [srt_length]; exact hj
          rw [Is_len, srt_length, if_pos hj]
          simp [Sort.putCells, hj, hj2, hj3, srt_length]
        · rw [Is_len, srt_length, if_neg hj]
          symm
          rw [List.getElem?_eq_none]
          rw [Is_len, srt_length]; omega
end Go.Art
set_option linter.unusedSimpArgs false
set_option linter.unusedVariables false
namespace Go.Art
open Go Go.Proofs Go.RowKit
open Go.ChangeMaps (setBlock)

def lmp (b : Nat) (f : Int → Option Value) : Ch where
  wr := fun _ => False
  rd := fun _ => False
  bd := fun x => x = b
  P := fun w => MapF w b f
  loc := fun {w w'} h hb => by obtain ⟨es, c, h1, h2⟩ := h.ex; exact ⟨es, c, (hb b (.inr (.inr rfl))).trans h1, h2⟩
  lt := fun h hb => by rcases hb with hb | hb | rfl; exact hb.elim; exact hb.elim; exact h.lt
def lme (b : Nat) (es : Array MapEntry) (c : Nat) : Ch where
  wr := fun _ => False
  rd := fun _ => False
  bd := fun x => x = b
  P := fun w => w.heap[b]? = some (.map es c)
  loc := fun h hb => (hb b (.inr (.inr rfl))).trans h
  lt := fun h hb => by rcases hb with hb | hb | rfl; exact hb.elim; exact hb.elim; exact lt_of_heap h
def mit (r b since : Nat) (seen : Array Nat) (c : Nat) : Ch where
  wr := fun x => x = r
  rd := fun _ => False
  bd := fun _ => False
  P := fun w => w.heap[r]? = some (.mapIter (some b) since seen c)
  loc := fun h hb => (hb r (.inl rfl)).trans h
  lt := fun h hb => by rcases hb with rfl | hb | hb; exact lt_of_heap h; exact hb.elim; exact hb.elim
instance (b : Nat) (f : Int → Option Value) : Lent (lmp b f) := ⟨fun _ => ⟨fun h => h, fun h => h⟩⟩
instance (b : Nat) (es : Array MapEntry) (c : Nat) : Lent (lme b es c) := ⟨fun _ => ⟨fun h => h, fun h => h⟩⟩
instance (r b since : Nat) (seen : Array Nat) (c : Nat) : NoB (mit r b since seen c) := ⟨fun _ h => h⟩
theorem has_lent {F : List Ch} {c : Ch} (h : c ∈ F) (hl : ∀ b, ¬ c.wr b ∧ ¬ c.rd b) : Has F c := ⟨fun _ hw => hw.h _ h, fun b => (hl b).1, fun b => (hl b).2, fun _ hb => ⟨_, h, hb⟩⟩

theorem Fit.app (L J : List Ch) : Fit (L ++ J) J L := Im.perm List.perm_append_comm
theorem Fit.comm (L J : List Ch) : Fit (J ++ L) (L ++ J) [] := by unfold Fit; rw [List.append_nil]; exact Im.perm List.perm_append_comm
structure SeqC (P : Program) (f : FuncId) (cap : Array Value) (pre : List Ch) (N : Nat) (Done : List Int → Prop) : Prop where
  run : ∀ {α : Type} (l : Nat) (J : α → List Ch) (el : α → List Int) (a0 : α), el a0 = [] → (∀ a, ∀ c ∈ J a, ∀ b, ¬ c.bd b) →
    (∀ a x, (el a).length < N → Ty P l [I x] [] (J a) fun ok B => ok = true ∧ ∃ a', el a' = el a ++ [x] ∧ B = J a') →
    Tr P f (yv l :: cap.toList) pre (J a0) fun _ B => ∃ a, Done (el a) ∧ B = J a
  done : ∀ zs, Done zs → zs.length ≤ N
  lent : ∀ c ∈ pre, ∀ b, ¬ c.wr b ∧ ¬ c.rd b

section
variable {P : Program} {E : Env P} {n : Sh} {X : Cx} {s : List K} {fr : Fr} {A A' B F : List Ch} {ops : Array Oper} {rest : List Oper} {d : Nat} {ty : TypeId} {pos : String} {after : Array Edge} {v z : Value} {t T : TypeId} {x y : Operand} {c0 : Code}
  {b r since : Nat} {f : Int → Option Value} {kt et : TypeId} {es : Array MapEntry} {clock : Nat} {seen : Array Nat}
end
attribute [local irreducible] Fit pt own ro vw mpc lpt vels rels mow lrc dfr
attribute [local irreducible] lmp lme mit

theorem AppendSeq_tr {f : FuncId} {cap : Array Value} {pre : List Ch} {N : Nat} {Done : List Int → Prop} (h : SeqC Tryz.prog f cap pre N Done) (hN : N ≤ 17592186044416) :
    Tr Tryz.prog 157 [nS, .func (.func f) #[] cap] pre [] fun v D => ∃ zs, Done zs ∧ D = [own 3 v (Is zs)] := by
  refine Tr.enterM env _ Tryz.func157 (by kernel_rfl) rfl Tryz.ntmps157 rfl h.lent fun w0 => ?_
  refine TC.im (own_nil 3 _) ?_
  repeat' first|refine bx1 fun b => ?_|(refine wo ?_; first|refine oa ?_)|refine sq ?_|refine rg ?_|refine xc ?_|refine nl ?_|refine bk ?_
  refine TC.range pre [pt b [nS] 22, own 3 nS (Is [])] (fun l rec Dm pend B' => pend = none ∧ ∃ v zs, Done zs ∧ B' = [dfr Dm, pt b [v] 22, own 3 v (Is zs)]) ?_ ?_ (hp := fun c hc => has_lent (by simp [hc]) (h.lent c hc))
  · intro rec l Dm hr
    refine (h.run (α := Value × List Int) l (fun a => [lrc l rec .ready none, dfr Dm, pt b [a.1] 22, own 3 a.1 (Is a.2)]) (·.2) (nS, []) rfl (fun a => by (repeat (first | exact nb0 | refine nb1 ?_)); first | done | fail) ?_).mono ?_
    · rintro ⟨v, zs⟩ x hx
      dsimp only at hx ⊢
      refine Ty.intro env hr has00 fun w1 => ?_
      refine TC.one (v := v) (xs := Is zs) fun hv => ?_
      repeat' first|refine xbeg ?_|refine slii [x] fun v1 => ?_|(refine wo ?_; first|refine oa ?_|refine ld ?_)|refine rg ?_|refine nl ?_|refine bk ?_
      refine api (v := v) (l := zs) (news := [x]) fun v2 => ?_
      refine TO.one (v := v2) (xs := Is (zs ++ [x])) fun hv2 => ?_
      repeat' first|(refine wo ?_; first|refine sr ?_)|refine nl ?_|refine xb ?_
      exact yn ⟨rfl, (v2, zs ++ [x]), rfl, rfl⟩
    · rintro v B ⟨⟨v, zs⟩, hD, rfl⟩
      exact ⟨.ready, none, _, rfl, by decide, rfl, v, zs, hD, rfl⟩
  · rintro l rec Dm pend B' ⟨rfl, v, zs, hD, rfl⟩
    show TX env _ _ _ _ _ _
    repeat' first|(refine wo ?_; first|refine oa ?_|refine ld ?_)|refine sq ?_|refine rg ?_|refine xc ?_|refine nl ?_|refine rt ?_|refine xb ?_
    exact m1 ⟨zs, hD, rfl⟩
theorem Sorted_tr {f : FuncId} {cap : Array Value} {pre : List Ch} {N : Nat} {Done : List Int → Prop} (h : SeqC Tryz.prog f cap pre N Done) (hN : N ≤ 17592186044416) :
    Tr Tryz.prog 99 [.func (.func f) #[] cap] pre [] fun v D => ∃ zs, Done zs ∧ D = [own 3 v (Is (srt zs))] := by
  have hC : Tr Tryz.prog 135 [.func (.func f) #[] cap] pre [] fun v D => ∃ zs, Done zs ∧ D = [own 3 v (Is zs)] := by
    refine Tr.enter env _ Tryz.func135 (by kernel_rfl) rfl Tryz.ntmps135 rfl h.lent fun w0 => ?_
    repeat' first|(refine wo ?_; first|refine oa ?_)|refine sq ?_|refine rg ?_|refine xc ?_|refine nl ?_
    refine ca (AppendSeq_tr h hN) ?_ (hs := Fit.nil) (hp := fun c hc => has_lent (by simp [hc]) (h.lent c hc))
    rintro v _ ⟨zs, hD, rfl⟩
    repeat' first|(refine wo ?_; first|refine oa ?_)|refine xc ?_|refine nl ?_|refine rt ?_
    exact r1 ⟨zs, hD, rfl⟩
  refine Tr.enter env _ Tryz.func99 (by kernel_rfl) rfl Tryz.ntmps99 rfl h.lent fun w0 => ?_
  repeat' first|(refine wo ?_; first|refine oa ?_)|refine sq ?_|refine rg ?_|refine xc ?_|refine nl ?_
  refine ca hC ?_ (hs := Fit.nil) (hp := fun c hc => has_lent (by simp [hc]) (h.lent c hc))
  rintro v _ ⟨zs, hD, rfl⟩
  have hl := h.done zs hD
  repeat' first|(refine wo ?_; first|refine oa ?_)|refine sq ?_|refine rg ?_|refine xc ?_|refine nl ?_
  refine ca (Sort_tr v zs (by omega)) ?_
  rintro _ _ ⟨rfl, rfl⟩
  repeat' first|(refine wo ?_; first|refine oa ?_)|refine sq ?_|refine rg ?_|refine xc ?_|refine nl ?_|refine rt ?_
  exact r1 ⟨zs, hD, rfl⟩
end Go.Art
set_option linter.unusedSimpArgs false
set_option linter.unusedVariables false
namespace Go.Art
open Go Go.Proofs Go.RowKit

abbrev c64 (n : Int) : BitVec 64 := BitVec.ofInt 64 n
abbrev bshr (p : BitVec 64) (k : Int) : BitVec 64 := p >>> k.toNat
def gold : BitVec 64 := c64 11400714819323198485
def stir1 (z : BitVec 64) : BitVec 64 := (z ^^^ bshr z 30) * c64 13787848793156543929
def stir2 (z : BitVec 64) : BitVec 64 := (z ^^^ bshr z 27) * c64 10723151780598845931
def stir3 (z : BitVec 64) : BitVec 64 := z ^^^ bshr z 31
def stir (x : BitVec 64) : BitVec 64 := stir3 (stir2 (stir1 (x + gold)))

def lim (n : Nat) : Nat := 18446744073709551615 - 18446744073709551616 % n
def ginv : BitVec 64 := c64 17428512612931826493
theorem gold_ginv : gold * ginv = 1#64 := by decide +kernel
theorem stir_neg : stir (-gold) = 0#64 := by decide +kernel
def farG (g gi st : BitVec 64) : Nat := ((-g - st) * gi).toNat
theorem farG_step (g gi st : BitVec 64) (hg : g * gi = 1#64) (h : farG g gi st ≠ 0) : farG g gi (st + g) < farG g gi st := by
  have e1 : -g - (st + g) = (-g - st) + -g := by
    simp only [BitVec.sub_eq_add_neg, BitVec.neg_add]
    rw [BitVec.add_assoc]
  have e : (-g - (st + g)) * gi = (-g - st) * gi - 1#64 := by
    rw [e1, BitVec.add_mul, BitVec.neg_mul, hg]
    exact (BitVec.sub_eq_add_neg _ _).symm
  unfold farG at *
  rw [e, BitVec.toNat_sub]
  have := ((-g - st) * gi).isLt
  have h1 : (1#64).toNat = 1 := rfl
  omega
theorem farG_zero (g gi st : BitVec 64) (hg : g * gi = 1#64) (h : farG g gi st = 0) : st = -g := by
  unfold farG at h
  have h0 : (-g - st) * gi = 0#64 := BitVec.eq_of_toNat_eq (by simpa using h)
  have h1 : (-g - st) * gi * g = 0#64 * g := by rw [h0]
  rw [BitVec.mul_assoc, BitVec.mul_comm gi g, hg, BitVec.mul_one, BitVec.zero_mul] at h1
  have h2 : -g - st + st = 0#64 + st := by rw [h1]
  rw [BitVec.sub_add_cancel, BitVec.zero_add] at h2
  exact h2.symm
def far (st : BitVec 64) : Nat := farG gold ginv st
theorem far_step (st : BitVec 64) (h : far st ≠ 0) : far (st + gold) < far st := farG_step gold ginv st gold_ginv h
theorem far_zero (st : BitVec 64) (h : far st = 0) : st = -gold := farG_zero gold ginv st gold_ginv h
theorem far_stop (st : BitVec 64) (n : Nat) (h : ¬ (stir st).toNat ≤ lim n) : far st ≠ 0 := fun e => by
  rw [far_zero st e, stir_neg] at h
  exact h (Nat.zero_le _)

theorem c64_toNat {n : Int} (h : 0 ≤ n ∧ n < 18446744073709551616) : (c64 n).toNat = n.toNat := by rw [BitVec.toNat_ofInt]; omega
theorem c64_ne {n : Int} (h : 1 ≤ n ∧ n < 18446744073709551616) : c64 n ≠ 0#64 := fun e => by
  have := congrArg BitVec.toNat e
  rw [c64_toNat (by omega)] at this
  have h0 : (0#64).toNat = 0 := rfl
  omega

theorem over_toNat {n : Int} (h : 1 ≤ n ∧ n ≤ 1099511627776) : (-(c64 n) % c64 n).toNat = 18446744073709551616 % n.toNat := by
  rw [BitVec.toNat_umod, BitVec.toNat_neg, c64_toNat (by omega)]
  have h1 : (2 ^ 64 - n.toNat) % 2 ^ 64 = 18446744073709551616 - n.toNat := by omega
  rw [h1]
  have h2 : 18446744073709551616 = (18446744073709551616 - n.toNat) + n.toNat := by omega
  conv => rhs; rw [h2, Nat.add_mod_right]
theorem lim_toNat {n : Int} (h : 1 ≤ n ∧ n ≤ 1099511627776) : (c64 18446744073709551615 - (-(c64 n) % c64 n)).toNat = lim n.toNat := by
  have h1 := over_toNat h
  have h2 := Nat.mod_lt 18446744073709551616 (show 0 < n.toNat by omega)
  rw [BitVec.toNat_sub, h1, c64_toNat (by omega)]
  unfold lim
  omega


def saccN (n : Nat) : Nat → BitVec 64 → BitVec 64
  | 0, st => st
  | f + 1, st => if (stir st).toNat ≤ lim n then st else saccN n f (st + gold)
theorem saccN_yes {n f : Nat} {st : BitVec 64} (h : (stir st).toNat ≤ lim n) : saccN n (f + 1) st = st := by unfold saccN; exact if_pos h
theorem saccN_no {n f : Nat} {st : BitVec 64} (h : ¬ (stir st).toNat ≤ lim n) : saccN n (f + 1) st = saccN n f (st + gold) := by
  show (if (stir st).toNat ≤ lim n then st else saccN n f (st + gold)) = saccN n f (st + gold)
  exact if_neg h
theorem saccN_more (n : Nat) (f : Nat) : ∀ (g : Nat) (st : BitVec 64), far st < f → far st < g → saccN n f st = saccN n g st := by
  induction f with
  | zero => intro g st h; exact absurd h (Nat.not_lt_zero _)
  | succ f ih =>
    intro g st h1 h2
    cases g with
    | zero => exact absurd h2 (Nat.not_lt_zero _)
    | succ g =>
      by_cases h : (stir st).toNat ≤ lim n
      · rw [saccN_yes h, saccN_yes h]
      · rw [saccN_no h, saccN_no h]
        have := far_step st (far_stop st n h)
        exact ih g _ (by omega) (by omega)
def sacc (n : Nat) (st : BitVec 64) : BitVec 64 := saccN n (far st + 1) st
theorem sacc_yes {n : Nat} {st : BitVec 64} (h : (stir st).toNat ≤ lim n) : sacc n st = st := saccN_yes h
theorem sacc_no {n : Nat} {st : BitVec 64} (h : ¬ (stir st).toNat ≤ lim n) : sacc n st = sacc n (st + gold) := by
  have := far_step st (far_stop st n h)
  unfold sacc
  rw [saccN_no h]
  exact saccN_more n _ _ _ (by omega) (by omega)
def sdraw (n : Nat) (st : BitVec 64) : Nat × BitVec 64 := ((stir (sacc n st)).toNat % n, sacc n st + gold)
theorem sdraw_lt {n : Nat} (h : 0 < n) (st : BitVec 64) : (sdraw n st).1 < n := Nat.mod_lt _ h
def seedOf (seed block id : BitVec 64) : BitVec 64 := stir (stir (stir seed + block) + id)

section
variable {P : Program} {E : Env P} {n : Sh} {X : Cx} {s : List K} {fr : Fr} {A A' G : List Ch} {ops : Array Oper} {rest : List Oper} {d : Nat} {ty t t' : TypeId} {pos : String} {after : Array Edge} {x y : Operand} {p q : BitVec 64}
theorem uad (k : TO E n X s ops rest ((d, U (p + q)) :: fr) A) (hx : ev fr x = some (U p) := by first | rfl | exact evU_const (by decide)) (hy : ev fr y = some (U q) := by first | rfl | exact evU_const (by decide)) (hd : Nat.blt d n.n = true := by rfl) :
    TO E n X s ops (⟨some d, .binOp .add t x y t', ty, pos, after, none⟩ :: rest) fr A := TO.val (fun _ _ => R_uadd hx hy) k hd
theorem usb (k : TO E n X s ops rest ((d, U (p - q)) :: fr) A) (hx : ev fr x = some (U p) := by first | rfl | exact evU_const (by decide)) (hy : ev fr y = some (U q) := by first | rfl | exact evU_const (by decide)) (hd : Nat.blt d n.n = true := by rfl) :
    TO E n X s ops (⟨some d, .binOp .sub t x y t', ty, pos, after, none⟩ :: rest) fr A := TO.val (fun _ _ => R_usub hx hy) k hd
theorem uml (k : TO E n X s ops rest ((d, U (p * q)) :: fr) A) (hx : ev fr x = some (U p) := by first | rfl | exact evU_const (by decide)) (hy : ev fr y = some (U q) := by first | rfl | exact evU_const (by decide)) (hd : Nat.blt d n.n = true := by rfl) :
    TO E n X s ops (⟨some d, .binOp .mul t x y t', ty, pos, after, none⟩ :: rest) fr A := TO.val (fun _ _ => R_umul hx hy) k hd
theorem uxr (k : TO E n X s ops rest ((d, U (p ^^^ q)) :: fr) A) (hx : ev fr x = some (U p) := by first | rfl | exact evU_const (by decide)) (hy : ev fr y = some (U q) := by first | rfl | exact evU_const (by decide)) (hd : Nat.blt d n.n = true := by rfl) :
    TO E n X s ops (⟨some d, .binOp .xor t x y t', ty, pos, after, none⟩ :: rest) fr A := TO.val (fun _ _ => R_uxor hx hy) k hd
theorem urm (k : TO E n X s ops rest ((d, U (p % q)) :: fr) A) (h : q ≠ 0#64 := by assumption) (hx : ev fr x = some (U p) := by first | rfl | exact evU_const (by decide)) (hy : ev fr y = some (U q) := by first | rfl | exact evU_const (by decide)) (hd : Nat.blt d n.n = true := by rfl) :
    TO E n X s ops (⟨some d, .binOp .rem t x y t', ty, pos, after, none⟩ :: rest) fr A := TO.val (fun _ _ => R_urem hx hy h) k hd
theorem ulq (k : TO E n X s ops rest ((d, .bool (decide (p.toNat ≤ q.toNat))) :: fr) A) (hx : ev fr x = some (U p) := by first | rfl | exact evU_const (by decide)) (hy : ev fr y = some (U q) := by first | rfl | exact evU_const (by decide)) (hd : Nat.blt d n.n = true := by rfl) :
    TO E n X s ops (⟨some d, .binOp .leq t x y t', ty, pos, after, none⟩ :: rest) fr A := TO.val (fun _ _ => R_uleq hx hy) k hd
theorem ush {k' : IntKind} {z : Int} (k : TO E n X s ops rest ((d, U (p >>> z.toNat)) :: fr) A) (hx : ev fr x = some (U p) := by rfl) (hy : ev fr y = some (.int k' z) := by rfl) (hz : 0 ≤ z ∧ z ≤ 64 := by omega) (hd : Nat.blt d n.n = true := by rfl) :
    TO E n X s ops (⟨some d, .binOp .shr t x y t', ty, pos, after, none⟩ :: rest) fr A := TO.val (fun _ _ => R_ushr hx hy hz) k hd
theorem ung (k : TO E n X s ops rest ((d, U (-p)) :: fr) A) (hx : ev fr x = some (U p) := by rfl) (hd : Nat.blt d n.n = true := by rfl) : TO E n X s ops (⟨some d, .unOp .neg t x, ty, pos, after, none⟩ :: rest) fr A := TO.val (fun _ _ => R_uneg hx) k hd
theorem uto {m : Int} (k : TO E n X s ops rest ((d, U (c64 m)) :: fr) A) (hx : ev fr x = some (I m) := by rfl) (ht : lk E.und t' = some (.int .u64) := by rfl) (hs : (lk E.und t).isSome = true := by rfl) (hd : Nat.blt d n.n = true := by rfl) : TO E n X s ops (⟨some d, .convert t t' x, ty, pos, after, none⟩ :: rest) fr A := TO.val (fun _ _ => R_toU ht hs hx) k hd
theorem ife {ms : Array (String × TypeId)} {tt : TypeId} {v : Value} (k : TO E n X s ops rest ((d, .bool false) :: fr) A) (hx : ev fr x = some (.iface tt v) := by rfl) (ht : lk E.und t = some (.interface ms) := by rfl) (hd : Nat.blt d n.n = true := by rfl) :
    TO E n X s ops (⟨some d, .binOp .eql t x (.const .nilIface) t', ty, pos, after, none⟩ :: rest) fr A := TO.val (fun _ _ => R_ifEqNil ht hx) k hd
theorem onep_nil : ∀ p ∈ ([] : List (Nat × Value)), p.2.oneCell' = true := fun _ h => nomatch h
theorem onep_cons {p0 : Nat × Value} {l : List (Nat × Value)} (h : p0.2.oneCell' = true) (k : ∀ p ∈ l, p.2.oneCell' = true) : ∀ p ∈ p0 :: l, p.2.oneCell' = true := fun x hx => by
  rcases List.mem_cons.1 hx with rfl | hx
  · exact h
  · exact k x hx
theorem bdz {sz by_ : Nat} {cs : List Value} {fl : List Field} {zs : List Value} {pl : List (Nat × Nat)} {parts : List (Nat × Operand)} {ps : List (Nat × Value)} (k : TO E n X s ops rest ((d, .agg cs.toArray) :: fr) A) (hv : evps fr parts = some ps := by rfl)
    (h1 : ∀ p ∈ ps, p.2.oneCell' = true := by (repeat (first | exact onep_nil | refine onep_cons (by first | rfl | assumption) ?_)); first | done | fail) (ht : lk E.und t = some (.struct fl.toArray) := by rfl) (he : lk E.inf t = some (.agg zs.toArray, sz, by_) := by rfl)
    (hpl : places E.inf fl = some pl := by rfl) (hs : setParts1 pl zs ps = some cs := by rfl) (hd : Nat.blt d n.n = true := by rfl) : TO E n X s ops (⟨some d, .build t parts.toArray, ty, pos, after, none⟩ :: rest) fr A := bdc h1 k hv ht he hpl hs hd
theorem civ {f : FuncId} {r : Operand} {nm : String} {args : List Operand} {ats : Array TypeId} {vs : List Value} {pre B F : List Ch} {R : Value → List Ch → Prop} {tt : TypeId} {x0 rv : Value} (hf : Tr P f (rv :: vs) pre B R) (k : ∀ v D, R v D → TO E n X s ops rest ((d, v) :: fr) (D ++ F))
    (hm : ∀ w : World, (method (P.types.size + Made.depth) tt x0 nm).run P w = .ok (f, rv) w) (hr : ev fr r = some (.iface tt x0) := by rfl) (hv : evs fr args = some vs := by rfl) (hs : Fit A B F := by first | apply Fit.all | ((repeat (first | (apply Fit.nilN; (repeat (first | apply nrm_nil | apply nrm_cons)); try apply nrm_rfl) | (apply Fit.cons; focus ((repeat (first | apply Tk.here | apply Tk.there)); first | done | fail)))); first | done | fail))
    (hp : ∀ c ∈ pre, Has F c := by (repeat (first | exact has0 | refine has1 (by first | (apply has_vw; (repeat (first | apply List.Mem.head | apply List.Mem.tail)); first | done | fail) | (apply has_own; (repeat (first | apply List.Mem.head | apply List.Mem.tail)); first | done | fail) | (apply has_ro; (repeat (first | apply List.Mem.head | apply List.Mem.tail)); first | done | fail) | apply has_nil | ((with_reducible apply has_el); (focus (first | (apply has_vels; (repeat (first | apply List.Mem.head | apply List.Mem.tail)); first | done | fail) | (apply has_rels; (repeat (first | apply List.Mem.head | apply List.Mem.tail)); first | done | fail))); omega) | (apply has_pt; (repeat (first | apply List.Mem.head | apply List.Mem.tail)); first | done | fail) | (apply has_lpt; (repeat (first | apply List.Mem.head | apply List.Mem.tail)); first | done | fail) | (apply has_vels; (repeat (first | apply List.Mem.head | apply List.Mem.tail)); first | done | fail) | (apply has_rels; (repeat (first | apply List.Mem.head | apply List.Mem.tail)); first | done | fail) | with_reducible assumption | ((with_reducible apply has_elg); (focus (first | (apply has_velg; (repeat (first | apply List.Mem.head | apply List.Mem.tail)); first | done | fail) | (apply has_relg; (repeat (first | apply List.Mem.head | apply List.Mem.tail)); first | done | fail))); omega) | (apply has_velg; (repeat (first | apply List.Mem.head | apply List.Mem.tail)); first | done | fail) | (apply has_relg; (repeat (first | apply List.Mem.head | apply List.Mem.tail)); first | done | fail) | (apply has_vwf; (repeat (first | apply List.Mem.head | apply List.Mem.tail)); first | done | fail) | (apply has_oww; (repeat (first | apply List.Mem.head | apply List.Mem.tail)); first | done | fail)) ?_)); first | done | fail) (hd : Nat.blt d n.n = true := by rfl) : TO E n X s ops (⟨some d, .call ⟨.invoke r nm, args.toArray, ats⟩, ty, pos, after, none⟩ :: rest) fr A :=
  ⟨fun w hw => SO_invoke hr hv (hm w) hd (hf.at hs hp hw) fun v w' ⟨D, hR, hS⟩ => (k v D hR).run w' hS⟩
theorem mct {w0 : World} {A0 D : List Ch} {cl : List Value} {T ct : TypeId} {dt : TypeDesc} {R' : Value → List Ch → Prop} {fn : Func} {t1 t2 nn Dm b : Nat} {v1 v2 : Value} (h : R' (.tuple #[v1, v2]) D) (hr : fn.results = #[.cell t1 ct, .tmp t2] := by rfl) (ht : lk E.und ct = some dt := by rfl) (hg : aggB dt = false := by rfl)
    (hv : get fr t1 = some (ptr b) := by rfl) (hv2 : get fr t2 = some v2 := by rfl) (hm : Tk (dfr Dm) A A' := by (repeat (first | apply Tk.here | apply Tk.there)); first | done | fail) (hc : pt b (v1 :: cl) T ∈ A' := by (repeat (first | apply List.Mem.head | apply List.Mem.tail)); first | done | fail) (hf : Fit A' D G := by first | apply Fit.all | ((repeat (first | (apply Fit.nilN; (repeat (first | apply nrm_nil | apply nrm_cons)); try apply nrm_rfl) | (apply Fit.cons; focus ((repeat (first | apply Tk.here | apply Tk.there)); first | done | fail)))); first | done | fail)) (nb : ∀ c ∈ D, ∀ b, ¬ c.bd b := by (repeat (first | exact nb0 | refine nb1 ?_)); first | done | fail) :
    TX E ⟨nn, [mark Dm], none⟩ ⟨bodyPostM (FF none) 0 P fn (RetP (PR w0 A0 R')), w0, A0⟩ [] .ret fr A := ⟨fun w hw =>
  SX_retM rfl ((hw.im hm).mem (List.Mem.head _)) fun a ha w' hU => ⟨.tuple #[v1, v2], res_ct (E := E) ha hr ht hg hv (by
    have h1 := hw.im hm
    have h2 : St ⟨bodyPostM (FF none) 0 P fn (RetP (PR w0 A0 R')), w0, A0⟩ A' w' := h1.step (A := [dfr Dm]) (B := []) (F := A') (Mv.upd hU (fun b hb => .inl (wrs_one.2 (List.mem_singleton.1 hb))) (fun b hb => absurd hb wrs_nil) (fun b hb => absurd hb rds_nil)) (Sat.nil _) (by simp)
    exact blk_cell (h2.mem hc) rfl) hv2, PR.mkM h hw hm hf nb hU⟩⟩
end
theorem fit_mid (B : List Ch) (a l : Ch) : Fit (B ++ [a, l]) (B ++ [a]) [l] := by
  refine Im.perm ?_
  rw [show B ++ [a, l] = (B ++ [a]) ++ [l] by simp]
attribute [local irreducible] Fit pt own ro vw mpc lpt vels rels mow lrc dfr

abbrev TLo : TypeId := 95
theorem Stir_tr (x : BitVec 64) : Tr Tryz.prog 69 [U x] [] [] fun v D => v = U (stir x) ∧ D = [] := by
  refine Tr.enter env _ Tryz.func69 (by kernel_rfl) rfl Tryz.ntmps69 rfl (by repeat (first | exact has00 | refine has01 ?_)) fun w0 => ?_
  repeat' first|refine uad ?_|refine uml ?_|refine uxr ?_|refine ush ?_|(refine wo ?_; first|refine oa ?_)|refine sq ?_|refine rg ?_|refine xc ?_|refine nl ?_|refine rt ?_
  exact r1 ⟨rfl, rfl⟩
abbrev TSd : TypeId := 105
abbrev TpS : TypeId := 102
abbrev lotP (b r : Nat) (st : BitVec 64) (used : Int) (br : Bool) : List Ch := [pt b [.iface TpS (ptr r), I used, .bool br] TLo, pt r [U st] TSd]
theorem words_tr (r : Nat) : Tr Tryz.prog 215 [ptr r] [] [] fun v D => ∃ c, v = .func (.func 216) #[] #[ptr c] ∧ D = [pt c [ptr r] TpS] := by
  refine Tr.enter env _ Tryz.func215 (by kernel_rfl) rfl Tryz.ntmps215 rfl (by repeat (first | exact has00 | refine has01 ?_)) fun w0 => ?_
  repeat' first|refine bx1 fun c => ?_|(refine wo ?_; first|refine oa ?_)|refine sq ?_|refine rg ?_|refine xc ?_|refine nl ?_|refine rt ?_
  exact r1 ⟨c, rfl, rfl⟩
theorem words1_tr (c r l m : Nat) (st : BitVec 64) (J : List Ch) (R : BitVec 64 → List Ch → Prop)
    (hy : ∀ w, ¬ w.toNat ≤ lim m → Ty Tryz.prog l [U w] [] J fun ok B => ok = true ∧ B = J) (hz : ∀ w, w.toNat ≤ lim m → Ty Tryz.prog l [U w] [] J fun ok B => ok = false ∧ R w B ∧ ∀ c ∈ B, ∀ b, ¬ c.bd b) :
    Tr Tryz.prog 216 [yv l, ptr c] [lpt c [ptr r] TpS] (J ++ [pt r [U st] TSd]) fun _ B => ∃ B', R (stir (sacc m st)) B' ∧ B = B' ++ [pt r [U (sacc m st + gold)] TSd] := by
  refine Tr.enter env _ Tryz.func216 (by kernel_rfl) rfl Tryz.ntmps216 rfl (by repeat (first | exact has00 | refine has01 ?_)) fun w0 => ?_
  refine TC.im (B := pt r [U st] TSd :: lpt c [ptr r] TpS :: J) (Im.perm (show (lpt c [ptr r] TpS :: (J ++ [pt r [U st] TSd])).Perm (pt r [U st] TSd :: lpt c [ptr r] TpS :: J) from (List.Perm.cons _ (List.perm_append_comm (l₁ := J) (l₂ := [pt r [U st] TSd]))).trans (List.Perm.swap _ _ _))) ?_
  repeat' first|refine bk ?_
  refine TC.loop (ι := BitVec 64) (fun _ => []) (fun s => pt r [U s] TSd :: lpt c [ptr r] TpS :: J) (fun s => sacc m s = sacc m st) far st [0, 1] rfl ?_ (hf := Fit.all)
  rintro s hs
  have hN : (pt r [U s] TSd :: lpt c [ptr r] TpS :: J) ++ [] = pt r [U s] TSd :: lpt c [ptr r] TpS :: J := List.append_nil _
  refine TC.im (B := pt r [U s] TSd :: lpt c [ptr r] TpS :: J) (Im.perm (by rw [hN])) ?_
  have hF : ∀ s, Fit (pt r [U s] TSd :: lpt c [ptr r] TpS :: J) J [pt r [U s] TSd, lpt c [ptr r] TpS] := fun s => Fit.app [pt r [U s] TSd, lpt c [ptr r] TpS] J
  repeat' first|(refine gca ?_; first|(refine ca (Stir_tr _) ?_; rintro _ _ ⟨rfl, rfl⟩))|refine uad ?_|(refine wo ?_; first|refine oa ?_|refine ld ?_|refine ldl ?_|refine sr ?_)|refine sq ?_|refine rg ?_|refine xc ?_|refine nl ?_|refine bk ?_
  refine TO.im (B := pt r [U (s + gold)] TSd :: lpt c [ptr r] TpS :: J) (Im.refl _) ?_
  by_cases hw : (stir s).toNat ≤ lim m
  · refine cy (hz (stir s) hw) ?_ (hs := hF _)
    rintro ok B ⟨rfl, hR, hnb⟩
    repeat' first|(refine wo ?_; first|refine oa ?_)|(refine gc ?_; first|refine ct ?_)|refine xc ?_|refine nl ?_|refine rt ?_
    rw [sacc_yes hw] at hs
    refine r0 (D := B ++ [pt r [U (s + gold)] TSd]) (G := [lpt c [ptr r] TpS]) ⟨B, by rw [← hs]; exact hR, by rw [← hs]⟩ (hf := ?_) (nb := ?_)
    · exact fit_mid B _ _
    · intro x hx b hb
      rcases List.mem_append.1 hx with hx | hx
      · exact hnb x hx b hb
      · rw [List.mem_singleton.1 hx] at hb; exact (NoB.nb (c := pt r [U (s + gold)] TSd)) b hb
  · refine cy (hy (stir s) hw) ?_ (hs := hF _)
    rintro ok B ⟨rfl, rfl⟩
    repeat' first|(refine wo ?_; first|refine oa ?_)|(refine gc ?_; first|refine cf ?_)|refine xc ?_|refine nl ?_|refine sk ?_|refine xb ?_
    rw [sacc_no hw] at hs
    refine lp (s + gold) hs (G := []) (hf := ?_) (hlt := far_step s (far_stop s m hw))
    rw [List.append_nil]
    exact Fit.comm [pt r [U (s + gold)] TSd, lpt c [ptr r] TpS] _
theorem seedDraw_tr (r : Nat) (st : BitVec 64) (n : Int) (hn : 1 ≤ n ∧ n ≤ 1099511627776) : Tr Tryz.prog 214 [ptr r, I n] [] [pt r [U st] TSd]
    fun v D => v = tup2 (I (sdraw n.toNat st).1) (.bool true) ∧ D = [pt r [U (sdraw n.toNat st).2] TSd] := by
  have hnz := c64_ne (n := n) (by omega)
  have hlim := lim_toNat hn
  refine Tr.enterM env _ Tryz.func214 (by kernel_rfl) rfl Tryz.ntmps214 rfl (by repeat (first | exact has00 | refine has01 ?_)) fun w0 => ?_
  repeat' first|(refine gca ?_; first|(refine ca (words_tr r) ?_; rintro _ _ ⟨c, rfl, rfl⟩))|refine uto ?_|refine ung ?_|refine urm ?_|refine bx1 fun bn => ?_|refine al fun bo => ?_|(refine wo ?_; first|refine oa ?_|refine ld ?_|refine sr ?_)|refine sq ?_|refine rg ?_|refine xc ?_|refine nl ?_|refine bk ?_
  rename_i bx
  refine TC.range [lpt c [ptr r] TpS] [pt bo [U (-c64 n % c64 n)] 45, pt bx [I 0] 3, pt bn [I n] 3, pt r [U st] TSd]
    (fun l rec Dm pend B' => pend = some (.exit 0) ∧ B' = [dfr Dm, pt bo [U (-c64 n % c64 n)] 45, pt bx [I (((stir (sacc n.toNat st)).toNat : Int) % n)] 3, pt bn [I n] 3, pt r [U (sdraw n.toNat st).2] TSd]) ?_ ?_
  · intro rec l Dm hr
    refine (words1_tr c r l n.toNat st [lrc l rec .ready none, dfr Dm, pt bo [U (-c64 n % c64 n)] 45, pt bx [I 0] 3, pt bn [I n] 3]
      (fun w B => B = [lrc l rec .done (some (.exit 0)), dfr Dm, pt bo [U (-c64 n % c64 n)] 45, pt bx [I ((w.toNat : Int) % n)] 3, pt bn [I n] 3]) ?_ ?_).mono ?_
    · intro w hw
      have hw' : ¬ w.toNat ≤ (BitVec.ofInt 64 18446744073709551615 - -c64 n % c64 n).toNat := fun h => hw (by have e := hlim; rw [← e]; exact h)
      refine Ty.intro env hr has00 fun w1 => ?_
      repeat' first|refine xbeg ?_|refine usb ?_|refine ulq ?_|(refine wo ?_; first|refine oa ?_|refine ld ?_)|(refine gc ?_; first|(refine ci (fun hB => ?_) (fun hB => ?_) <;> try (exfalso; omega)))|refine sq ?_|refine rg ?_|refine xc ?_|refine nl ?_|refine sk ?_|refine bk ?_|refine xb ?_
      exact yn ⟨rfl, rfl⟩
    · intro w hw
      have hw' : w.toNat ≤ (BitVec.ofInt 64 18446744073709551615 - -c64 n % c64 n).toNat := by have e := hlim; rw [← e] at hw; exact hw
      have hm1 := Int.emod_nonneg (w.toNat : Int) (show n ≠ 0 by omega)
      have hm2 := Int.emod_lt_of_pos (w.toNat : Int) (show 0 < n by omega)
      refine Ty.intro env hr has00 fun w1 => ?_
      repeat' first|refine xbeg ?_|refine usb ?_|refine ulq ?_|(refine wo ?_; first|(refine ao ?_; first|refine umod ?_)|refine acw ?_|refine ucv ?_|refine oa ?_|refine ld ?_|refine sr ?_)|(refine gc ?_; first|(refine ci (fun hB => ?_) (fun hB => ?_) <;> try (exfalso; omega)))|refine sq ?_|refine rg ?_|refine xc ?_|refine nl ?_|refine bk ?_
      refine xo ?_
      refine ye ⟨rfl, rfl, ?_⟩
      (repeat (first | exact nb0 | refine nb1 ?_))
    · rintro v B ⟨B', rfl, rfl⟩
      exact ⟨.done, _, _, rfl, by decide, rfl, rfl⟩
  · rintro l rec Dm pend B' ⟨rfl, rfl⟩
    show TC env _ _ _ _ _ _
    repeat' first|(refine wo ?_; first|refine oa ?_|refine ld ?_|refine sr ?_)|refine sq ?_|refine rg ?_|refine xc ?_|refine nl ?_|refine xe ?_|refine rt ?_
    have hv : ((sdraw n.toNat st).1 : Int) = ((stir (sacc n.toNat st)).toNat : Int) % n := by
      show (((stir (sacc n.toNat st)).toNat % n.toNat : Nat) : Int) = _
      rw [Int.natCast_emod, Int.toNat_of_nonneg (by omega)]
    exact mct (b := bx) (cl := []) (T := 3) ⟨by rw [hv], rfl⟩
def ldraw (n : Int) (st : BitVec 64) (used : Int) : (Int × Int) × (BitVec 64 × Int) := if 1 ≤ n ∧ n ≤ 1099511627776 then ((((sdraw n.toNat st).1 : Int), 0), ((sdraw n.toNat st).2, used + 1)) else ((0, 3), (st, used))
theorem none_tr (b r : Nat) (st : BitVec 64) (used : Int) (br : Bool) : Tr Tryz.prog 71 [ptr b] [lpt b [.iface TpS (ptr r), I used, .bool br] TLo] [] fun v D => v = .bool false ∧ D = [] := by
  refine Tr.enter env _ Tryz.func71 (by kernel_rfl) rfl Tryz.ntmps71 rfl (by repeat (first | exact has00 | refine has01 ?_)) fun w0 => ?_
  repeat' first|refine ife ?_|refine ifn ?_|(refine wo ?_; first|(refine ao ?_; first|refine ipe ?_)|refine oa ?_|refine ldl ?_|refine gy ?_)|refine sq ?_|refine rg ?_|refine xc ?_|refine nl ?_|refine rt ?_
  exact r1 ⟨rfl, rfl⟩
theorem method_seeded (a : Addr) (w : World) : (method (Tryz.prog.types.size + Made.depth) 102 (.pointer (some a)) "artesian/lots.draw").run Tryz.prog w = .ok (214, .pointer (some a)) w := by kernel_rfl
theorem Draw_tr (b r : Nat) (st : BitVec 64) (used n : Int) (hu : 0 ≤ used ∧ used ≤ 4611686018427387904) : Tr Tryz.prog 96 [ptr b, I n] [] (lotP b r st used false)
    fun v D => v = tup2 (I (ldraw n st used).1.1) (I (ldraw n st used).1.2) ∧ D = lotP b r (ldraw n st used).2.1 (ldraw n st used).2.2 false := by
  have hl1 : ¬ (1 ≤ n ∧ n ≤ 1099511627776) → ldraw n st used = ((0, 3), (st, used)) := fun h => if_neg h
  refine Tr.enter env _ Tryz.func96 (by kernel_rfl) rfl Tryz.ntmps96 rfl (by repeat (first | exact has00 | refine has01 ?_)) fun w0 => ?_
  repeat' first|(refine gca ?_; first|(refine ca (none_tr b r st used false) ?_; rintro _ _ ⟨rfl, rfl⟩))|(refine wo ?_; first|(refine ao ?_; first|refine oa ?_)|refine oa ?_|refine ld ?_|refine gy ?_|refine gn ?_|(refine gsi (fun hB => ?_) (fun hB => ?_) <;> try (exfalso; omega)))|(refine gc ?_; first|refine ct ?_|refine cf ?_|(refine ci (fun hB => ?_) (fun hB => ?_) <;> try (exfalso; omega)))|refine sq ?_|refine rg ?_|refine xc ?_|refine nl ?_|refine sk ?_|refine bk ?_|refine rt ?_|refine xb ?_
  · rw [hl1 (by omega)]; exact r2 ⟨rfl, rfl⟩
  · rw [hl1 (by omega)]; exact r2 ⟨rfl, rfl⟩
  have hn : 1 ≤ n ∧ n ≤ 1099511627776 := by omega
  rw [show ldraw n st used = ((((sdraw n.toNat st).1 : Int), 0), ((sdraw n.toNat st).2, used + 1)) from if_pos hn]
  refine civ (seedDraw_tr r st n hn) ?_ (method_seeded _)
  rintro _ _ ⟨rfl, rfl⟩
  repeat' first|(refine wo ?_; first|(refine ao ?_; first|refine aw ?_)|refine oa ?_|refine ld ?_|refine sr ?_)|(refine gc ?_; first|refine cf ?_)|refine sq ?_|refine rg ?_|refine xc ?_|refine nl ?_|refine sk ?_|refine rt ?_
  exact r2 ⟨rfl, rfl⟩
end Go.Art
set_option linter.unusedSimpArgs false
set_option linter.unusedVariables false
namespace Go.Art
open Go Go.Proofs Go.RowKit

def upto (k : Nat) : List Int := (List.range k).map (fun i : Nat => (i : Int))
theorem upto_length (k : Nat) : (upto k).length = k := by simp [upto]
theorem upto_get (k i : Nat) (h : i < k) : (upto k).getD i 0 = i := by simp [upto, List.getD_eq_getElem?_getD, h]
def swp (l : List Int) (i j : Nat) : List Int := (l.set j (l.getD i 0)).set i (l.getD j 0)
theorem swp_length (l : List Int) (i j : Nat) : (swp l i j).length = l.length := by simp [swp]
theorem swp_get (l : List Int) {i j : Nat} (t : Nat) (hi : i < l.length) (hj : j < l.length) : (swp l i j).getD t 0 = if t = i then l.getD j 0 else if t = j then l.getD i 0 else l.getD t 0 := by
  simp only [swp, List.getD_eq_getElem?_getD, List.getElem?_set, List.length_set]
  by_cases h1 : t = i
  · subst h1; simp [hi]
  · by_cases h2 : t = j
    · subst h2; simp [Ne.symm h1, h1, hj]
    · simp [Ne.symm h1, Ne.symm h2, h1, h2]


def ordL (k : Nat) : Nat → Nat → List Int → BitVec 64 → List Int × BitVec 64
  | 0, _, _, st => ([], st)
  | m + 1, i, l, st => (l.getD (i + (sdraw (k - i) st).1) 0 :: (ordL k m (i + 1) (swp l i (i + (sdraw (k - i) st).1)) (sdraw (k - i) st).2).1, (ordL k m (i + 1) (swp l i (i + (sdraw (k - i) st).1)) (sdraw (k - i) st).2).2)
def Sized (k d : Int) : Prop := 1 ≤ k ∧ k ≤ 65536 ∧ 1 ≤ d ∧ d ≤ k
instance (k d : Int) : Decidable (Sized k d) := by unfold Sized; infer_instance
def ordR (k d : Int) (st : BitVec 64) : (List Int × Int) × (BitVec 64 × Int) := if Sized k d then (((ordL k.toNat d.toNat 0 (upto k.toNat) st).1, 0), ((ordL k.toNat d.toNat 0 (upto k.toNat) st).2, d)) else (([], 3), (st, 0))

def mps (b : Nat) (f : Int → Option Value) (k : Int) (st : Nat) : Ch where
  wr := fun x => x = b
  rd := fun _ => False
  bd := fun _ => False
  P := fun w => MapS w b f k st
  loc := fun {w w'} h hb => by obtain ⟨es, c, h1, h2⟩ := h.ex; exact ⟨es, c, (hb b (.inl rfl)).trans h1, h2⟩
  lt := fun h hb => by rcases hb with rfl | hb | hb; (obtain ⟨es, c, h1, h2⟩ := h.ex; exact lt_of_heap h1); exact hb.elim; exact hb.elim
section
variable {P : Program} {E : Env P} {n : Sh} {X : Cx} {s : List K} {fr : Fr} {A A' : List Ch} {ops : Array Oper} {rest : List Oper} {d : Nat} {ty t kt et : TypeId} {pos : String} {after : Array Edge} {x y u : Operand} {b sz by_ st : Nat} {f : Int → Option Value} {k : Int} {v z : Value}
theorem mpe (kk : ∀ st : Nat, TO E n X s ops rest ((d, .tuple #[(f k).getD z, I st]) :: fr) (mps b (updF f k ((f k).getD z)) k st :: A')) (hx : ev fr x = some (mp b) := by rfl) (hm : Tk (mpc b f) A A' := by (repeat (first | apply Tk.here | apply Tk.there)); first | done | fail) (hy : ev fr y = some (I k) := by rfl)
    (ht : lk E.und t = some (.map kt et) := by rfl) (hk : lk E.und kt = some dI := by rfl) (he : lk E.inf et = some (z, sz, by_) := by rfl) (hd : Nat.blt d n.n = true := by rfl) : TO E n X s ops (⟨some d, .mapEntry t x y, ty, pos, after, none⟩ :: rest) fr A := ⟨fun w hw => by
  have h1 := hw.im hm
  exact SO_mapEntry hd ht hk he hx hy (h1.mem (List.Mem.head _)) fun w' st hU hM => (kk st).run w' (h1.set (d := mps b (updF f k ((f k).getD z)) k st) hU (fun x hb => .inl (List.mem_singleton.1 hb)) hM (by rintro x (rfl | h | h); exact .inl rfl; exact h.elim; exact h.elim) (fun _ h => h))⟩
theorem mes (kk : TO E n X s ops rest fr (mpc b (updF f k v) :: A')) (hx : ev fr x = some (mp b) := by rfl) (hm : Tk (mps b f k st) A A' := by (repeat (first | apply Tk.here | apply Tk.there)); first | done | fail) (hy : ev fr y = some (I st) := by rfl) (hu : ev fr u = some v := by rfl) : TO E n X s ops (⟨none, .entryStore t x y u, ty, pos, after, none⟩ :: rest) fr A := ⟨fun w hw => by
  have h1 := hw.im hm
  exact SO_entryStore hx hy hu (h1.mem (List.Mem.head _)) fun w' hU hM => kk.run w' (h1.set (d := mpc b (updF f k v)) hU (fun x hb => .inl (List.mem_singleton.1 hb)) hM (by rintro x (rfl | h | h); exact .inl rfl; exact h.elim; exact h.elim) (fun _ h => h))⟩
end
attribute [local irreducible] Fit pt own ro vw mpc lpt vels rels mow lrc dfr
attribute [local irreducible] mps lmp lme mit

theorem sized_tr (k d : Int) : Tr Tryz.prog 132 [I k, I d] [] [] fun v D => v = .bool (decide (Sized k d)) ∧ D = [] := by
  refine Tr.enter env _ Tryz.func132 (by kernel_rfl) rfl Tryz.ntmps132 rfl (by repeat (first | exact has00 | refine has01 ?_)) fun w0 => ?_
  repeat' first|(refine wo ?_; first|(refine ao ?_; first|refine oa ?_)|refine oa ?_|refine gy ?_|refine gn ?_|(refine gsi (fun hB => ?_) (fun hB => ?_) <;> try (exfalso; omega)))|refine sq ?_|refine rg ?_|refine xc ?_|refine nl ?_|refine rt ?_
  all_goals refine r1 ⟨?_, rfl⟩
  all_goals first
    | rw [decide_eq_false (fun h : Sized k d => by unfold Sized at h; omega)]
    | (congr 1; exact decide_eq_decide.2 ⟨fun h => by unfold Sized; omega, fun h => by unfold Sized at h; omega⟩)
theorem updF_twice (f : Int → Option Value) (k : Int) (v v' : Value) : updF (updF f k v) k v' = updF f k v' := by
  funext i; unfold updF; by_cases e : i = k
  · rw [if_pos e, if_pos e]
  · rw [if_neg e, if_neg e, if_neg e]
def PlcF (f : Int → Option Value) (g : Int → Int) : Prop := ∀ i, (f i = none ∧ g i = i) ∨ f i = some (I (g i))
def upg (g : Int → Int) (k v : Int) : Int → Int := fun k' => if k' = k then v else g k'
theorem PlcF.put {f : Int → Option Value} {g : Int → Int} (h : PlcF f g) (k v : Int) : PlcF (updF f k (I v)) (upg g k v) := fun i => by
  unfold updF upg
  by_cases e : i = k
  · rw [if_pos e, if_pos e]; exact .inr rfl
  · rw [if_neg e, if_neg e]; exact h i
theorem at_tr (b : Nat) (f : Int → Option Value) (g : Int → Int) (i : Int) (h : PlcF f g) : Tr Tryz.prog 134 [mp b, I i] [] [mpc b f] fun v D => v = I (g i) ∧ D = [mpc b f] := by
  refine Tr.enter env _ Tryz.func134 (by kernel_rfl) rfl Tryz.ntmps134 rfl (by repeat (first | exact has00 | refine has01 ?_)) fun w0 => ?_
  rcases h i with ⟨h1, h2⟩ | h1
  · repeat' first|refine mlN ?_ h1|(refine wo ?_; first|refine oa ?_)|(refine gc ?_; first|refine cf ?_)|refine sq ?_|refine rg ?_|refine xc ?_|refine nl ?_|refine sk ?_|refine rt ?_
    exact r1 ⟨by rw [h2], rfl⟩
  · repeat' first|refine mlS ?_ h1|(refine wo ?_; first|refine oa ?_)|(refine gc ?_; first|refine ct ?_)|refine sq ?_|refine rg ?_|refine xc ?_|refine nl ?_|refine rt ?_
    exact r1 ⟨rfl, rfl⟩
theorem exchange_tr (b : Nat) (f : Int → Option Value) (g : Int → Int) (i j : Int) (h : PlcF f g) : Tr Tryz.prog 133 [mp b, I i, I j] [] [mpc b f] fun _ D => ∃ f', D = [mpc b f'] ∧ PlcF f' (upg (upg g i (g j)) j (g i)) := by
  refine Tr.enter env _ Tryz.func133 (by kernel_rfl) rfl Tryz.ntmps133 rfl (by repeat (first | exact has00 | refine has01 ?_)) fun w0 => ?_
  repeat' first|(refine gca ?_; first|(refine ca (at_tr b f g _ h) ?_; rintro _ _ ⟨rfl, rfl⟩))|refine mpe fun st => ?_|refine mes ?_|refine mu ?_|(refine wo ?_; first|refine oa ?_)|refine rg ?_|refine nl ?_
  rw [updF_twice]
  exact e0 ⟨_, rfl, (h.put i (g j)).put j (g i)⟩
theorem Values_tr (s : Value) (hs : s.oneCell' = true) : Tr Tryz.prog 100 [s] [] [] fun v D => ∃ c, v = .func (.func 137) #[] #[ptr c] ∧ D = [pt c [s] 22] := by
  refine Tr.enter env _ Tryz.func100 (by kernel_rfl) rfl Tryz.ntmps100 rfl (by repeat (first | exact has00 | refine has01 ?_)) fun w0 => ?_
  repeat' first|refine bx1 fun c => ?_|(refine wo ?_; first|refine oa ?_)|refine sq ?_|refine rg ?_|refine xc ?_|refine nl ?_|refine rt ?_
  exact r1 ⟨c, rfl, rfl⟩
theorem Values1_seq (c : Nat) (s : Value) (xs : List Int) : SeqC Tryz.prog 137 #[ptr c] [lpt c [s] 22, vw s (Is xs)] xs.length (· = xs) := by
  refine ⟨?_, fun zs h => by rw [h]; exact Nat.le_refl _, by (repeat (first | exact has00 | refine has01 ?_)); first | done | fail⟩
  intro α l J el a0 h0 hnb hy
  refine Tr.enter env _ Tryz.func137 (by kernel_rfl) rfl Tryz.ntmps137 rfl (by repeat (first | exact has00 | refine has01 ?_)) fun w0 => ?_
  refine TC.leni (l := xs) fun hxl => ?_
  repeat' first|(refine wo ?_; first|refine oa ?_|refine ldl ?_|refine lnm ?_)|refine sq ?_|refine rg ?_|refine xc ?_|refine nl ?_|refine bk ?_
  refine TC.loop (ι := Nat × α) (fun i => [(7, I i.1)]) (fun i => lpt c [s] 22 :: vw s (Is xs) :: J i.2) (fun i => i.1 ≤ xs.length ∧ el i.2 = xs.take i.1) (fun i => xs.length - i.1) (0, a0) [0, 5, 6] ⟨by simp, by rw [h0]; rfl⟩ ?_ (hf := Fit.all)
  rintro ⟨i, a⟩ ⟨h1, h2⟩
  have hF : Fit (lpt c [s] 22 :: vw s (Is xs) :: J a) (J a) [lpt c [s] 22, vw s (Is xs)] := Fit.app [lpt c [s] 22, vw s (Is xs)] (J a)
  refine TC.im (B := lpt c [s] 22 :: vw s (Is xs) :: J a) (by exact Im.perm (by simp)) ?_
  by_cases hi : i < xs.length
  · have hts := take_succ' hi 0
    repeat' first|refine cy (hy a (xs.getD i 0) (by rw [h2, List.length_take]; omega)) ?_ (hs := hF)|(refine wo ?_; first|(refine ao ?_; first|refine oa ?_)|refine oa ?_|refine ixmn ?_|refine li ?_)|(refine gc ?_; first|(refine ci (fun hB => ?_) (fun hB => ?_) <;> try (exfalso; omega)))|refine sq ?_|refine rg ?_|refine xc ?_|refine nl ?_|refine sk ?_|refine bk ?_
    rintro ok B ⟨rfl, a', ha', rfl⟩
    repeat' first|(refine wo ?_; first|(refine ao ?_; first|refine aw ?_)|refine oa ?_)|(refine gc ?_; first|refine cf ?_)|refine rg ?_|refine xc ?_|refine nl ?_|refine sk ?_|refine xb ?_
    refine lp (i + 1, a') ⟨by dsimp only; omega, by dsimp only; rw [ha', h2, hts]⟩ (G := []) (hf := ?_)
    dsimp only; rw [List.append_nil]; exact Fit.comm [lpt c [s] 22, vw s (Is xs)] (J a')
  · obtain rfl : i = xs.length := by dsimp only at h1; omega
    rw [List.take_length] at h2
    repeat' first|(refine wo ?_; first|(refine ao ?_; first|refine oa ?_))|(refine gc ?_; first|(refine ci (fun hB => ?_) (fun hB => ?_) <;> try (exfalso; omega)))|refine sq ?_|refine rg ?_|refine xc ?_|refine nl ?_|refine xe ?_
    exact e0 (D := J a) ⟨a, h2, rfl⟩ (hf := hF) (nb := hnb a)
def RelG (k : Nat) (l : List Int) (g : Int → Int) : Prop := l.length = k ∧ ∀ t : Nat, t < k → g t = l.getD t 0
theorem RelG.step {k : Nat} {l : List Int} {g : Int → Int} (h : RelG k l g) {i j : Nat} (hi : i < k) (hj : j < k) : RelG k (swp l i j) (upg (upg g i (g j)) j (g i)) ∧ upg (upg g i (g j)) j (g i) i = l.getD j 0 := by
  have key : ∀ t : Nat, t < k → upg (upg g i (g j)) j (g i) t = (swp l i j).getD t 0 := fun t ht => by
    rw [swp_get l t (by rw [h.1]; exact hi) (by rw [h.1]; exact hj)]
    unfold upg
    by_cases e1 : t = i
    · subst e1
      rw [if_pos rfl]
      by_cases e2 : (t : Int) = j
      · have e3 : t = j := by omega
        subst e3; rw [if_pos rfl, if_pos rfl, h.2 t ht]
      · rw [if_neg e2, if_pos rfl, h.2 j hj]
    · rw [if_neg e1]
      by_cases e2 : t = j
      · subst e2; rw [if_pos rfl, if_pos rfl, h.2 i hi]
      · rw [if_neg e2, if_neg (by omega), if_neg (by omega), h.2 t ht]
  refine ⟨⟨by rw [swp_length, h.1], key⟩, ?_⟩
  rw [key i hi, swp_get l i (by rw [h.1]; exact hi) (by rw [h.1]; exact hj), if_pos rfl]
structure OrG where
  i : Nat
  o : Value
  f : Int → Option Value
  l : List Int
  outs : List Int
  st : BitVec 64
def pickR (k d : Int) (st : BitVec 64) : List Int × Int := (srt (ordR k d st).1.1, (ordR k d st).1.2)
end Go.Art
set_option linter.unusedSimpArgs false
set_option linter.unusedVariables false
namespace Go.Art
open Go Go.Proofs Go.RowKit
theorem TC.slf {P : Program} {E : Env P} {n : Sh} {X : Cx} {s : List K} {fr : Fr} {A : List Ch} {c0 : Code} {v : Value} {xs : List Value} (k : ∀ a c, v = .slice a xs.length c → (a = none → xs = []) → TC E n X s c0 fr A) (hh : Has A (vw v xs) := by first | (apply has_vw; (repeat (first | apply List.Mem.head | apply List.Mem.tail)); first | done | fail) | (apply has_own; (repeat (first | apply List.Mem.head | apply List.Mem.tail)); first | done | fail) | (apply has_ro; (repeat (first | apply List.Mem.head | apply List.Mem.tail)); first | done | fail) | apply has_nil | ((with_reducible apply has_el); (focus (first | (apply has_vels; (repeat (first | apply List.Mem.head | apply List.Mem.tail)); first | done | fail) | (apply has_rels; (repeat (first | apply List.Mem.head | apply List.Mem.tail)); first | done | fail))); omega) | (apply has_pt; (repeat (first | apply List.Mem.head | apply List.Mem.tail)); first | done | fail) | (apply has_lpt; (repeat (first | apply List.Mem.head | apply List.Mem.tail)); first | done | fail) | (apply has_vels; (repeat (first | apply List.Mem.head | apply List.Mem.tail)); first | done | fail) | (apply has_rels; (repeat (first | apply List.Mem.head | apply List.Mem.tail)); first | done | fail) | with_reducible assumption | ((with_reducible apply has_elg); (focus (first | (apply has_velg; (repeat (first | apply List.Mem.head | apply List.Mem.tail)); first | done | fail) | (apply has_relg; (repeat (first | apply List.Mem.head | apply List.Mem.tail)); first | done | fail))); omega) | (apply has_velg; (repeat (first | apply List.Mem.head | apply List.Mem.tail)); first | done | fail) | (apply has_relg; (repeat (first | apply List.Mem.head | apply List.Mem.tail)); first | done | fail) | (apply has_vwf; (repeat (first | apply List.Mem.head | apply List.Mem.tail)); first | done | fail) | (apply has_oww; (repeat (first | apply List.Mem.head | apply List.Mem.tail)); first | done | fail)) : TC E n X s c0 fr A := by
  by_cases h : ∃ a c, v = .slice a xs.length c ∧ (a = none → xs = [])
  · obtain ⟨a, c, h1, h2⟩ := h; exact k a c h1 h2
  · refine TC.fact (p := False) (fun w hw => h ?_) (fun h => h.elim)
    obtain ⟨a, c, h1, h2, h3, h4⟩ := hh.P w hw
    refine ⟨a, c, h1, fun e => ?_⟩
    cases xs with
    | nil => rfl
    | cons x r => obtain ⟨y, hy, _⟩ := h4 0 _ rfl; rw [e] at hy; cases hy
theorem vw_sl {w : World} {v : Value} {xs : List Value} (h : (vw v xs).P w) : Sl w v xs := h
theorem own_O {w : World} {e : TypeId} {v : Value} {xs : List Value} (h : (own e v xs).P w) : OwnO w e v xs := h
theorem TX.one {P : Program} {E : Env P} {n : Sh} {X : Cx} {s : List K} {fr : Fr} {A : List Ch} {e : Exit} {v : Value} {xs : List Value} (k : v.oneCell' = true → TX E n X s e fr A) (hh : Has A (vw v xs) := by first | (apply has_vw; (repeat (first | apply List.Mem.head | apply List.Mem.tail)); first | done | fail) | (apply has_own; (repeat (first | apply List.Mem.head | apply List.Mem.tail)); first | done | fail) | (apply has_ro; (repeat (first | apply List.Mem.head | apply List.Mem.tail)); first | done | fail) | apply has_nil | ((with_reducible apply has_el); (focus (first | (apply has_vels; (repeat (first | apply List.Mem.head | apply List.Mem.tail)); first | done | fail) | (apply has_rels; (repeat (first | apply List.Mem.head | apply List.Mem.tail)); first | done | fail))); omega) | (apply has_pt; (repeat (first | apply List.Mem.head | apply List.Mem.tail)); first | done | fail) | (apply has_lpt; (repeat (first | apply List.Mem.head | apply List.Mem.tail)); first | done | fail) | (apply has_vels; (repeat (first | apply List.Mem.head | apply List.Mem.tail)); first | done | fail) | (apply has_rels; (repeat (first | apply List.Mem.head | apply List.Mem.tail)); first | done | fail) | with_reducible assumption | ((with_reducible apply has_elg); (focus (first | (apply has_velg; (repeat (first | apply List.Mem.head | apply List.Mem.tail)); first | done | fail) | (apply has_relg; (repeat (first | apply List.Mem.head | apply List.Mem.tail)); first | done | fail))); omega) | (apply has_velg; (repeat (first | apply List.Mem.head | apply List.Mem.tail)); first | done | fail) | (apply has_relg; (repeat (first | apply List.Mem.head | apply List.Mem.tail)); first | done | fail) | (apply has_vwf; (repeat (first | apply List.Mem.head | apply List.Mem.tail)); first | done | fail) | (apply has_oww; (repeat (first | apply List.Mem.head | apply List.Mem.tail)); first | done | fail)) : TX E n X s e fr A :=
  TX.fact (fun w hw => by obtain ⟨a, c, h, _⟩ := has_sl hw hh; rw [h]; rfl) k
theorem one_slSub {v : Value} (h : v.oneCell' = true) (lo hi : Nat) : (slSub v lo hi).oneCell' = true := by
  cases v with
  | slice a l c => cases a <;> rfl
  | _ => exact h
theorem sub_own {A F : List Ch} {e : TypeId} {v : Value} {l : List Int} {lo hi : Nat} (h1 : lo ≤ hi) (h2 : hi ≤ l.length) (hf : Fit A [own e v (Is l)] F) : Im A (own e (slSub v lo hi) (Is ((l.take hi).drop lo)) :: F) := Im.trans hf (Im1.im (im_subi e v l h1 h2) F)
end Go.Art
set_option linter.unusedSimpArgs false
set_option linter.unusedVariables false
namespace Go.Art
open Go Go.Proofs Go.RowKit
theorem TrB {P : Program} {f : FuncId} {args : List Value} {pre C : List Ch} {R : Value → List Ch → Prop} (h : Tr P f args pre C R) : Tr P f args pre [bnd C] fun v D => ∃ D', R v D' ∧ D = [bnd D'] := by
  refine ⟨fun w hw => ?_, h.lent⟩
  have hw' : Sat (pre ++ C) w := by
    have h1 : Sat (bnd C :: pre) w := hw.perm (List.perm_append_comm (l₁ := pre) (l₂ := [bnd C]))
    exact (bnd_sat.1 h1).perm List.perm_append_comm
  refine (h.run w hw').mono fun v w' ⟨B, hR, hS, hM, hB⟩ => ⟨[bnd B], ⟨B, hR, rfl⟩, ?_, ?_, ?_⟩
  · exact bnd_sat.2 (by rw [List.append_nil]; exact hS)
  · have e1 : ∀ (C : List Ch) (b : Nat), wrs [bnd C] b ↔ wrs C b := fun C b => by have := bnd_wrs (C := C) (F := []) (b := b); rwa [List.append_nil] at this
    have e2 : ∀ (C : List Ch) (b : Nat), rds [bnd C] b ↔ rds C b := fun C b => by have := bnd_rds (C := C) (F := []) (b := b); rwa [List.append_nil] at this
    exact ⟨hM.os, hM.tape, hM.output, hM.size, fun k hk hn => hM.block k hk fun h => hn ((e1 C k).2 h), fun b hb => (hM.wr b ((e1 B b).1 hb)).imp_left (e1 C b).2,
      fun b hb => (hM.rd b ((e2 B b).1 hb)).imp (e1 C b).2 (Or.imp_left (e2 C b).2)⟩
  · intro c hc b hb
    obtain rfl := List.mem_singleton.1 hc
    obtain ⟨x, hx, hb⟩ := hb
    exact hB x hx b hb
theorem TrB1 {P : Program} {f : FuncId} {args : List Value} {pre C : List Ch} {R R' : Value → List Ch → Prop} (h : Tr P f args pre C R) (k : ∀ v D, R v D → R' v [bnd D]) : Tr P f args pre [bnd C] R' := (TrB h).mono fun v D ⟨D', h1, h2⟩ => by rw [h2]; exact k v D' h1
abbrev Lw := BitVec 64 ⊕ (List Int × Bool)
def rowOk (n : Int) (l : List Int) (br : Bool) : Prop := br = false ∧ 0 < l.length ∧ 0 ≤ l.getD 0 0 ∧ l.getD 0 0 < n
instance (n : Int) (l : List Int) (br : Bool) : Decidable (rowOk n l br) := by unfold rowOk; infer_instance
def drw (n : Int) : Lw → (Int × Int) × Lw
  | .inl st => if 1 ≤ n ∧ n ≤ 1099511627776 then ((((sdraw n.toNat st).1 : Int), 0), .inl (sdraw n.toNat st).2) else ((0, 3), .inl st)
  | .inr (l, br) => if 1 ≤ n ∧ n ≤ 1099511627776 then (if rowOk n l br then ((l.getD 0 0, 0), .inr (l.drop 1, false)) else ((0, 12), .inr (l, true))) else ((0, 3), .inr (l, br))
def dru (n : Int) (x : Lw) : Int := if (drw n x).1.2 = 0 then 1 else 0
theorem drw_inl (n : Int) (st : BitVec 64) : drw n (.inl st) = if 1 ≤ n ∧ n ≤ 1099511627776 then ((((sdraw n.toNat st).1 : Int), 0), .inl (sdraw n.toNat st).2) else ((0, 3), .inl st) := rfl
theorem drw_inr (n : Int) (l : List Int) (br : Bool) : drw n (.inr (l, br)) = if 1 ≤ n ∧ n ≤ 1099511627776 then (if rowOk n l br then ((l.getD 0 0, 0), .inr (l.drop 1, false)) else ((0, 12), .inr (l, true))) else ((0, 3), .inr (l, br)) := rfl
theorem drw_rng {n : Int} {x : Lw} (h : (drw n x).1.2 = 0) : 0 ≤ (drw n x).1.1 ∧ (drw n x).1.1 < n := by
  cases x with
  | inl st =>
    rw [drw_inl] at h ⊢
    split
    · have := sdraw_lt (n := n.toNat) (by omega) st
      dsimp only; omega
    · rename_i hn; rw [if_neg hn] at h; cases h
  | inr p =>
    obtain ⟨l, br⟩ := p
    rw [drw_inr] at h ⊢
    split
    · rename_i hn
      rw [if_pos hn] at h
      split
      · rename_i hr
        exact ⟨hr.2.2.1, hr.2.2.2⟩
      · rename_i hr; rw [if_neg hr] at h; cases h
    · rename_i hn; rw [if_neg hn] at h; cases h
theorem drw_bad {n : Int} (x : Lw) (h : ¬ (1 ≤ n ∧ n ≤ 1099511627776)) : drw n x = ((0, 3), x) := by
  cases x with
  | inl st => exact if_neg h
  | inr p => exact if_neg h
abbrev TLr : TypeId := 91
abbrev TpR : TypeId := 89
abbrev TLI : TypeId := 3
def okL (_ : Lw) : Prop := True
theorem okL_row (l : List Int) (br : Bool) : okL (.inr (l, br)) := trivial
theorem okL_drw (n : Int) {x : Lw} (h : okL x) : okL (drw n x).2 := trivial
def lotC (b r : Nat) (sv : Value) (x : Lw) (used : Int) : List Ch :=
  match x with
  | .inl st => lotP b r st used false
  | .inr (l, br) => [pt b [.iface TpR (ptr r), I used, .bool br] TLo, pt r [sv] TLr, own TLI sv (Is l)]
abbrev lot (b r : Nat) (sv : Value) (x : Lw) (used : Int) : Ch := bnd (lotC b r sv x used)
theorem lotC_nb (b r : Nat) (sv : Value) (x : Lw) (used : Int) : ∀ c ∈ lotC b r sv x used, ∀ b, ¬ c.bd b := by
  cases x with
  | inl st => unfold lotC; (repeat (first | exact nb0 | refine nb1 ?_))
  | inr p => unfold lotC; (repeat (first | exact nb0 | refine nb1 ?_))
instance (b r : Nat) (sv : Value) (x : Lw) (used : Int) : NoB (lot b r sv x used) := ⟨fun b h => by obtain ⟨c, hc, h1⟩ := h; exact lotC_nb _ _ _ _ _ c hc b h1⟩
theorem fit_bnd {A C G : List Ch} (h : Fit A C G) : Fit A [bnd C] G := Im.trans h (im_bnd C G)
attribute [local irreducible] Fit pt own ro vw mpc lpt vels rels mow lrc dfr
attribute [local irreducible] lmp lme mit velg relg
theorem ICloneN_tr (v : Value) (l : List Int) (hl : l.length ≤ 17592186044416) : Tr Tryz.prog 63 [v] [vw v (Is l)] [] fun u D => u.oneCell' = true ∧ D = [own TLI u (Is l)] := by
  refine Tr.enter env _ Tryz.func63 (by kernel_rfl) rfl Tryz.ntmps63 rfl (by repeat (first | exact has00 | refine has01 ?_)) fun w0 => ?_
  refine TC.slf (v := v) (xs := Is l) fun a c hv hn => ?_
  rw [Is_len] at hv
  cases a with
  | none =>
    have hl0 : l = [] := by have := hn rfl; simpa using this
    subst hl0 hv
    repeat' first|(refine wo ?_; first|(refine ao ?_; first|refine isl ?_)|refine oa ?_)|(refine gc ?_; first|refine ct ?_)|refine sq ?_|refine rg ?_|refine xc ?_|refine nl ?_|refine rt ?_
    refine TX.im (own_nil TLI _) ?_
    exact r1 ⟨rfl, rfl⟩
  | some a =>
    subst hv
    repeat' first|(refine sl0 fun o => ?_)|(refine api (l := []) (news := l) (fun o => ?_); refine TO.one (v := o) (xs := Is ([] ++ l)) fun ho => ?_)|(refine wo ?_; first|(refine ao ?_; first|refine isl ?_)|refine oa ?_)|(refine gc ?_; first|refine cf ?_)|refine sq ?_|refine rg ?_|refine xc ?_|refine nl ?_|refine sk ?_|refine rt ?_
    exact r1 ⟨ho, rfl⟩
theorem LRow_tr (v : Value) (l : List Int) (hl : l.length ≤ 17592186044416) : Tr Tryz.prog 22 [v] [vw v (Is l)] [] fun u D => ∃ b r sv, u = ptr b ∧ D = [lot b r sv (.inr (l, false)) 0] := by
  refine Tr.enter env _ Tryz.func22 (by kernel_rfl) rfl Tryz.ntmps22 rfl (by repeat (first | exact has00 | refine has01 ?_)) fun w0 => ?_
  repeat' first|(refine gca ?_; first|(refine ca (ICloneN_tr v l hl) ?_; rintro o _ ⟨ho, rfl⟩))|refine bdz ?_|refine bx fun b1 => ?_|(refine wo ?_; first|refine oa ?_)|refine sq ?_|refine rg ?_|refine xc ?_|refine nl ?_|refine rt ?_
  rename_i b0
  exact r1 (D := [lot b1 b0 o (.inr (l, false)) 0]) ⟨b1, b0, o, rfl, rfl⟩ (hf := fit_bnd (C := [pt b1 [.iface TpR (ptr b0), I 0, .bool false] TLo, pt b0 [o] TLr, own TLI o (Is l)]) (by first | apply Fit.all | ((repeat (first | (apply Fit.nilN; (repeat (first | apply nrm_nil | apply nrm_cons)); try apply nrm_rfl) | (apply Fit.cons; focus ((repeat (first | apply Tk.here | apply Tk.there)); first | done | fail)))); first | done | fail)))
theorem rowDraw_tr (r : Nat) (sv : Value) (l : List Int) (n : Int) (h : rowOk n l false) : Tr Tryz.prog 213 [ptr r, I n] [] [pt r [sv] TLr, own TLI sv (Is l)]
    fun v D => v = tup2 (I (l.getD 0 0)) (.bool true) ∧ D = [pt r [slSub sv 1 l.length] TLr, own TLI (slSub sv 1 l.length) (Is (l.drop 1))] := by
  unfold rowOk at h
  have e0 : l.getD (Int.toNat 0) 0 = l.getD 0 0 := rfl
  refine Tr.enter env _ Tryz.func213 (by kernel_rfl) rfl Tryz.ntmps213 rfl (by repeat (first | exact has00 | refine has01 ?_)) fun w0 => ?_
  refine TC.leni (l := l) fun hll => ?_
  refine TC.one (v := sv) (xs := Is l) fun hsv => ?_
  have hs1 := one_slSub hsv 1 l.length
  repeat' first|(refine wo ?_; first|(refine ao ?_; first|refine oa ?_)|refine oa ?_|refine ld ?_|refine lnm ?_|refine ixm ?_|refine li ?_|refine sr ?_|refine sclm ?_|refine gy ?_|(refine gsi (fun hB => ?_) (fun hB => ?_) <;> try (exfalso; omega)))|(refine gc ?_; first|(refine ci (fun hB => ?_) (fun hB => ?_) <;> try (exfalso; omega)))|refine sq ?_|refine rg ?_|refine xc ?_|refine nl ?_|refine sk ?_|refine rt ?_
  refine TX.im (sub_own (e := TLI) (v := sv) (l := l) (lo := 1) (hi := l.length) (by omega) (Nat.le_refl _) (by first | apply Fit.all | ((repeat (first | (apply Fit.nilN; (repeat (first | apply nrm_nil | apply nrm_cons)); try apply nrm_rfl) | (apply Fit.cons; focus ((repeat (first | apply Tk.here | apply Tk.there)); first | done | fail)))); first | done | fail))) ?_
  rw [List.take_length]
  exact r2 ⟨rfl, rfl⟩
theorem rowDraw0_tr (r : Nat) (sv : Value) (l : List Int) (n : Int) (h : ¬ rowOk n l false) : Tr Tryz.prog 213 [ptr r, I n] [] [pt r [sv] TLr, own TLI sv (Is l)]
    fun v D => v = tup2 (I 0) (.bool false) ∧ D = [pt r [sv] TLr, own TLI sv (Is l)] := by
  have h' : ¬ (0 < l.length ∧ 0 ≤ l.getD 0 0 ∧ l.getD 0 0 < n) := fun k => h ⟨rfl, k⟩
  have e0 : l.getD (Int.toNat 0) 0 = l.getD 0 0 := rfl
  refine Tr.enter env _ Tryz.func213 (by kernel_rfl) rfl Tryz.ntmps213 rfl (by repeat (first | exact has00 | refine has01 ?_)) fun w0 => ?_
  refine TC.leni (l := l) fun hll => ?_
  repeat' first|(refine wo ?_; first|(refine ao ?_; first|refine oa ?_)|refine oa ?_|refine ld ?_|refine lnm ?_|refine ixm ?_|refine li ?_|refine gy ?_|refine gn ?_|(refine gsi (fun hB => ?_) (fun hB => ?_) <;> try (exfalso; omega)))|(refine gc ?_; first|refine ct ?_|(refine ci (fun hB => ?_) (fun hB => ?_) <;> try (exfalso; omega)))|refine sq ?_|refine rg ?_|refine xc ?_|refine nl ?_|refine rt ?_
  all_goals first | (exfalso; omega) | exact r2 ⟨rfl, rfl⟩
theorem method_row (a : Addr) (w : World) : (method (Tryz.prog.types.size + Made.depth) 89 (.pointer (some a)) "artesian/lots.draw").run Tryz.prog w = .ok (213, .pointer (some a)) w := by kernel_rfl
theorem noneR_tr (b r : Nat) (used : Int) (br : Bool) : Tr Tryz.prog 71 [ptr b] [lpt b [.iface TpR (ptr r), I used, .bool br] TLo] [] fun v D => v = .bool false ∧ D = [] := by
  refine Tr.enter env _ Tryz.func71 (by kernel_rfl) rfl Tryz.ntmps71 rfl (by repeat (first | exact has00 | refine has01 ?_)) fun w0 => ?_
  repeat' first|refine ife ?_|refine ifn ?_|(refine wo ?_; first|(refine ao ?_; first|refine ipe ?_)|refine oa ?_|refine ldl ?_|refine gy ?_)|refine sq ?_|refine rg ?_|refine xc ?_|refine nl ?_|refine rt ?_
  exact r1 ⟨rfl, rfl⟩
theorem DrawRow_tr (b r : Nat) (sv : Value) (l : List Int) (br : Bool) (used n : Int) (hu : 0 ≤ used ∧ used ≤ 4611686018427387904) : Tr Tryz.prog 96 [ptr b, I n] [] (lotC b r sv (.inr (l, br)) used)
    fun v D => v = tup2 (I (drw n (.inr (l, br))).1.1) (I (drw n (.inr (l, br))).1.2) ∧ ∃ sv', D = lotC b r sv' (drw n (.inr (l, br))).2 (used + dru n (.inr (l, br))) := by
  show Tr _ _ _ _ [pt b [.iface TpR (ptr r), I used, .bool br] TLo, pt r [sv] TLr, own TLI sv (Is l)] _
  by_cases hn : 1 ≤ n ∧ n ≤ 1099511627776
  rotate_left
  · rw [show dru n (.inr (l, br)) = 0 by unfold dru; rw [drw_bad _ hn]; rfl, drw_bad _ hn, Int.add_zero]
    refine Tr.mono (R := fun v D => v = tup2 (I 0) (I 3) ∧ D = [pt b [.iface TpR (ptr r), I used, .bool br] TLo, pt r [sv] TLr, own TLI sv (Is l)]) ?_ (fun v D h => ⟨h.1, sv, h.2⟩)
    refine Tr.enter env _ Tryz.func96 (by kernel_rfl) rfl Tryz.ntmps96 rfl (by repeat (first | exact has00 | refine has01 ?_)) fun w0 => ?_
    repeat' first|(refine gca ?_; first|(refine ca (noneR_tr b r used br) ?_; rintro _ _ ⟨rfl, rfl⟩))|(refine wo ?_; first|(refine ao ?_; first|refine oa ?_)|refine oa ?_|refine gy ?_|refine gn ?_|(refine gsi (fun hB => ?_) (fun hB => ?_) <;> try (exfalso; omega)))|(refine gc ?_; first|refine ct ?_|refine cf ?_|(refine ci (fun hB => ?_) (fun hB => ?_) <;> try (exfalso; omega)))|refine sq ?_|refine rg ?_|refine xc ?_|refine nl ?_|refine bk ?_|refine rt ?_
    all_goals exact r2 ⟨rfl, rfl⟩
  by_cases hr : rowOk n l br
  · have e1 : drw n (.inr (l, br)) = ((l.getD 0 0, 0), .inr (l.drop 1, false)) := by rw [drw_inr, if_pos hn, if_pos hr]
    rw [show dru n (.inr (l, br)) = 1 by unfold dru; rw [e1]; rfl, e1]
    obtain rfl : br = false := hr.1
    refine Tr.mono (R := fun v D => v = tup2 (I (l.getD 0 0)) (I 0) ∧ D = [pt b [.iface TpR (ptr r), I (used + 1), .bool false] TLo, pt r [slSub sv 1 l.length] TLr, own TLI (slSub sv 1 l.length) (Is (l.drop 1))]) ?_ (fun v D h => ⟨h.1, slSub sv 1 l.length, h.2⟩)
    refine Tr.enter env _ Tryz.func96 (by kernel_rfl) rfl Tryz.ntmps96 rfl (by repeat (first | exact has00 | refine has01 ?_)) fun w0 => ?_
    repeat' first|(refine gca ?_; first|(refine ca (noneR_tr b r used false) ?_; rintro _ _ ⟨rfl, rfl⟩))|(refine civ (rowDraw_tr r sv l n hr) ?_ (method_row _); rintro _ _ ⟨rfl, rfl⟩)|(refine wo ?_; first|(refine ao ?_; first|refine aw ?_|refine oa ?_)|refine oa ?_|refine ld ?_|refine sr ?_|refine gy ?_|(refine gsi (fun hB => ?_) (fun hB => ?_) <;> try (exfalso; omega)))|(refine gc ?_; first|refine cf ?_|(refine ci (fun hB => ?_) (fun hB => ?_) <;> try (exfalso; omega)))|refine sq ?_|refine rg ?_|refine xc ?_|refine nl ?_|refine sk ?_|refine bk ?_|refine rt ?_|refine xb ?_
    exact r2 ⟨rfl, rfl⟩
  · have e1 : drw n (.inr (l, br)) = ((0, 12), .inr (l, true)) := by rw [drw_inr, if_pos hn, if_neg hr]
    rw [show dru n (.inr (l, br)) = 0 by unfold dru; rw [e1]; rfl, e1, Int.add_zero]
    refine Tr.mono (R := fun v D => v = tup2 (I 0) (I 12) ∧ D = [pt b [.iface TpR (ptr r), I used, .bool true] TLo, pt r [sv] TLr, own TLI sv (Is l)]) ?_ (fun v D h => ⟨h.1, sv, h.2⟩)
    cases br with
    | true =>
      refine Tr.enter env _ Tryz.func96 (by kernel_rfl) rfl Tryz.ntmps96 rfl (by repeat (first | exact has00 | refine has01 ?_)) fun w0 => ?_
      repeat' first|(refine gca ?_; first|(refine ca (noneR_tr b r used true) ?_; rintro _ _ ⟨rfl, rfl⟩))|(refine wo ?_; first|(refine ao ?_; first|refine oa ?_)|refine oa ?_|refine ld ?_|refine gy ?_|(refine gsi (fun hB => ?_) (fun hB => ?_) <;> try (exfalso; omega)))|(refine gc ?_; first|refine ct ?_|refine cf ?_|(refine ci (fun hB => ?_) (fun hB => ?_) <;> try (exfalso; omega)))|refine sq ?_|refine rg ?_|refine xc ?_|refine nl ?_|refine bk ?_|refine rt ?_
      exact r2 ⟨rfl, rfl⟩
    | false =>
      refine Tr.enter env _ Tryz.func96 (by kernel_rfl) rfl Tryz.ntmps96 rfl (by repeat (first | exact has00 | refine has01 ?_)) fun w0 => ?_
      repeat' first|(refine gca ?_; first|(refine ca (noneR_tr b r used false) ?_; rintro _ _ ⟨rfl, rfl⟩))|(refine civ (rowDraw0_tr r sv l n hr) ?_ (method_row _); rintro _ _ ⟨rfl, rfl⟩)|(refine wo ?_; first|(refine ao ?_; first|refine oa ?_)|refine oa ?_|refine ld ?_|refine sr ?_|refine gy ?_|(refine gsi (fun hB => ?_) (fun hB => ?_) <;> try (exfalso; omega)))|(refine gc ?_; first|refine ct ?_|refine cf ?_|(refine ci (fun hB => ?_) (fun hB => ?_) <;> try (exfalso; omega)))|refine sq ?_|refine rg ?_|refine xc ?_|refine nl ?_|refine sk ?_|refine bk ?_|refine rt ?_|refine xb ?_
      exact r2 ⟨rfl, rfl⟩
theorem DrawL_tr (b r : Nat) (sv : Value) (x : Lw) (used n : Int) (hx : okL x) (hu : 0 ≤ used ∧ used ≤ 4611686018427387904) : Tr Tryz.prog 96 [ptr b, I n] [] [lot b r sv x used]
    fun v D => v = tup2 (I (drw n x).1.1) (I (drw n x).1.2) ∧ ∃ sv', D = [lot b r sv' (drw n x).2 (used + dru n x)] := by
  cases x with
  | inl st =>
    refine TrB1 (C := lotC b r sv (.inl st) used) (Draw_tr b r st used n hu) fun v D h => ?_
    have e : ldraw n st used = ((drw n (.inl st)).1, ((if 1 ≤ n ∧ n ≤ 1099511627776 then (sdraw n.toNat st).2 else st), used + dru n (.inl st))) ∧ (drw n (.inl st)).2 = .inl (if 1 ≤ n ∧ n ≤ 1099511627776 then (sdraw n.toNat st).2 else st) := by
      unfold dru ldraw
      rw [drw_inl]
      split
      · exact ⟨rfl, rfl⟩
      · rw [if_neg (show ¬ (3 : Int) = 0 by decide), Int.add_zero]; exact ⟨rfl, rfl⟩
    rw [e.1] at h
    rw [e.2]
    exact ⟨h.1, sv, by rw [h.2]; rfl⟩
  | inr p =>
    obtain ⟨l, br⟩ := p
    exact TrB1 (DrawRow_tr b r sv l br used n hu) fun v D ⟨h1, sv', h2⟩ => ⟨h1, sv', by rw [h2]⟩
end Go.Art
set_option linter.unusedSimpArgs false
set_option linter.unusedVariables false
namespace Go.Art
open Go Go.Proofs Go.RowKit
def ordW (k : Nat) : Nat → Nat → List Int → Lw → (List Int × Int) × Lw
  | 0, _, _, x => (([], 0), x)
  | m + 1, i, l, x =>
    if (drw ((k : Int) - i) x).1.2 = 0 then
      ((l.getD (i + (drw ((k : Int) - i) x).1.1.toNat) 0 :: (ordW k m (i + 1) (swp l i (i + (drw ((k : Int) - i) x).1.1.toNat)) (drw ((k : Int) - i) x).2).1.1,
        (ordW k m (i + 1) (swp l i (i + (drw ((k : Int) - i) x).1.1.toNat)) (drw ((k : Int) - i) x).2).1.2), (ordW k m (i + 1) (swp l i (i + (drw ((k : Int) - i) x).1.1.toNat)) (drw ((k : Int) - i) x).2).2)
    else (([], (drw ((k : Int) - i) x).1.2), (drw ((k : Int) - i) x).2)
theorem ordW_len (k : Nat) : ∀ (m i : Nat) (l : List Int) (x : Lw), (ordW k m i l x).1.1.length ≤ m ∧ ((ordW k m i l x).1.2 = 0 → (ordW k m i l x).1.1.length = m)
  | 0, _, _, _ => ⟨Nat.le_refl _, fun _ => rfl⟩
  | m + 1, i, l, x => by
    unfold ordW
    split
    · have := ordW_len k m (i + 1) (swp l i (i + (drw ((k : Int) - i) x).1.1.toNat)) (drw ((k : Int) - i) x).2
      refine ⟨by dsimp only; rw [List.length_cons]; omega, fun h => ?_⟩
      dsimp only at h ⊢
      rw [List.length_cons, this.2 h]
    · rename_i h; exact ⟨Nat.zero_le _, fun h1 => absurd h1 h⟩
def ordO (k d : Int) (x : Lw) : (List Int × Int) × (Lw × Int) :=
  if Sized k d then ((if (ordW k.toNat d.toNat 0 (upto k.toNat) x).1.2 = 0 then (ordW k.toNat d.toNat 0 (upto k.toNat) x).1.1 else [], (ordW k.toNat d.toNat 0 (upto k.toNat) x).1.2), ((ordW k.toNat d.toNat 0 (upto k.toNat) x).2, ((ordW k.toNat d.toNat 0 (upto k.toNat) x).1.1.length : Int)))
  else (([], 3), (x, 0))
theorem ordO_len (k d : Int) (x : Lw) : (ordO k d x).1.1.length ≤ 65536 := by
  unfold ordO
  split
  · rename_i h
    unfold Sized at h
    have := ordW_len k.toNat d.toNat 0 (upto k.toNat) x
    dsimp only
    split
    · omega
    · simp
  · simp
def pickO (k d : Int) (x : Lw) : List Int × Int := (srt (ordO k d x).1.1, (ordO k d x).1.2)
structure OwG where
  i : Nat
  o : Value
  f : Int → Option Value
  l : List Int
  outs : List Int
  sv : Value
  x : Lw
attribute [local irreducible] Fit pt own ro vw mpc lpt vels rels mow lrc dfr
attribute [local irreducible] mps lmp lme mit
theorem OrderL_tr (b r : Nat) (sv : Value) (x : Lw) (used k d : Int) (hx : okL x) (hu : 0 ≤ used ∧ used ≤ 1152921504606846976) : Tr Tryz.prog 98 [ptr b, I k, I d] [] [lot b r sv x used]
    fun v D => ∃ o sv', v = tup2 o (I (ordO k d x).1.2) ∧ D = [own TLI o (Is (ordO k d x).1.1), lot b r sv' (ordO k d x).2.1 (used + (ordO k d x).2.2)] := by
  have hl0 : drw 0 x = ((0, 3), x) := drw_bad x (by omega)
  have hu0 : dru 0 x = 0 := by unfold dru; rw [hl0]; rfl
  have hD0 := DrawL_tr b r sv x used 0 hx (by omega)
  rw [hl0, hu0, Int.add_zero] at hD0
  clear hl0 hu0
  by_cases hsz : Sized k d
  rotate_left
  · rw [show ordO k d x = (([], 3), (x, 0)) from if_neg hsz, Int.add_zero]
    refine Tr.enter env _ Tryz.func98 (by kernel_rfl) rfl Tryz.ntmps98 rfl (by repeat (first | exact has00 | refine has01 ?_)) fun w0 => ?_
    refine TC.im (own_nil TLI _) ?_
    repeat' first|(refine gca ?_; first|(refine ca hD0 ?_; rintro _ _ ⟨rfl, sv1, rfl⟩)|(refine ca (sized_tr k d) ?_; rintro _ _ ⟨rfl, rfl⟩; rw [decide_eq_false hsz]))|(refine wo ?_; first|(refine ao ?_; first|refine oa ?_)|refine oa ?_)|(refine gc ?_; first|refine ct ?_|refine cf ?_)|refine sq ?_|refine rg ?_|refine xc ?_|refine nl ?_|refine sk ?_|refine rt ?_
    exact r2 ⟨nS, sv1, rfl, rfl⟩
  have hO : ordO k d x = _ := if_pos hsz
  rw [hO]
  clear hO
  obtain ⟨k1, k2, d1, d2⟩ := id hsz
  refine Tr.enter env _ Tryz.func98 (by kernel_rfl) rfl Tryz.ntmps98 rfl (by repeat (first | exact has00 | refine has01 ?_)) fun w0 => ?_
  refine TC.im (own_nil TLI _) ?_
  repeat' first|(refine gca ?_; first|(refine ca hD0 ?_; rintro _ _ ⟨rfl, sv1, rfl⟩)|(refine ca (sized_tr k d) ?_; rintro _ _ ⟨rfl, rfl⟩; rw [decide_eq_true hsz]))|refine mm fun p => ?_|(refine wo ?_; first|(refine ao ?_; first|refine oa ?_)|refine oa ?_)|(refine gc ?_; first|refine cf ?_)|refine sq ?_|refine rg ?_|refine xc ?_|refine nl ?_|refine sk ?_|refine bk ?_
  generalize hF : ordW k.toNat d.toNat 0 (upto k.toNat) x = Fn at *
  refine TC.loop (ι := OwG) (fun u => [(29, I u.i), (11, u.o)]) (fun u => [own TLI u.o (Is u.outs), mpc p u.f, lot b r u.sv u.x (used + u.i)]) (fun u => okL u.x ∧ u.i ≤ d.toNat ∧ u.outs.length = u.i ∧ (∃ g, PlcF u.f g ∧ RelG k.toNat u.l g) ∧ u.outs ++ (ordW k.toNat (d.toNat - u.i) u.i u.l u.x).1.1 = Fn.1.1 ∧ (ordW k.toNat (d.toNat - u.i) u.i u.l u.x).1.2 = Fn.1.2 ∧ (ordW k.toNat (d.toNat - u.i) u.i u.l u.x).2 = Fn.2)
    (fun u => d.toNat - u.i) ⟨0, nS, fun _ => none, upto k.toNat, [], sv1, x⟩ [0, 1, 2, 10, 28] ⟨hx, by simp, rfl, ⟨fun i => i, fun i => .inl ⟨rfl, rfl⟩, upto_length _, fun t ht => (upto_get _ _ ht).symm⟩, by simp [hF], by simp [hF], by simp [hF]⟩ ?_ (hf := by dsimp only; rw [show used + ((0 : Nat) : Int) = used by omega]; first | apply Fit.all | ((repeat (first | (apply Fit.nilN; (repeat (first | apply nrm_nil | apply nrm_cons)); try apply nrm_rfl) | (apply Fit.cons; focus ((repeat (first | apply Tk.here | apply Tk.there)); first | done | fail)))); first | done | fail))
  rintro ⟨i, o, f, l, outs, sv2, x2⟩ ⟨hx2, h1, h2, ⟨g, hg1, hg2⟩, h3, h4, h5⟩
  dsimp only at hx2 h1 h2 hg1 hg2 h3 h4 h5 ⊢
  by_cases hi : i < d.toNat
  · have hki : 1 ≤ k - (i : Int) ∧ k - (i : Int) ≤ 1099511627776 := by omega
    have hkn : (k.toNat : Int) - (i : Int) = k - i := by omega
    rw [show d.toNat - i = (d.toNat - (i + 1)) + 1 by omega] at h3 h4 h5
    unfold ordW at h3 h4 h5
    rw [hkn] at h3 h4 h5
    have hD := DrawL_tr b r sv2 x2 (used + i) (k - i) hx2 (by omega)
    by_cases he : (drw (k - (i : Int)) x2).1.2 = 0
    · rw [if_pos he] at h3 h4 h5
      dsimp only at h3 h4 h5
      obtain ⟨q3, q4⟩ := drw_rng he
      rw [show dru (k - i) x2 = 1 from if_pos he, he] at hD
      obtain ⟨s, hs⟩ : ∃ s : Nat, (drw (k - (i : Int)) x2).1.1 = s := ⟨(drw (k - (i : Int)) x2).1.1.toNat, by omega⟩
      have hok3 := okL_drw (k - i) hx2
      obtain ⟨x3, hx3⟩ : ∃ x3, x3 = (drw (k - (i : Int)) x2).2 := ⟨_, rfl⟩
      rw [hs] at h3 h4 h5 q3 q4 hD
      rw [← hx3] at h3 h4 h5 hD hok3
      rw [Int.toNat_natCast] at h3 h4 h5
      clear hs hx3 he
      obtain ⟨q1, q2⟩ := hg2.step (i := i) (j := i + s) (by omega) (by omega)
      have hl3 := congrArg List.length h3
      rw [List.length_append, List.length_cons] at hl3
      rw [show ((i + s : Nat) : Int) = (i : Int) + s by omega] at q1 q2
      repeat' first|(refine gca ?_; first|(refine ca hD ?_; rintro _ _ ⟨rfl, sv3, rfl⟩)|(refine ca (exchange_tr p f g i _ hg1) ?_; rintro _ _ ⟨f', rfl, hg'⟩)|(refine ca (at_tr p f' _ i hg') ?_; rintro _ _ ⟨rfl, rfl⟩))|(refine wo ?_; first|(refine ao ?_; first|refine aw ?_|refine oa ?_)|refine oa ?_)|(refine gc ?_; first|refine cf ?_|(refine ci (fun hB => ?_) (fun hB => ?_) <;> try (exfalso; omega)))|refine sq ?_|refine rg ?_|refine xc ?_|refine nl ?_|refine sk ?_|refine bk ?_
      rw [q2]
      refine slii [l.getD (i + s) 0] fun v1 => ?_
      refine api (v := o) (l := outs) (news := [l.getD (i + s) 0]) fun v2 => ?_
      repeat' first|(refine wo ?_; first|(refine ao ?_; first|refine aw ?_)|refine oa ?_)|refine rg ?_|refine xc ?_|refine nl ?_|refine xb ?_
      refine lp ⟨i + 1, v2, f', swp l i (i + s), outs ++ [l.getD (i + s) 0], sv3, x3⟩ ⟨hok3, by dsimp only; omega, by simp [h2], ⟨_, hg', q1⟩, by rw [List.append_assoc]; exact h3, h4, h5⟩ (hf := by dsimp only; rw [show used + ((i + 1 : Nat) : Int) = used + i + 1 by omega]; first | apply Fit.all | ((repeat (first | (apply Fit.nilN; (repeat (first | apply nrm_nil | apply nrm_cons)); try apply nrm_rfl) | (apply Fit.cons; focus ((repeat (first | apply Tk.here | apply Tk.there)); first | done | fail)))); first | done | fail))
    · rw [if_neg he] at h3 h4 h5
      dsimp only at h3 h4 h5
      rw [List.append_nil] at h3
      rw [show dru (k - i) x2 = 0 from if_neg he, Int.add_zero] at hD
      have hf0 : ¬ Fn.1.2 = 0 := by rw [← h4]; exact he
      rw [if_neg hf0]
      rw [← h4, ← h5, ← h3, h2]
      obtain ⟨dr, hdr⟩ : ∃ dr, dr = drw (k - (i : Int)) x2 := ⟨_, rfl⟩
      rw [← hdr] at hD he ⊢
      repeat' first|(refine gca ?_; first|(refine ca hD ?_; rintro _ _ ⟨rfl, sv3, rfl⟩))|(refine wo ?_; first|(refine ao ?_; first|refine aw ?_|refine oa ?_)|refine oa ?_)|(refine gc ?_; first|(refine ci (fun hB => ?_) (fun hB => ?_) <;> try (exfalso; omega))|(refine cn (fun hB => ?_) (fun hB => ?_) <;> try (exfalso; omega)))|refine sq ?_|refine rg ?_|refine xc ?_|refine nl ?_|refine sk ?_|refine bk ?_|refine rt ?_
      refine TX.im (own_nil TLI _) ?_
      exact r2 ⟨nS, sv3, rfl, rfl⟩
  · obtain rfl : i = d.toNat := by omega
    rw [Nat.sub_self] at h3 h4 h5
    unfold ordW at h3 h4 h5
    dsimp only at h3 h4 h5
    rw [List.append_nil] at h3
    rw [if_pos h4.symm]
    rw [← h4, ← h5, ← h3, h2]
    repeat' first|(refine wo ?_; first|(refine ao ?_; first|refine oa ?_)|refine oa ?_)|(refine gc ?_; first|(refine ci (fun hB => ?_) (fun hB => ?_) <;> try (exfalso; omega)))|refine sq ?_|refine rg ?_|refine xc ?_|refine nl ?_|refine xe ?_|refine rt ?_
    exact r2 ⟨o, sv2, rfl, rfl⟩
theorem PickL_tr (b r : Nat) (sv : Value) (x : Lw) (used k d : Int) (hx : okL x) (hu : 0 ≤ used ∧ used ≤ 1152921504606846976) : Tr Tryz.prog 65 [ptr b, I k, I d] [] [lot b r sv x used]
    fun v D => ∃ o sv', v = tup2 o (I (pickO k d x).2) ∧ D = [own TLI o (Is (pickO k d x).1), lot b r sv' (ordO k d x).2.1 (used + (ordO k d x).2.2)] := by
  have hlen := ordO_len k d x
  refine Tr.enter env _ Tryz.func65 (by kernel_rfl) rfl Tryz.ntmps65 rfl (by repeat (first | exact has00 | refine has01 ?_)) fun w0 => ?_
  repeat' first|(refine gca ?_; first|(refine ca (OrderL_tr b r sv x used k d hx hu) ?_; rintro _ _ ⟨o, sv1, rfl, rfl⟩; refine TO.one (v := o) (xs := Is (ordO k d x).1.1) fun ho => ?_)|(refine ca (Values_tr _ (by assumption)) ?_; rintro _ _ ⟨c, rfl, rfl⟩))|(refine wo ?_; first|refine oa ?_)|refine sq ?_|refine rg ?_|refine xc ?_|refine nl ?_
  refine ca (Sorted_tr (Values1_seq c o (ordO k d x).1.1) (by omega)) ?_
  rintro v _ ⟨zs, rfl, rfl⟩
  repeat' first|(refine wo ?_; first|refine oa ?_)|refine xc ?_|refine nl ?_|refine rt ?_
  exact r2 ⟨v, sv1, rfl, rfl⟩
end Go.Art
set_option linter.unusedSimpArgs false
set_option linter.unusedVariables false
namespace Go.Art
open Go Go.Proofs Go.RowKit
attribute [local irreducible] Fit pt own ro vw mpc lpt vels rels mow lrc dfr
attribute [local irreducible] lmp lme mit

def wOk (w : Int) : Bool := decide (0 ≤ w ∧ w ≤ 16777215)
def wPos (w : Int) : Bool := decide (0 < w)
def solE (t : List Int) (k : Int) : Int := if k < 1 ∨ 65536 < k ∨ t.length < 1 ∨ k < t.length then 13 else if t.all wOk && t.any wPos then 0 else 13
theorem solE_zero {t : List Int} {k : Int} (h : solE t k = 0) : (1 ≤ k ∧ k ≤ 65536) ∧ (1 ≤ t.length ∧ t.length ≤ k) ∧ (∀ w ∈ t, 0 ≤ w ∧ w ≤ 16777215) ∧ ∃ w ∈ t, 0 < w := by
  unfold solE at h
  split at h
  · cases h
  · split at h
    · rename_i h1 h2
      rw [Bool.and_eq_true, List.all_eq_true, List.any_eq_true] at h2
      refine ⟨by omega, by omega, fun w hw => by simpa [wOk] using h2.1 w hw, ?_⟩
      obtain ⟨w, hw, hp⟩ := h2.2
      exact ⟨w, hw, by simpa [wPos] using hp⟩
    · cases h
theorem solE_cases (t : List Int) (k : Int) : solE t k = 0 ∨ solE t k = 13 := by unfold solE; split; exact .inr rfl; split; exact .inl rfl; exact .inr rfl
theorem take_all {p : Int → Bool} {t : List Int} {i : Nat} (hi : i < t.length) : (t.take (i + 1)).all p = ((t.take i).all p && p (t.getD i 0)) := by rw [take_succ' hi 0, List.all_append]; simp
theorem take_any {p : Int → Bool} {t : List Int} {i : Nat} (hi : i < t.length) : (t.take (i + 1)).any p = ((t.take i).any p || p (t.getD i 0)) := by rw [take_succ' hi 0, List.any_append]; simp
theorem all_of_take {p : Int → Bool} {t : List Int} {i : Nat} (hi : i < t.length) (h : p (t.getD i 0) = false) : t.all p = false := by
  cases hc : t.all p with
  | false => rfl
  | true => rw [List.all_eq_true] at hc; rw [hc _ (mem_getD.2 ⟨i, hi, rfl⟩)] at h; cases h
theorem SoCheck_tr (s : Value) (t : List Int) (k : Int) : Tr Tryz.prog 49 [s, I k] [vw s (Is t)] [] fun v D => v = I (solE t k) ∧ D = [] := by
  refine Tr.enter env _ Tryz.func49 (by kernel_rfl) rfl Tryz.ntmps49 rfl (by repeat (first | exact has00 | refine has01 ?_)) fun w0 => ?_
  refine TC.leni (l := t) fun htl => ?_
  repeat' first|(refine wo ?_; first|(refine ao ?_; first|refine oa ?_)|refine oa ?_|refine lnm ?_|refine gy ?_|refine gn ?_|(refine gsi (fun hB => ?_) (fun hB => ?_) <;> try (exfalso; omega)))|(refine gc ?_; first|refine ct ?_|(refine ci (fun hB => ?_) (fun hB => ?_) <;> try (exfalso; omega)))|refine sq ?_|refine rg ?_|refine xc ?_|refine nl ?_|refine sk ?_|refine bk ?_|refine rt ?_
  · exact r1 ⟨by rw [solE, if_pos (by omega)], rfl⟩
  · exact r1 ⟨by rw [solE, if_pos (by omega)], rfl⟩
  · exact r1 ⟨by rw [solE, if_pos (by omega)], rfl⟩
  · exact r1 ⟨by rw [solE, if_pos (by omega)], rfl⟩
  rw [show solE t k = if t.all wOk && t.any wPos then 0 else 13 by rw [solE, if_neg (by omega)]]
  refine TC.loop (ι := Nat × Bool) (fun i => [(27, I i.1), (5, .bool i.2)]) (fun _ => []) (fun i => i.1 ≤ t.length ∧ (t.take i.1).all wOk = true ∧ i.2 = (t.take i.1).any wPos) (fun i => t.length - i.1) (0, false) [25, 26] ⟨by simp, rfl, rfl⟩ ?_
  rintro ⟨i, so⟩ ⟨h1, h2, h3⟩
  dsimp only at h1 h2 h3 ⊢
  by_cases hi : i < t.length
  · have ha := take_all (p := wOk) hi
    have hb := take_any (p := wPos) hi
    have hc := all_of_take (p := wOk) hi
    generalize hy : t.getD i 0 = y at *
    repeat' first|refine lie hy ?_|(refine wo ?_; first|(refine ao ?_; first|refine aw ?_|refine oa ?_)|refine oa ?_|refine ixmn ?_|refine gy ?_|refine gn ?_|(refine gsi (fun hB => ?_) (fun hB => ?_) <;> try (exfalso; omega))|(refine gs (fun hB => ?_) (fun hB => ?_) <;> try (exfalso; omega)))|(refine gc ?_; first|refine ct ?_|(refine ci (fun hB => ?_) (fun hB => ?_) <;> try (exfalso; omega)))|refine sq ?_|refine rg ?_|refine xc ?_|refine nl ?_|refine sk ?_|refine bk ?_|refine rt ?_|refine xb ?_
    · refine r1 ⟨?_, rfl⟩
      rw [hc (by simp [wOk]; omega)]; rfl
    · refine r1 ⟨?_, rfl⟩
      rw [hc (by simp [wOk]; omega)]; rfl
    · have hw : wOk y = true := by simp [wOk]; omega
      exact lp (i + 1, true) ⟨by dsimp only; omega, by dsimp only; rw [ha, h2, hw]; rfl, by dsimp only; rw [hb, ← h3, hB]; rfl⟩
    · have hw : wOk y = true := by simp [wOk]; omega
      exact lp (i + 1, decide (0 < y)) ⟨by dsimp only; omega, by dsimp only; rw [ha, h2, hw]; rfl, by dsimp only; rw [hb, ← h3, hB]; rfl⟩
  · obtain rfl : i = t.length := by omega
    rw [List.take_length] at h2 h3
    repeat' first|(refine wo ?_; first|(refine ao ?_; first|refine oa ?_)|refine oa ?_)|(refine gc ?_; first|(refine ci (fun hB => ?_) (fun hB => ?_) <;> try (exfalso; omega))|(refine cb (fun hB => ?_) (fun hB => ?_) <;> try (exfalso; omega)))|refine sq ?_|refine rg ?_|refine xc ?_|refine nl ?_|refine sk ?_|refine xe ?_|refine rt ?_
    · refine r1 ⟨?_, rfl⟩
      rw [h2, ← h3, show so = false by simpa using hB]; rfl
    · refine r1 ⟨?_, rfl⟩
      rw [h2, ← h3, show so = true by simpa using hB]; rfl
def total (t : List Int) : Int := t.sum
theorem take_sum {t : List Int} {i : Nat} (hi : i < t.length) : (t.take (i + 1)).sum = (t.take i).sum + t.getD i 0 := by rw [take_succ' hi 0, List.sum_append]; simp
theorem sum_bound {t : List Int} (h : ∀ w ∈ t, 0 ≤ w ∧ w ≤ 16777215) : 0 ≤ t.sum ∧ t.sum ≤ 16777215 * t.length := by
  induction t with
  | nil => simp
  | cons a r ih =>
    have h1 := h a (by simp)
    have h2 := ih fun w hw => h w (by simp [hw])
    simp only [List.sum_cons, List.length_cons]
    omega
theorem Total_tr (s : Value) (t : List Int) (h1 : 1 ≤ t.length ∧ t.length ≤ 65536) (hw : ∀ w ∈ t, 0 ≤ w ∧ w ≤ 16777215) : Tr Tryz.prog 111 [s] [vw s (Is t)] [] fun v D => v = I t.sum ∧ D = [] := by
  refine Tr.enter env _ Tryz.func111 (by kernel_rfl) rfl Tryz.ntmps111 rfl (by repeat (first | exact has00 | refine has01 ?_)) fun w0 => ?_
  repeat' first|(refine wo ?_; first|(refine ao ?_; first|refine oa ?_)|refine oa ?_|refine lnm ?_|refine gy ?_|(refine gsi (fun hB => ?_) (fun hB => ?_) <;> try (exfalso; omega)))|(refine gc ?_; first|(refine ci (fun hB => ?_) (fun hB => ?_) <;> try (exfalso; omega)))|refine sq ?_|refine rg ?_|refine xc ?_|refine nl ?_|refine sk ?_|refine bk ?_
  refine TC.loop (ι := Nat) (fun i => [(15, I i), (2, I (t.take i).sum)]) (fun _ => []) (fun i => i ≤ t.length) (fun i => t.length - i) 0 [13, 14] (by simp) ?_
  rintro i h2
  by_cases hi : i < t.length
  · have hs := take_sum hi
    have hb := hw _ (mem_getD.2 ⟨i, hi, rfl⟩)
    have hc := sum_bound (t := t.take i) fun w h => hw w (List.mem_of_mem_take h)
    rw [List.length_take] at hc
    generalize hy : t.getD i 0 = y at *
    repeat' first|refine lie hy ?_|(refine wo ?_; first|(refine ao ?_; first|refine aw ?_|refine oa ?_)|refine oa ?_|refine ixmn ?_|refine gy ?_|(refine gsi (fun hB => ?_) (fun hB => ?_) <;> try (exfalso; omega)))|(refine gc ?_; first|(refine ci (fun hB => ?_) (fun hB => ?_) <;> try (exfalso; omega)))|refine sq ?_|refine rg ?_|refine xc ?_|refine nl ?_|refine sk ?_|refine bk ?_|refine xb ?_
    exact lp (i + 1) (by omega) (hs := by rw [hs]; (repeat (refine Sub.cons rfl (by first | rfl | go_num) ?_)); exact Sub.nil)
  · obtain rfl : i = t.length := by omega
    rw [List.take_length]
    repeat' first|(refine wo ?_; first|(refine ao ?_; first|refine oa ?_)|refine oa ?_)|(refine gc ?_; first|(refine ci (fun hB => ?_) (fun hB => ?_) <;> try (exfalso; omega)))|refine sq ?_|refine rg ?_|refine xc ?_|refine nl ?_|refine xe ?_|refine rt ?_
    exact r1 ⟨rfl, rfl⟩
end Go.Art
set_option linter.unusedSimpArgs false
set_option linter.unusedVariables false
namespace Go.Art
open Go Go.RowKit

section
variable {F : Fence} {m : Nat} {P : Program} {md : Region.Mode} {ops : Array Oper} {Q : Exit → Act → World → Prop} {S : World → Prop}
def YSg (P : Program) (ops : Array Oper) (S : World → Prop) (o : Oper) (v : Value) (a : Act) : Prop :=
  (Region.wanted o (yielded ops a.tmps) = true ∧ ∀ w, S w → (execOp a.eval o).run P w = .ok (.value v) w ∧ o.about P w a.eval = none) ∨ (Region.wanted o (yielded ops a.tmps) = false ∧ v = undef ∧ ∀ w, S w → o.about P w a.eval = none)
theorem wpAnyS_takeG {i d : Nat} {o : Op} {ty : TypeId} {pos : String} {after : Array Edge} {g : Option (Nat × Bool)} {v : Value} (hro : F.round = none) (hi : ops[i]? = some ⟨some d, o, ty, pos, after, g⟩) (hs : Region.noSelect ops = true) (hQ : ∀ c a w, ¬ Q (.panic c) a w) :
    ∀ (fuel : Nat) (listed : Array Bool) (a : Act) (w : World), Region.free md ops listed i = true → (Region.ready md ops listed).contains i = true → YSg P ops S ⟨some d, o, ty, pos, after, g⟩ v a → S w →
      wpAnyS F m P md ops Q S fuel (listed.setIfInBounds i true) (a.put (some d) v) w → wpAnyS F m P md ops Q S (fuel + 1) listed a w := by
  have hsel := fun j oj cs b (h : ops[j]? = some oj) => Region.noSelect_spec hs j oj cs b h
  have now : ∀ (K : Act → World → Prop) (a : Act) (w : World), YSg P ops S ⟨some d, o, ty, pos, after, g⟩ v a → S w → K (a.put (some d) v) w → wpOpIn F m P ops Q i K a w := fun K a w hy hS h => by
    unfold wpOpIn
    simp only [hi]
    rcases hy with ⟨hw, hy⟩ | ⟨hw, rfl, hy⟩
    · rw [if_pos hw]
      simp only [Oper.wpIn, hro, Oper.semAt_none, (hy w hS).1, Oper.uponIn]
      exact ⟨fun f hf => (by rw [(hy w hS).2] at hf; cases hf), h⟩
    · rw [if_neg (by rw [hw]; decide)]
      exact ⟨fun f hf => (by rw [hy w hS] at hf; cases hf), h⟩
  have gen : ∀ (fuel : Nat) (listed : Array Bool) (a : Act) (w : World), (∀ j oj, ops[j]? = some oj → j ≠ i → listed.getD j true = false → (∀ e ∈ oj.after, Region.binds md e = true → e.on ≠ i) → Oper.apart ops ⟨some d, o, ty, pos, after, g⟩ oj = true) →
      i ∈ Region.ready md ops listed → YSg P ops S ⟨some d, o, ty, pos, after, g⟩ v a → S w → wpAnyS F m P md ops Q S fuel (listed.setIfInBounds i true) (a.put (some d) v) w → wpAnyS F m P md ops Q S (fuel + 1) listed a w := by
    intro fuel
    induction fuel with
    | zero =>
      intro listed a w _ hr hy hS H
      refine ⟨fun h => (by rw [h] at hr; cases hr), fun j hj => ?_⟩
      by_cases hji : j = i
      · subst hji; exact now _ a w hy hS ⟨hS, H⟩
      · have := ready_mono hj hji
        rw [H.1] at this
        cases this
    | succ fuel ih =>
      intro listed a w hfree hr hy hS H
      refine ⟨fun h => (by rw [h] at hr; cases hr), fun j hj => ?_⟩
      by_cases hji : j = i
      · subst hji; exact now _ a w hy hS ⟨hS, H⟩
      · obtain ⟨hjun, oj, hoj, hall⟩ := mem_ready.1 hj
        have hnot : ∀ e ∈ oj.after, Region.binds md e = true → e.on ≠ i := fun e he hb heq => by
          have h1 := hall e he hb
          have h0 := (mem_ready.1 hr).1
          rw [heq] at h1
          rcases Nat.lt_or_ge i listed.size with h' | h'
          · simp [h'] at h0 h1; rw [h0] at h1; cases h1
          · simp [Array.getElem?_eq_none h'] at h1
        have hap := hfree j oj hoj hji hjun hnot
        obtain ⟨p1, p2, p3⟩ := Oper.apart_spec hap
        have hap2 : Oper.apart ops ⟨some d, .assign (.const v), ty, pos, after, none⟩ oj = true := by
          have q1 := p1 d rfl
          have q2 := p2 d rfl
          have q3 : Oper.looksAt ops ⟨some d, .assign (.const v), ty, pos, after, none⟩ = [] := rfl
          simp only [Oper.apart, q3]
          have r1 : (oj.looksAt ops).contains d = false := by simpa using q1
          have r2 : (oj.dst != some d) = true := by simpa using q2
          rw [r1, r2]
          cases oj.dst <;> rfl
        have hyf : YieldsFenced P ops ⟨some d, .assign (.const v), ty, pos, after, none⟩ v a := ⟨.inl ⟨rfl, fun w => rfl⟩, fun w => rfl⟩
        have h2 := wpOpIn_put hro hoj hap2 (fun cs b e => by cases e) (fun cs b => hsel j oj cs b hoj) (fun c a w h => absurd h (hQ c _ w)) hyf (H.2 j (ready_mono hj hji))
        have h3 := wpOpIn_own hro hoj h2
        refine wpOpIn_mono (fun a' w' h4 => ?_) h3
        obtain ⟨⟨u, df, rfl⟩, _, hS', h5⟩ := h4
        have hy' : YSg P ops S ⟨some d, o, ty, pos, after, g⟩ v (({ a with defers := df } : Act).put oj.dst u) := by
          have e1 := wanted_put ⟨some d, o, ty, pos, after, g⟩ ({ a with defers := df } : Act) oj.dst u p3
          rcases hy with ⟨hw, hy⟩ | ⟨hw, hv, hy⟩
          · refine .inl ⟨by rw [e1]; exact hw, fun w hw => ?_⟩
            rw [execOp_put _ (fun cs b => hsel i _ cs b hi) ({ a with defers := df } : Act) oj.dst u p3, about_put _ w ({ a with defers := df } : Act) oj.dst u p3]
            exact hy w hw
          · refine .inr ⟨by rw [e1]; exact hw, hv, fun w hw => ?_⟩
            rw [about_put _ w ({ a with defers := df } : Act) oj.dst u p3]
            exact hy w hw
        have hfree' : ∀ k ok, ops[k]? = some ok → k ≠ i → (listed.setIfInBounds j true).getD k true = false → (∀ e ∈ ok.after, Region.binds md e = true → e.on ≠ i) → Oper.apart ops ⟨some d, o, ty, pos, after, g⟩ ok = true := fun k ok hk hki hun hno => by
          refine hfree k ok hk hki ?_ hno
          by_cases hjk : j = k
          · subst hjk; exact hjun
          · rw [getD_set_ne true hjk] at hun; exact hun
        refine ⟨hS', ih (listed.setIfInBounds j true) _ w' hfree' (ready_mono hr (Ne.symm hji)) hy' hS' ?_⟩
        rw [Array.setIfInBounds_comm _ _ hji]
        exact h5
  intro fuel listed a w hf hr hy hS H
  exact gen fuel listed a w (Region.free_spec hi hf) (by simpa using hr) hy hS H
end

section
variable {P : Program} {E : Env P} {n : Sh} {X : Cx} {s : List K} {fr : Fr} {A : List Ch} {ops : Array Oper} {d j dj : Nat} {o : Op} {ty : TypeId} {pos : String} {after : Array Edge} {v : Value} {fuel : Nat} {listed : Array Bool} {S : World → Prop} {b b' : Bool}
theorem tkg (i : Nat) (hv : ∀ w, S w → OpV P n fr o ty w v w) (k : TS E n X s S ops fuel (listed.setIfInBounds i true) ((d, v) :: fr) A) (hi : ops[i]? = some ⟨some d, o, ty, pos, after, some (j, b)⟩ := by rfl) (hj : (ops[j]?).bind (·.dst) = some dj := by rfl) (hg : get fr dj = some (.bool b) := by rfl) (hlt : Nat.blt dj n.n = true := by rfl)
    (hs : Region.noSelect ops = true := by kernel_rfl) (hf : Region.free .any ops listed i = true := by kernel_rfl) (hr : (Region.ready .any ops listed).contains i = true := by kernel_rfl) (hrd : n.r = none := by rfl) (hd : Nat.blt d n.n = true := by rfl)
    (hab : ∀ w ρ, (⟨some d, o, ty, pos, after, some (j, b)⟩ : Oper).about P w ρ = none := by exact fun _ _ => rfl) : TS E n X s S ops (fuel + 1) listed fr A :=
  ⟨fun w hw hS a ha => wpAnyS_takeG (by simp [FF, hrd]) hi hs (fun c a w h => h.1 c rfl) fuel listed a w hf hr (.inl ⟨by simp only [Region.wanted, yielded_of ha hj hg hlt, beq_self_eq_true], fun w' hw' => ⟨(hv w' hw').run a ha _ _ _ _, hab _ _⟩⟩) hS (k.run w hw hS _ (ha.put hd v))⟩
theorem tkn (i : Nat) (k : TS E n X s S ops fuel (listed.setIfInBounds i true) ((d, undef) :: fr) A) (hi : ops[i]? = some ⟨some d, o, ty, pos, after, some (j, b')⟩ := by rfl) (hj : (ops[j]?).bind (·.dst) = some dj := by rfl) (hg : get fr dj = some (.bool b) := by rfl) (hb : b = !b' := by rfl) (hlt : Nat.blt dj n.n = true := by rfl)
    (hs : Region.noSelect ops = true := by kernel_rfl) (hf : Region.free .any ops listed i = true := by kernel_rfl) (hr : (Region.ready .any ops listed).contains i = true := by kernel_rfl) (hrd : n.r = none := by rfl) (hd : Nat.blt d n.n = true := by rfl)
    (hab : ∀ w ρ, (⟨some d, o, ty, pos, after, some (j, b')⟩ : Oper).about P w ρ = none := by exact fun _ _ => rfl) : TS E n X s S ops (fuel + 1) listed fr A :=
  ⟨fun w hw hS a ha => wpAnyS_takeG (by simp [FF, hrd]) hi hs (fun c a w h => h.1 c rfl) fuel listed a w hf hr (.inr ⟨by subst hb; simp only [Region.wanted, yielded_of ha hj hg hlt]; cases b' <;> rfl, rfl, fun w' _ => hab _ _⟩) hS (k.run w hw hS _ (ha.put hd undef))⟩
theorem tkga (i : Nat) (k : TS E n X s S ops fuel (listed.setIfInBounds i true) ((d, v) :: fr) A) (hi : ops[i]? = some ⟨some d, o, ty, pos, after, some (j, b)⟩ := by rfl) (hv : evOp E fr o = some v := by rfl) (hj : (ops[j]?).bind (·.dst) = some dj := by rfl) (hg : get fr dj = some (.bool b) := by rfl) (hlt : Nat.blt dj n.n = true := by rfl)
    (hs : Region.noSelect ops = true := by kernel_rfl) (hf : Region.free .any ops listed i = true := by kernel_rfl) (hr : (Region.ready .any ops listed).contains i = true := by kernel_rfl) (hrd : n.r = none := by rfl) (hd : Nat.blt d n.n = true := by rfl)
    (hab : ∀ w ρ, (⟨some d, o, ty, pos, after, some (j, b)⟩ : Oper).about P w ρ = none := by exact fun _ _ => rfl) : TS E n X s S ops (fuel + 1) listed fr A := tkg i (fun _ _ => R_auto hv) k hi hj hg hlt hs hf hr hrd hd hab
theorem Holds.dup {a : Act} (ha : Holds n a fr) {t : Nat} {v : Value} (hg : get fr t = some v) : Holds n a ((t, v) :: fr) := ⟨ha.size, ha.defers, fun u x hx => by
  simp only [get] at hx
  by_cases htu : t = u
  · subst htu; simp at hx; subst hx; exact ha.slot _ _ hg
  · have : (Nat.beq t u) = false := nbeq_f htu
    simp only [this, cond_false] at hx
    exact ha.slot _ _ hx⟩
theorem TS.split {t : Nat} (h1 : b = true → TS E n X s S ops fuel listed ((t, .bool true) :: fr) A) (h2 : b = false → TS E n X s S ops fuel listed ((t, .bool false) :: fr) A) (hg : get fr t = some (.bool b)) : TS E n X s S ops fuel listed fr A := by
  cases b with
  | true => exact ⟨fun w hw hS a ha => (h1 rfl).run w hw hS a (ha.dup hg)⟩
  | false => exact ⟨fun w hw hS a ha => (h2 rfl).run w hw hS a (ha.dup hg)⟩
end
end Go.Art
set_option linter.unusedSimpArgs false
set_option linter.unusedVariables false
namespace Go.Art
open Go Go.Proofs Go.RowKit
attribute [local irreducible] Fit pt own ro vw mpc lpt vels rels mow lrc dfr
attribute [local irreducible] lmp lme mit velg relg

theorem IIndexFunc_tr (s : Value) (l : List Int) (f : FuncId) (cap : List Value) (pre : List Ch) (p : Int → Bool)
    (hp : ∀ c ∈ pre, ∀ A : List Ch, c ∈ A → Has A c) (hf : ∀ x, x ∈ l → Tr Tryz.prog f (I x :: cap) pre [] fun v D => v = .bool (p x) ∧ D = []) :
    Tr Tryz.prog 139 [s, .func (.func f) #[] cap.toArray] (vw s (Is l) :: pre) [] fun v D => (∃ i : Int, v = I i ∧ (0 ≤ i ↔ l.any p = true)) ∧ D = [] := by
  refine Tr.enter env _ Tryz.func139 (by kernel_rfl) rfl Tryz.ntmps139 rfl (has01 fun c hc b => ⟨(hp c hc [c] (by simp)).wr b, (hp c hc [c] (by simp)).rd b⟩) fun w0 => ?_
  refine TC.leni (l := l) fun hlen => ?_
  repeat' first|(refine wo ?_; first|refine oa ?_|refine lnm ?_)|refine sq ?_|refine rg ?_|refine xc ?_|refine nl ?_|refine bk ?_
  refine TC.loop (ι := Nat) (fun i => [(8, I i)]) (fun _ => []) (fun i => i ≤ l.length ∧ ∀ j, j < i → p (l.getD j 0) = false) (fun i => l.length - i) 0 [0, 1, 6, 7] ⟨by omega, by omega⟩ ?_
  rintro i ⟨h1, h2⟩
  by_cases hi : i < l.length
  · have hmem : l.getD i 0 ∈ l := mem_getD.2 ⟨i, hi, rfl⟩
    generalize hy : l.getD i 0 = y at *
    repeat' first|refine lie hy ?_|(refine cav (vs := [I y]) (cap := cap.toArray) (hf _ hmem) ?_ rfl rfl Fit.nil (fun c hc => hp c hc _ (by simp [hc])) rfl; rintro _ _ ⟨rfl, rfl⟩)|(refine wo ?_; first|(refine ao ?_; first|refine aw ?_|refine oa ?_)|refine oa ?_|refine ixmn ?_)|(refine gc ?_; first|(refine ci (fun hB => ?_) (fun hB => ?_) <;> try (exfalso; omega))|(refine cb (fun hB => ?_) (fun hB => ?_) <;> try (exfalso; omega)))|refine sq ?_|refine rg ?_|refine xc ?_|refine nl ?_|refine sk ?_|refine bk ?_|refine rt ?_|refine xb ?_
    · exact r1 ⟨⟨i, rfl, fun _ => List.any_eq_true.2 ⟨_, hmem, hB⟩, fun _ => by omega⟩, rfl⟩
    · refine lp (i + 1) ⟨by omega, fun j hj => ?_⟩
      by_cases e : j = i
      · rw [e, hy]; exact hB
      · exact h2 j (by omega)
  · repeat' first|(refine wo ?_; first|(refine ao ?_; first|refine oa ?_)|refine oa ?_)|(refine gc ?_; first|(refine ci (fun hB => ?_) (fun hB => ?_) <;> try (exfalso; omega)))|refine sq ?_|refine rg ?_|refine xc ?_|refine nl ?_|refine xe ?_|refine rt ?_
    refine r1 ⟨⟨-1, rfl, by omega, fun h => ?_⟩, rfl⟩
    obtain ⟨x, hl1, hl2⟩ := List.any_eq_true.1 h
    obtain ⟨j, hj, rfl⟩ := mem_getD.1 hl1
    have := h2 j (by omega)
    rw [hl2] at this; cases this
theorem IContainsFunc_tr (s : Value) (l : List Int) (f : FuncId) (cap : List Value) (pre : List Ch) (p : Int → Bool)
    (hp : ∀ c ∈ pre, ∀ A : List Ch, c ∈ A → Has A c) (hf : ∀ x, x ∈ l → Tr Tryz.prog f (I x :: cap) pre [] fun v D => v = .bool (p x) ∧ D = []) :
    Tr Tryz.prog 107 [s, .func (.func f) #[] cap.toArray] (vw s (Is l) :: pre) [] fun v D => v = .bool (l.any p) ∧ D = [] := by
  refine Tr.enter env _ Tryz.func107 (by kernel_rfl) rfl Tryz.ntmps107 rfl (has01 fun c hc b => ⟨(hp c hc [c] (by simp)).wr b, (hp c hc [c] (by simp)).rd b⟩) fun w0 => ?_
  repeat' first|(refine gca ?_; first|(refine ca (vs := [s, .func (.func f) #[] cap.toArray]) (IIndexFunc_tr s l f cap pre p hp hf) ?_ rfl Fit.nil (has1 (has_vw (by simp)) (fun c hc => hp c hc _ (by simp [hc]))) rfl; rintro _ _ ⟨⟨i, rfl, hi⟩, rfl⟩))|(refine wo ?_; first|(refine ao ?_; first|refine oa ?_)|refine oa ?_)|refine sq ?_|refine rg ?_|refine xc ?_|refine nl ?_|refine rt ?_
  refine r1 ⟨?_, rfl⟩
  congr 1; rw [Bool.eq_iff_iff, decide_eq_true_iff]; exact hi
abbrev TAl : TypeId := 24
def farB (m x : Int) : Bool := decide (x < 0 ∨ m < x)
def alE (tot : Int) (cut oth : List Int) : Int := if tot < 1 ∨ 1099511627776 < tot ∨ cut.length < 1 ∨ 65536 < cut.length ∨ oth.length ≠ cut.length then 6 else if cut.any (farB tot) || oth.any (farB (cut.length - 1)) then 6 else 0
theorem far1_tr (m x : Int) (b : Nat) : Tr Tryz.prog 106 [I x, ptr b] [lpt b [I m] 3] [] fun v D => v = .bool (farB m x) ∧ D = [] := by
  refine Tr.enter env _ Tryz.func106 (by kernel_rfl) rfl Tryz.ntmps106 rfl (by repeat (first | exact has00 | refine has01 ?_)) fun w0 => ?_
  repeat' first|(refine wo ?_; first|(refine ao ?_; first|refine oa ?_)|refine oa ?_|refine ldl ?_|refine gy ?_|refine gn ?_|(refine gsi (fun hB => ?_) (fun hB => ?_) <;> try (exfalso; omega)))|refine sq ?_|refine rg ?_|refine xc ?_|refine nl ?_|refine rt ?_
  all_goals refine r1 ⟨?_, rfl⟩
  all_goals unfold farB
  all_goals first
    | rw [decide_eq_true (show x < 0 ∨ m < x by omega)]
    | (congr 1; exact decide_eq_decide.2 ⟨fun h => by omega, fun h => by omega⟩)
theorem far_tr (m : Int) : Tr Tryz.prog 105 [I m] [] [] fun v D => ∃ b, v = .func (.func 106) #[] #[ptr b] ∧ D = [pt b [I m] 3] := by
  refine Tr.enter env _ Tryz.func105 (by kernel_rfl) rfl Tryz.ntmps105 rfl (by repeat (first | exact has00 | refine has01 ?_)) fun w0 => ?_
  repeat' first|refine bx1 fun b => ?_|(refine wo ?_; first|refine oa ?_)|refine sq ?_|refine rg ?_|refine xc ?_|refine nl ?_|refine rt ?_
  exact r1 ⟨b, rfl, rfl⟩
theorem AlCheck_tr (tot : Int) (cv ov : Value) (cut oth : List Int) (hc : cv.oneCell' = true) (ho : ov.oneCell' = true) : Tr Tryz.prog 72 [.agg #[I tot, cv, ov]] [vw cv (Is cut), vw ov (Is oth)] [] fun v D => v = I (alE tot cut oth) ∧ D = [] := by
  refine Tr.enter env _ Tryz.func72 (by kernel_rfl) rfl Tryz.ntmps72 rfl (by repeat (first | exact has00 | refine has01 ?_)) fun w0 => ?_
  refine TC.leni (l := cut) fun hl1 => ?_
  refine TC.leni (l := oth) fun hl2 => ?_
  repeat' first|refine bx fun b => ?_|(refine wo ?_; first|(refine ao ?_; first|refine oa ?_)|refine oa ?_|refine ld ?_|refine lnm ?_|refine gy ?_|refine gn ?_|(refine gsi (fun hB => ?_) (fun hB => ?_) <;> try (exfalso; omega)))|(refine gc ?_; first|refine ct ?_|(refine cn (fun hB => ?_) (fun hB => ?_) <;> try (exfalso; omega)))|refine sq ?_|refine rg ?_|refine xc ?_|refine nl ?_|refine sk ?_|refine rt ?_
  · exact r1 ⟨by rw [alE, if_pos (by omega)], rfl⟩
  · exact r1 ⟨by rw [alE, if_pos (by omega)], rfl⟩
  · exact r1 ⟨by rw [alE, if_pos (by omega)], rfl⟩
  · exact r1 ⟨by rw [alE, if_pos (by omega)], rfl⟩
  · exact r1 ⟨by rw [alE, if_pos (by omega)], rfl⟩
  rw [show alE tot cut oth = if cut.any (farB tot) || oth.any (farB (cut.length - 1)) then 6 else 0 by rw [alE, if_neg (by omega)]]
  have hcl : cut.length ≤ 65536 := by omega
  refine rs (fun w => w.heap[b]? = some (.cells #[I tot, cv, ov] TAl (0, 0))) ?_ (fun w hw => pt_at (by (repeat (first | apply List.Mem.head | apply List.Mem.tail)); first | done | fail) hw)
  refine tka 0 ?_
  refine tkl 1 (cs := [I tot, cv, ov]) (fun w h => h) ?_
  refine tka 2 ?_
  refine tka 3 ?_
  refine tkl 4 (cs := [I tot, cv, ov]) (fun w h => h) ?_
  refine t1 5 ?_
  refine cav (vs := [I tot]) (cap := #[]) (far_tr tot) ?_
  rintro _ _ ⟨b1, rfl, rfl⟩
  repeat' first|refine nl ?_
  refine te (fun w hw => pt_at (by (repeat (first | apply List.Mem.head | apply List.Mem.tail)); first | done | fail) hw) ?_
  refine t1 6 ?_
  refine ca (IContainsFunc_tr cv cut _ [ptr b1] [lpt b1 [I tot] 3] (farB tot) lpt_has (fun x _ => far1_tr tot x b1)) ?_
  rintro _ _ ⟨rfl, rfl⟩
  repeat' first|refine nl ?_
  refine te (fun w hw => pt_at (by (repeat (first | apply List.Mem.head | apply List.Mem.tail)); first | done | fail) hw) ?_
  refine tka 7 ?_
  refine TS.split (t := 38) (fun h1 => ?_) (fun h1 => ?_) rfl
  · rw [h1]
    refine tkn 8 ?_
    refine tkn 9 ?_
    refine tkn 10 ?_
    refine tkn 11 ?_
    refine tkn 12 ?_
    refine t1 13 ?_
    repeat' first|(refine wo ?_; first|refine gn ?_)|refine nl ?_
    refine te (fun w hw => pt_at (by (repeat (first | apply List.Mem.head | apply List.Mem.tail)); first | done | fail) hw) ?_
    refine t1 14 ?_
    repeat' first|(refine wo ?_; first|refine gn ?_)|refine nl ?_
    refine te (fun w hw => pt_at (by (repeat (first | apply List.Mem.head | apply List.Mem.tail)); first | done | fail) hw) ?_
    refine tka 15 ?_
    refine t0 ?_
    repeat' first|(refine wo ?_; first|refine oa ?_)|(refine gc ?_; first|refine ct ?_)|refine sq ?_|refine rg ?_|refine xc ?_|refine nl ?_|refine rt ?_
    exact r1 ⟨rfl, rfl⟩
  · rw [h1]
    refine tkga 8 ?_
    refine tkg 9 (v := ov) (fun w h => R_load (E := env) rfl rfl rfl (blk_cell h rfl)) ?_
    refine tkga 10 ?_
    refine tkga 11 ?_
    refine tkg 12 (v := I ((cut.length : Int) - 1)) (fun w h => R_wrap (R_auto (E := env) rfl) (by omega)) ?_
    refine t1 13 ?_
    refine gy ?_
    refine cav (vs := [I ((cut.length : Int) - 1)]) (cap := #[]) (far_tr _) ?_
    rintro _ _ ⟨b2, rfl, rfl⟩
    repeat' first|refine nl ?_
    refine te (fun w hw => pt_at (by (repeat (first | apply List.Mem.head | apply List.Mem.tail)); first | done | fail) hw) ?_
    refine t1 14 ?_
    refine gy ?_
    refine ca (IContainsFunc_tr ov oth _ [ptr b2] [lpt b2 [I ((cut.length : Int) - 1)] 3] (farB (cut.length - 1)) lpt_has (fun x _ => far1_tr _ x b2)) ?_
    rintro _ _ ⟨rfl, rfl⟩
    repeat' first|refine nl ?_
    refine te (fun w hw => pt_at (by (repeat (first | apply List.Mem.head | apply List.Mem.tail)); first | done | fail) hw) ?_
    refine tka 15 ?_
    refine t0 ?_
    repeat' first|(refine wo ?_; first|refine oa ?_)|(refine gc ?_; first|(refine cb (fun hB => ?_) (fun hB => ?_) <;> try (exfalso; omega)))|refine sq ?_|refine rg ?_|refine xc ?_|refine nl ?_|refine sk ?_|refine rt ?_
    · exact r1 ⟨by rw [hB]; first | done | rfl, rfl⟩
    · exact r1 ⟨by rw [hB]; first | done | rfl, rfl⟩
def alPick (tot : Int) (cut oth : List Int) (c l : Int) : Int := if l < cut.getD c.toNat 0 then c else oth.getD c.toNat 0
theorem AlPick_tr (tot c l : Int) (cv ov : Value) (cut oth : List Int) (hc : cv.oneCell' = true) (ho : ov.oneCell' = true) (hE : alE tot cut oth = 0) (h1 : 0 ≤ c ∧ c < cut.length) (h2 : 0 ≤ l ∧ l < tot) :
    Tr Tryz.prog 97 [.agg #[I tot, cv, ov], I c, I l] [vw cv (Is cut), vw ov (Is oth)] [] fun v D => v = tup2 (I (alPick tot cut oth c l)) (I 0) ∧ D = [] := by
  have hol : oth.length = cut.length := by
    unfold alE at hE
    split at hE
    · cases hE
    · omega
  refine Tr.enter env _ Tryz.func97 (by kernel_rfl) rfl Tryz.ntmps97 rfl (by repeat (first | exact has00 | refine has01 ?_)) fun w0 => ?_
  repeat' first|(refine gca ?_; first|(refine ca (AlCheck_tr tot cv ov cut oth hc ho) ?_; rintro _ _ ⟨rfl, rfl⟩; rw [hE]))|refine bx fun b => ?_|refine lda ?_|(refine wo ?_; first|(refine ao ?_; first|refine oa ?_)|refine oa ?_|refine ld ?_|refine lnm ?_|refine ixm ?_|refine li ?_|refine gy ?_|(refine gsi (fun hB => ?_) (fun hB => ?_) <;> try (exfalso; omega)))|(refine gc ?_; first|refine cf ?_|(refine ci (fun hB => ?_) (fun hB => ?_) <;> try (exfalso; omega)))|refine sq ?_|refine rg ?_|refine xc ?_|refine nl ?_|refine sk ?_|refine bk ?_|refine rt ?_|refine xb ?_
  · refine r2 ⟨?_, rfl⟩
    unfold alPick; rw [if_pos hB]
  · refine r2 ⟨?_, rfl⟩
    unfold alPick; rw [if_neg hB]
end Go.Art
set_option linter.unusedSimpArgs false
set_option linter.unusedVariables false
namespace Go.Art
open Go Go.Proofs Go.RowKit
def rwE (tot : Int) (cut oth : List Int) (k : Int) : Int := if alE tot cut oth = 0 then (if k < 1 ∨ 65536 < k ∨ k < cut.length then 3 else 0) else 6
theorem alE_or (tot : Int) (cut oth : List Int) : alE tot cut oth = 0 ∨ alE tot cut oth = 6 := by
  unfold alE
  split
  · exact .inr rfl
  · split
    · exact .inr rfl
    · exact .inl rfl
theorem alE_bnd {tot : Int} {cut oth : List Int} (hE : alE tot cut oth = 0) : (1 ≤ tot ∧ tot ≤ 1099511627776) ∧ 1 ≤ cut.length ∧ cut.length ≤ 65536 := by
  unfold alE at hE
  split at hE
  · cases hE
  · omega
theorem rwE_ok {tot : Int} {cut oth : List Int} {k : Int} (h : rwE tot cut oth k = 0) : alE tot cut oth = 0 ∧ 1 ≤ k ∧ k ≤ 65536 ∧ cut.length ≤ k := by
  unfold rwE at h
  split at h
  · rename_i h1
    split at h
    · cases h
    · exact ⟨h1, by omega, by omega, by omega⟩
  · cases h
theorem alPick_in {tot : Int} {cut oth : List Int} (hE : alE tot cut oth = 0) {c l : Int} (h1 : 0 ≤ c ∧ c < cut.length) : 0 ≤ alPick tot cut oth c l ∧ alPick tot cut oth c l < cut.length := by
  unfold alE at hE
  split at hE
  · cases hE
  · split at hE
    · cases hE
    · rename_i h3 h2
      unfold alPick
      split
      · omega
      · have hm : oth.getD c.toNat 0 ∈ oth := mem_getD.2 ⟨_, by omega, rfl⟩
        refine Classical.byContradiction fun hn => h2 ?_
        rw [Bool.or_eq_true]
        refine .inr (List.any_eq_true.2 ⟨_, hm, decide_eq_true ?_⟩)
        omega
def plcW (tot : Int) (cut oth : List Int) (x : Lw) : (Int × Int) × (Lw × Int) :=
  if (drw cut.length x).1.2 = 0 then
    (if (drw tot (drw cut.length x).2).1.2 = 0 then ((alPick tot cut oth (drw cut.length x).1.1 (drw tot (drw cut.length x).2).1.1, 0), ((drw tot (drw cut.length x).2).2, 2))
      else ((0, (drw tot (drw cut.length x).2).1.2), ((drw tot (drw cut.length x).2).2, 1)))
  else ((0, (drw cut.length x).1.2), ((drw cut.length x).2, 0))
theorem plcW_in {tot : Int} {cut oth : List Int} {x : Lw} (hE : alE tot cut oth = 0) (h : (plcW tot cut oth x).1.2 = 0) : 0 ≤ (plcW tot cut oth x).1.1 ∧ (plcW tot cut oth x).1.1 < cut.length := by
  unfold plcW at h ⊢
  split
  · rename_i h1
    rw [if_pos h1] at h
    split
    · exact alPick_in hE (drw_rng h1)
    · rename_i h2; rw [if_neg h2] at h; exact absurd h h2
  · rename_i h1; rw [if_neg h1] at h; exact absurd h h1
theorem plcW_u (tot : Int) (cut oth : List Int) (x : Lw) : 0 ≤ (plcW tot cut oth x).2.2 ∧ (plcW tot cut oth x).2.2 ≤ 2 := by
  unfold plcW
  split
  · split
    · dsimp only; omega
    · dsimp only; omega
  · dsimp only; omega
theorem okL_plc (tot : Int) (cut oth : List Int) {x : Lw} (h : okL x) : okL (plcW tot cut oth x).2.1 := by
  unfold plcW
  split
  · split
    · exact okL_drw _ (okL_drw _ h)
    · exact okL_drw _ (okL_drw _ h)
  · exact okL_drw _ h
def setW (tot : Int) (cut oth : List Int) (k : Int) (x : Lw) : (List Int × Int) × (Lw × Int) :=
  if rwE tot cut oth k = 0 then
    (if (plcW tot cut oth x).1.2 = 0 then (pickO k ((plcW tot cut oth x).1.1 + 1) (plcW tot cut oth x).2.1, ((ordO k ((plcW tot cut oth x).1.1 + 1) (plcW tot cut oth x).2.1).2.1, (plcW tot cut oth x).2.2 + (ordO k ((plcW tot cut oth x).1.1 + 1) (plcW tot cut oth x).2.1).2.2))
      else (([], (plcW tot cut oth x).1.2), (plcW tot cut oth x).2))
  else (([], rwE tot cut oth k), (x, 0))
attribute [local irreducible] Fit pt own ro vw mpc lpt vels rels mow lrc dfr
attribute [local irreducible] lmp lme mit velg relg
theorem RwE_tr (tot k : Int) (cv ov : Value) (cut oth : List Int) (hc : cv.oneCell' = true) (ho : ov.oneCell' = true) : Tr Tryz.prog 29 [.agg #[I tot, cv, ov], I k] [vw cv (Is cut), vw ov (Is oth)] []
    fun v D => v = I (rwE tot cut oth k) ∧ D = [] := by
  have hA := AlCheck_tr tot cv ov cut oth hc ho
  unfold rwE
  rcases alE_or tot cut oth with hE | hE
  · rw [hE] at hA
    rw [if_pos hE]
    refine Tr.enter env _ Tryz.func29 (by kernel_rfl) rfl Tryz.ntmps29 rfl (by repeat (first | exact has00 | refine has01 ?_)) fun w0 => ?_
    repeat' first|(refine gca ?_; first|(refine ca hA ?_; rintro _ _ ⟨rfl, rfl⟩))|refine bx fun b => ?_|refine lda ?_|(refine wo ?_; first|(refine ao ?_; first|refine oa ?_)|refine oa ?_|refine ld ?_|refine lnm ?_|refine gy ?_|refine gn ?_|(refine gsi (fun hB => ?_) (fun hB => ?_) <;> try (exfalso; omega)))|(refine gc ?_; first|refine ct ?_|refine cf ?_|(refine ci (fun hB => ?_) (fun hB => ?_) <;> try (exfalso; omega)))|refine sq ?_|refine rg ?_|refine xc ?_|refine nl ?_|refine sk ?_|refine bk ?_|refine rt ?_|refine xb ?_
    · exact r1 ⟨by rw [if_pos (by omega)], rfl⟩
    · exact r1 ⟨by rw [if_pos (by omega)], rfl⟩
    · exact r1 ⟨by rw [if_pos (by omega)], rfl⟩
    · exact r1 ⟨by rw [if_neg (by omega)], rfl⟩
  · rw [hE] at hA
    rw [if_neg (by omega)]
    refine Tr.enter env _ Tryz.func29 (by kernel_rfl) rfl Tryz.ntmps29 rfl (by repeat (first | exact has00 | refine has01 ?_)) fun w0 => ?_
    repeat' first|(refine gca ?_; first|(refine ca hA ?_; rintro _ _ ⟨rfl, rfl⟩))|refine bx fun b => ?_|refine lda ?_|(refine wo ?_; first|(refine ao ?_; first|refine oa ?_)|refine oa ?_)|(refine gc ?_; first|refine ct ?_)|refine sq ?_|refine rg ?_|refine xc ?_|refine nl ?_|refine bk ?_|refine rt ?_
    exact r1 ⟨rfl, rfl⟩
theorem placeW_tr (tot : Int) (cv ov : Value) (cut oth : List Int) (b r : Nat) (sv : Value) (x : Lw) (used : Int) (hx : okL x) (hu : 0 ≤ used ∧ used ≤ 1000) (hc : cv.oneCell' = true) (ho : ov.oneCell' = true) (hE : alE tot cut oth = 0) :
    Tr Tryz.prog 64 [.agg #[I tot, cv, ov], ptr b] [vw cv (Is cut), vw ov (Is oth)] [lot b r sv x used] fun v D => v = tup2 (I (plcW tot cut oth x).1.1) (I (plcW tot cut oth x).1.2) ∧ ∃ sv', D = [lot b r sv' (plcW tot cut oth x).2.1 (used + (plcW tot cut oth x).2.2)] := by
  have hb := alE_bnd hE
  have h1 := DrawL_tr b r sv x used cut.length hx (by omega)
  unfold plcW
  by_cases he1 : (drw cut.length x).1.2 = 0
  · rw [if_pos he1]
    rw [show dru cut.length x = 1 from if_pos he1, he1] at h1
    have l1 := drw_rng he1
    have hx1 := okL_drw cut.length hx
    clear he1
    generalize (drw cut.length x).1.1 = c at *
    generalize (drw cut.length x).2 = x1 at *
    have h2 := fun sv1 => DrawL_tr b r sv1 x1 (used + 1) tot hx1 (by omega)
    by_cases he2 : (drw tot x1).1.2 = 0
    · rw [if_pos he2]
      rw [show dru tot x1 = 1 from if_pos he2, he2] at h2
      have l2 := drw_rng he2
      clear he2
      generalize (drw tot x1).1.1 = l at *
      generalize (drw tot x1).2 = x2 at *
      rw [show used + 1 + 1 = used + 2 by omega] at h2
      refine Tr.enter env _ Tryz.func64 (by kernel_rfl) rfl Tryz.ntmps64 rfl (by repeat (first | exact has00 | refine has01 ?_)) fun w0 => ?_
      repeat' first|(refine gca ?_; first|(refine ca h1 ?_; rintro _ _ ⟨rfl, sv1, rfl⟩)|(refine ca (h2 sv1) ?_; rintro _ _ ⟨rfl, sv2, rfl⟩)|(refine ca (AlPick_tr tot c l cv ov cut oth hc ho hE (by omega) (by omega)) ?_; rintro _ _ ⟨rfl, rfl⟩))|refine bx fun b => ?_|refine lda ?_|(refine wo ?_; first|(refine ao ?_; first|refine oa ?_)|refine oa ?_|refine ld ?_|refine lnm ?_)|(refine gc ?_; first|refine cf ?_)|refine sq ?_|refine rg ?_|refine xc ?_|refine nl ?_|refine sk ?_|refine rt ?_
      exact r2 ⟨rfl, sv2, rfl⟩
    · rw [if_neg he2]
      rw [show dru tot x1 = 0 from if_neg he2, Int.add_zero] at h2
      generalize (drw tot x1).1.1 = n2 at *
      generalize (drw tot x1).1.2 = e2 at *
      generalize (drw tot x1).2 = x2 at *
      refine Tr.enter env _ Tryz.func64 (by kernel_rfl) rfl Tryz.ntmps64 rfl (by repeat (first | exact has00 | refine has01 ?_)) fun w0 => ?_
      repeat' first|(refine gca ?_; first|(refine ca h1 ?_; rintro _ _ ⟨rfl, sv1, rfl⟩)|(refine ca (h2 sv1) ?_; rintro _ _ ⟨rfl, sv2, rfl⟩))|refine bx fun b => ?_|refine lda ?_|(refine wo ?_; first|(refine ao ?_; first|refine oa ?_)|refine oa ?_|refine ld ?_|refine lnm ?_)|(refine gc ?_; first|refine cf ?_|(refine cn (fun hB => ?_) (fun hB => ?_) <;> try (exfalso; omega)))|refine sq ?_|refine rg ?_|refine xc ?_|refine nl ?_|refine sk ?_|refine rt ?_
      exact r2 ⟨rfl, sv2, rfl⟩
  · rw [if_neg he1]
    rw [show dru cut.length x = 0 from if_neg he1, Int.add_zero] at h1
    rw [Int.add_zero]
    generalize (drw cut.length x).1.1 = n2 at *
    generalize (drw cut.length x).1.2 = e2 at *
    generalize (drw cut.length x).2 = x2 at *
    refine Tr.enter env _ Tryz.func64 (by kernel_rfl) rfl Tryz.ntmps64 rfl (by repeat (first | exact has00 | refine has01 ?_)) fun w0 => ?_
    repeat' first|(refine gca ?_; first|(refine ca h1 ?_; rintro _ _ ⟨rfl, sv1, rfl⟩))|refine bx fun b => ?_|refine lda ?_|(refine wo ?_; first|(refine ao ?_; first|refine oa ?_)|refine oa ?_|refine ld ?_|refine lnm ?_)|(refine gc ?_; first|(refine cn (fun hB => ?_) (fun hB => ?_) <;> try (exfalso; omega)))|refine sq ?_|refine rg ?_|refine xc ?_|refine nl ?_|refine rt ?_
    exact r2 ⟨rfl, sv1, rfl⟩
theorem SetW_tr (tot k : Int) (cv ov : Value) (cut oth : List Int) (b r : Nat) (sv : Value) (x : Lw) (hx : okL x) (hc : cv.oneCell' = true) (ho : ov.oneCell' = true) :
    Tr Tryz.prog 24 [.agg #[I tot, cv, ov], I k, ptr b] [vw cv (Is cut), vw ov (Is oth)] [lot b r sv x 0] fun v D => ∃ o sv', v = tup2 o (I (setW tot cut oth k x).1.2) ∧ D = [own TLI o (Is (setW tot cut oth k x).1.1), lot b r sv' (setW tot cut oth k x).2.1 (setW tot cut oth k x).2.2] := by
  have hck := RwE_tr tot k cv ov cut oth hc ho
  unfold setW
  by_cases hk : rwE tot cut oth k = 0
  rotate_left
  · rw [if_neg hk]
    generalize rwE tot cut oth k = e at *
    refine Tr.enter env _ Tryz.func24 (by kernel_rfl) rfl Tryz.ntmps24 rfl (by repeat (first | exact has00 | refine has01 ?_)) fun w0 => ?_
    repeat' first|(refine gca ?_; first|(refine ca hck ?_; rintro _ _ ⟨rfl, rfl⟩))|refine bx fun b => ?_|refine lda ?_|(refine wo ?_; first|(refine ao ?_; first|refine oa ?_)|refine oa ?_)|(refine gc ?_; first|(refine cn (fun hB => ?_) (fun hB => ?_) <;> try (exfalso; omega)))|refine sq ?_|refine rg ?_|refine xc ?_|refine nl ?_|refine rt ?_
    refine TX.im (own_nil TLI _) ?_
    exact r2 ⟨nS, sv, rfl, rfl⟩
  rw [hk] at hck
  rw [if_pos hk]
  obtain ⟨hE, k1, k2, k3⟩ := rwE_ok hk
  clear hk
  have h1 := placeW_tr tot cv ov cut oth b r sv x 0 hx (by omega) hc ho hE
  have hpu := plcW_u tot cut oth x
  have hpx := okL_plc tot cut oth hx
  rw [Int.zero_add] at h1
  by_cases hp : (plcW tot cut oth x).1.2 = 0
  · have hat := plcW_in hE hp
    rw [if_pos hp]
    rw [hp] at h1
    generalize (plcW tot cut oth x).1.1 = at1 at *
    generalize (plcW tot cut oth x).2.1 = x2 at *
    generalize (plcW tot cut oth x).2.2 = u2 at *
    have h2 := fun sv1 => PickL_tr b r sv1 x2 u2 k (at1 + 1) hpx (by omega)
    generalize pickO k (at1 + 1) x2 = pk at *
    generalize ordO k (at1 + 1) x2 = oo at *
    refine Tr.enter env _ Tryz.func24 (by kernel_rfl) rfl Tryz.ntmps24 rfl (by repeat (first | exact has00 | refine has01 ?_)) fun w0 => ?_
    repeat' first|(refine gca ?_; first|(refine ca hck ?_; rintro _ _ ⟨rfl, rfl⟩)|(refine ca h1 ?_; rintro _ _ ⟨rfl, sv1, rfl⟩)|(refine ca (h2 sv1) ?_; rintro _ _ ⟨o, sv2, rfl, rfl⟩))|refine bx fun b => ?_|refine lda ?_|(refine wo ?_; first|(refine ao ?_; first|refine aw ?_|refine oa ?_)|refine oa ?_)|(refine gc ?_; first|refine cf ?_)|refine sq ?_|refine rg ?_|refine xc ?_|refine nl ?_|refine sk ?_|refine rt ?_
    exact r2 ⟨o, sv2, rfl, rfl⟩
  · rw [if_neg hp]
    generalize plcW tot cut oth x = pl at *
    refine Tr.enter env _ Tryz.func24 (by kernel_rfl) rfl Tryz.ntmps24 rfl (by repeat (first | exact has00 | refine has01 ?_)) fun w0 => ?_
    repeat' first|(refine gca ?_; first|(refine ca hck ?_; rintro _ _ ⟨rfl, rfl⟩)|(refine ca h1 ?_; rintro _ _ ⟨rfl, sv1, rfl⟩))|refine bx fun b => ?_|refine lda ?_|(refine wo ?_; first|(refine ao ?_; first|refine oa ?_)|refine oa ?_)|(refine gc ?_; first|refine cf ?_|(refine cn (fun hB => ?_) (fun hB => ?_) <;> try (exfalso; omega)))|refine sq ?_|refine rg ?_|refine xc ?_|refine nl ?_|refine sk ?_|refine rt ?_
    refine TX.im (own_nil TLI _) ?_
    exact r2 ⟨nS, sv1, rfl, rfl⟩
end Go.Art
set_option linter.unusedSimpArgs false
set_option linter.unusedVariables false
namespace Go.Art
open Go Go.Proofs Go.RowKit
section
variable {P : Program} {E : Env P} {n : Sh} {X : Cx} {s : List K} {fr : Fr} {A : List Ch} {ops : Array Oper} {fuel : Nat} {listed : Array Bool} {S : World → Prop} {a b : Code}
theorem sq_cutX {ι : Type} (p : ι → Prop) (fr' : ι → Fr) (B : ι → List Ch) (hb : ∀ i, p i → TC E n X s b (fr' i) (B i)) (ha : (∀ i, p i → ∀ fr2 A2, Sub (fr' i) fr2 → ∀ {G}, Fit A2 (B i) G → TC E n X s b fr2 A2) → TC E n X (.code b :: s) a fr A) : TC E n X s (.seq a b) fr A :=
  sq (ha fun i hp fr2 A2 hs _ hf => ⟨fun w hw => SC_sub (fr' i) hs ((hb i hp).run w ((hw.im hf).im (Im.drop _ _)))⟩)
theorem t3 (i j k : Nat) {oi oj ok : Oper} (h1 : TO E n ⟨RQ P ops n.r (NP P n.r X.Q s) S fuel (listed.setIfInBounds i true), X.w0, X.A0⟩ [] ops [oi] fr A) (h2 : TO E n ⟨RQ P ops n.r (NP P n.r X.Q s) S fuel (listed.setIfInBounds j true), X.w0, X.A0⟩ [] ops [oj] fr A)
    (h3 : TO E n ⟨RQ P ops n.r (NP P n.r X.Q s) S fuel (listed.setIfInBounds k true), X.w0, X.A0⟩ [] ops [ok] fr A) (hi : ops[i]? = some oi := by rfl) (hj : ops[j]? = some oj := by rfl) (hk : ops[k]? = some ok := by rfl)
    (hr : Region.ready .any ops listed = [i, j, k] := by kernel_rfl) : TS E n X s S ops (fuel + 1) listed fr A :=
  tn [i, j, k] hr (by simp) fun m hm => by
    simp only [List.mem_cons, List.not_mem_nil, or_false] at hm
    rcases hm with rfl | rfl | rfl
    · exact ⟨oi, hi, h1⟩
    · exact ⟨oj, hj, h2⟩
    · exact ⟨ok, hk, h3⟩
theorem tkw (i : Nat) (c : Int) {m : Int} {d : Nat} {o : Op} {ty : TypeId} {pos : String} {after : Array Edge} (k : TS E n X s S ops fuel (listed.setIfInBounds i true) ((d, I c) :: fr) A) (hi : ops[i]? = some ⟨some d, o, ty, pos, after, none⟩ := by rfl) (hv : evOp E fr o = some (.int .i64 (IntKind.i64.wrap m)) := by rfl) (he : m = c := by first | rfl | assumption | omega) (hb : -9223372036854775808 ≤ c ∧ c ≤ 9223372036854775807 := by omega) (hs : Region.noSelect ops = true := by kernel_rfl) (hf : Region.free .any ops listed i = true := by kernel_rfl)
    (hr : (Region.ready .any ops listed).contains i = true := by kernel_rfl) (hrd : n.r = none := by rfl) (hd : Nat.blt d n.n = true := by rfl) (hab : ∀ w ρ, (⟨some d, o, ty, pos, after, none⟩ : Oper).about P w ρ = none := by exact fun _ _ => rfl) : TS E n X s S ops (fuel + 1) listed fr A :=
  tk i (fun _ _ => by subst he; exact R_wrap (R_auto hv) hb) k hi hs hf hr hrd hd hab
theorem res_at {fn : Func} {w : World} {a : Act} (ha : Holds n a fr) {t u : Nat} {ty T : TypeId} {dt : TypeDesc} {z : Value} {sz by_ b : Nat} {cs vs : List Value} {v2 : Value} (hr : fn.results = #[.cell t ty, .tmp u]) (ht : lk E.und ty = some dt) (hg : aggB dt = true) (hi : lk E.inf ty = some (z, sz, by_)) (h1 : get fr t = some (ptr b))
    (hb : w.heap[b]? = some (.cells cs.toArray T (0, 0))) (hv : cs.take sz = vs) (hl : vs.length = sz) (h2 : get fr u = some v2) : (results fn a.tmps).run P w = .ok (.tuple #[.agg vs.toArray, v2]) w := by
  obtain ⟨inf, g1, _, g2, _⟩ := E.info hi
  have h3 := run_loadCells_list (P := P) w ⟨b, 0, none⟩ vs (fun m u hm => by
    rw [Addr.add_lit]
    refine blk_cell hb ?_
    rw [← hv, List.getElem?_take] at hm
    split at hm
    · simpa using hm
    · cases hm)
  rw [hl] at h3
  have e1 : a.tmps[t]?.getD undef = ptr b := by have := ha.slot t _ h1; simpa using this
  have e2 : a.tmps[u]?.getD undef = v2 := by have := ha.slot u _ h2; simpa using this
  simp only [results, hr]
  simp [e1, e2, asAddr, loadVar, aggB_t (w := w) ht hg, sizeOf, typeInfo, g1, g2, h3]
theorem rca {w0 : World} {A0 D G : List Ch} {R' : Value → List Ch → Prop} {fn : Func} {t u nn : Nat} {ty T : TypeId} {dt : TypeDesc} {z : Value} {sz by_ b : Nat} {cs vs : List Value} {v2 : Value} (h : R' (.tuple #[.agg vs.toArray, v2]) D) (hr : fn.results = #[.cell t ty, .tmp u] := by rfl) (ht : lk E.und ty = some dt := by rfl) (hg : aggB dt = true := by rfl) (hi : lk E.inf ty = some (z, sz, by_) := by rfl)
    (hv : get fr t = some (ptr b) := by rfl) (hv2 : get fr u = some v2 := by rfl) (hm : pt b cs T ∈ A := by (repeat (first | apply List.Mem.head | apply List.Mem.tail)); first | done | fail) (hcs : cs.take sz = vs := by rfl) (hl : vs.length = sz := by rfl) (hf : Fit A D G := by first | apply Fit.all | ((repeat (first | (apply Fit.nilN; (repeat (first | apply nrm_nil | apply nrm_cons)); try apply nrm_rfl) | (apply Fit.cons; focus ((repeat (first | apply Tk.here | apply Tk.there)); first | done | fail)))); first | done | fail)) (nb : ∀ c ∈ D, ∀ b, ¬ c.bd b := by (repeat (first | exact nb0 | refine nb1 ?_)); first | done | fail) :
    TX E ⟨nn, [], none⟩ ⟨bodyPost P fn (RetP (PR w0 A0 R')), w0, A0⟩ [] .ret fr A := ⟨fun w hw => ⟨fun a ha =>
  bodyPost_ret (res_at (E := E) ha hr ht hg hi hv (hw.mem hm) hcs hl hv2) (ha.defers.trans rfl) ⟨_, rfl, PR.mk h hw hf nb⟩⟩⟩
end
section
variable {P : Program} {E : Env P} {n : Sh} {X : Cx} {s : List K} {fr : Fr} {A : List Ch} {a b : Code}
theorem cutY {ι : Type} (p : ι → Prop) (fr' : ι → Fr) (B : ι → List Ch) (hb : ∀ i, p i → TC E n X s b (fr' i) (B i)) (ha : ∀ b' : Code, (∀ i, p i → ∀ fr2 A2, Sub (fr' i) fr2 → ∀ {G}, Fit A2 (B i) G → TC E n X s b' fr2 A2) → TC E n X (.code b' :: s) a fr A) : TC E n X (.code b :: s) a fr A :=
  ha b fun i hp fr2 A2 hs _ hf => ⟨fun w hw => SC_sub (fr' i) hs ((hb i hp).run w ((hw.im hf).im (Im.drop _ _)))⟩
end
end Go.Art
set_option linter.unusedSimpArgs false
set_option linter.unusedVariables false
namespace Go.Art
open Go Go.Proofs Go.RowKit
theorem Ty.bnd {P : Program} {l : Nat} {vs : List Value} {pre C : List Ch} {R : Bool → List Ch → Prop} (h : Ty P l vs pre C fun b D => R b [bnd D]) : Ty P l vs pre [bnd C] R := by
  refine ⟨fun w hw => ?_, h.lent⟩
  have e : ∀ {w : World} {D : List Ch}, Sat [Go.Art.bnd D] w ↔ Sat D w := fun {w D} => by
    rw [bnd_sat, List.append_nil]
  have h1 : Sat (pre ++ C) w := by
    obtain ⟨a1, a2, a3⟩ := Sat.app.1 hw
    have a4 := e.1 a2
    refine Sat.app.2 ⟨a1, a4, fun a ha c hc => ?_⟩
    have a5 := a3 a ha (Go.Art.bnd C) (List.Mem.head _)
    exact ⟨fun b hb hf => a5.1 b hb (bnd_ft.2 ⟨c, hc, hf⟩), fun b hb hf => a5.2 b ⟨c, hc, hb⟩ hf⟩
  have e1 : ∀ {D : List Ch} {b : Nat}, wrs [Go.Art.bnd D] b ↔ wrs D b := fun {D b} => by have := bnd_wrs (C := D) (F := []) (b := b); rwa [List.append_nil] at this
  have e2 : ∀ {D : List Ch} {b : Nat}, rds [Go.Art.bnd D] b ↔ rds D b := fun {D b} => by have := bnd_rds (C := D) (F := []) (b := b); rwa [List.append_nil] at this
  refine (h.run w h1).mono fun b w' ⟨B, hR, hS, hM, hB⟩ => ⟨[Go.Art.bnd B], hR, e.2 hS, ⟨hM.os, hM.tape, hM.output, hM.size, fun k hk hn => hM.block k hk fun hm => hn (e1.2 hm), fun x hx => ?_, fun x hx => ?_⟩, fun c hc x hx => ?_⟩
  · rcases hM.wr x (e1.1 hx) with h2 | h2
    · exact .inl (e1.2 h2)
    · exact .inr h2
  · rcases hM.rd x (e2.1 hx) with h2 | h2 | h2
    · exact .inl (e1.2 h2)
    · exact .inr (.inl (e2.2 h2))
    · exact .inr (.inr h2)
  · obtain rfl := List.mem_singleton.1 hc
    obtain ⟨y, hy, h2⟩ := hx
    exact hB y hy x h2
theorem Tr.unb {P : Program} {f : FuncId} {args : List Value} {pre C : List Ch} {R R' : Value → List Ch → Prop} (h : Tr P f args pre [Go.Art.bnd C] R) (k : ∀ v D, R v D → ∃ C', D = [Go.Art.bnd C'] ∧ R' v C') : Tr P f args pre C R' := by
  refine ⟨fun w hw => ?_, h.lent⟩
  have hw' : Sat (pre ++ [Go.Art.bnd C]) w := by
    have h1 : Sat (C ++ pre) w := hw.perm List.perm_append_comm
    exact (bnd_sat.2 h1).perm (List.perm_append_comm (l₁ := [Go.Art.bnd C]) (l₂ := pre))
  have e1 : ∀ (C : List Ch) (b : Nat), wrs [Go.Art.bnd C] b ↔ wrs C b := fun C b => by have := bnd_wrs (C := C) (F := []) (b := b); rwa [List.append_nil] at this
  have e2 : ∀ (C : List Ch) (b : Nat), rds [Go.Art.bnd C] b ↔ rds C b := fun C b => by have := bnd_rds (C := C) (F := []) (b := b); rwa [List.append_nil] at this
  refine (h.run w hw').mono fun v w' ⟨B, hR, hS, hM, hB⟩ => ?_
  obtain ⟨C', rfl, hR'⟩ := k v B hR
  refine ⟨C', hR', by have := bnd_sat.1 hS; rwa [List.append_nil] at this, ?_, fun c hc b hb => hB _ (List.Mem.head _) b ⟨c, hc, hb⟩⟩
  exact ⟨hM.os, hM.tape, hM.output, hM.size, fun k hk hn => hM.block k hk fun h => hn ((e1 C k).1 h), fun b hb => (hM.wr b ((e1 C' b).2 hb)).imp_left (e1 C b).1,
    fun b hb => (hM.rd b ((e2 C' b).2 hb)).imp (e1 C b).1 (Or.imp_left (e2 C b).1)⟩
theorem bnd_nob {C : List Ch} (h : ∀ c ∈ C, ∀ b, ¬ c.bd b) (b : Nat) : ¬ (bnd C).bd b := fun ⟨c, hc, hb⟩ => h c hc b hb
structure SeqL (P : Program) (f : FuncId) (cap : Array Value) (pre : List Ch) (L : List (List Int)) : Prop where
  run : ∀ {α : Type} (l : Nat) (J : α → Ch) (pl : α → Nat → Prop) (S : α → Prop) (a0 : α), pl a0 0 → (∀ a b, ¬ (J a).bd b) →
    (∀ a i x, pl a i → i < L.length → Ty P l [x] [vw x (Is (L.getD i []))] [J a] fun ok B => ∃ a', B = [J a'] ∧ ((ok = true ∧ pl a' (i + 1)) ∨ (ok = false ∧ S a'))) →
    Tr P f (yv l :: cap.toList) pre [J a0] fun _ B => ∃ a, B = [J a] ∧ (pl a L.length ∨ S a)
  lent : ∀ c ∈ pre, ∀ b, ¬ c.wr b ∧ ¬ c.rd b
def endsL : Nat → Nat → List Int → List (List Int)
  | 0, _, b => [b]
  | d + 1, k, b => (List.range k).flatMap fun i : Nat => endsL d (k - 1) (b ++ [(i : Int)])
theorem fm_succ {α : Type} (f : Nat → List α) (i : Nat) : (List.range (i + 1)).flatMap f = (List.range i).flatMap f ++ f i := by
  rw [List.range_succ, List.flatMap_append]; simp
theorem fm_pre {α : Type} (f : Nat → List α) {i k : Nat} (h : i ≤ k) : ∃ r, (List.range k).flatMap f = (List.range i).flatMap f ++ r := by
  obtain ⟨m, rfl⟩ := Nat.exists_eq_add_of_le h
  induction m with
  | zero => exact ⟨[], by simp⟩
  | succ m ih =>
    obtain ⟨r, hr⟩ := ih (Nat.le_add_right _ _)
    exact ⟨r ++ f (i + m), by rw [← Nat.add_assoc, fm_succ, hr, List.append_assoc]⟩
theorem fm_get {α : Type} (f : Nat → List α) {i k j : Nat} (h : i < k) (hj : j < (f i).length) (z : α) : ((List.range i).flatMap f).length + j < ((List.range k).flatMap f).length ∧ ((List.range k).flatMap f).getD (((List.range i).flatMap f).length + j) z = (f i).getD j z := by
  obtain ⟨r, hr⟩ := fm_pre f (i := i + 1) (k := k) h
  rw [hr, fm_succ]
  refine ⟨by simp; omega, ?_⟩
  rw [List.getD_eq_getElem?_getD, List.getD_eq_getElem?_getD, List.append_assoc, List.getElem?_append_right (by omega), Nat.add_sub_cancel_left, List.getElem?_append_left hj]
theorem fm_len {α : Type} (f : Nat → List α) (i : Nat) : ((List.range (i + 1)).flatMap f).length = ((List.range i).flatMap f).length + (f i).length := by rw [fm_succ, List.length_append]
abbrev TLs : TypeId := 22
abbrev TYl : TypeId := 137
structure EnG (α : Type) where
  i : Nat
  a : α
  Ds : List Nat
attribute [local irreducible] Fit pt own ro vw mpc lpt vels rels mow lrc dfr
attribute [local irreducible] lmp lme mit velg relg bnd owl dfrl
theorem Clip_tr (v : Value) (l : List Int) : Tr Tryz.prog 141 [v] [vw v (Is l)] [] fun u D => u = clipV v l.length ∧ D = [] := by
  refine Tr.enter env _ Tryz.func141 (by kernel_rfl) rfl Tryz.ntmps141 rfl (by repeat (first | exact has00 | refine has01 ?_)) fun w0 => ?_
  repeat' first|refine clv (v := v) (l := l) ?_|(refine wo ?_; first|refine oa ?_|refine lnm ?_)|refine sq ?_|refine rg ?_|refine xc ?_|refine nl ?_|refine rt ?_
  exact r1 ⟨rfl, rfl⟩
theorem ends_tr (v : Value) (k d : Int) (hv : v.oneCell' = true) : Tr Tryz.prog 109 [v, I k, I d] [] [] fun u D => ∃ pd pb pk, u = .func (.func 140) #[] #[ptr pd, ptr pb, ptr pk] ∧ D = [pt pb [v] TLs, pt pk [I k] 3, pt pd [I d] 3] := by
  refine Tr.enter env _ Tryz.func109 (by kernel_rfl) rfl Tryz.ntmps109 rfl (by repeat (first | exact has00 | refine has01 ?_)) fun w0 => ?_
  repeat' first|refine bx1 fun b => ?_|(refine wo ?_; first|refine oa ?_)|refine sq ?_|refine rg ?_|refine xc ?_|refine nl ?_|refine rt ?_
  exact r1 ⟨_, _, _, rfl, rfl⟩
theorem ends1_seq : ∀ (d k : Nat) (b : List Int) (pd pb pk : Nat) (v : Value), k ≤ 65536 → b.length + d ≤ 100000 → v.oneCell' = true → SeqL Tryz.prog 140 #[ptr pd, ptr pb, ptr pk] [lpt pd [I d] 3, lpt pb [v] TLs, lpt pk [I k] 3, vw v (Is b)] (endsL d k b)
  | 0, k, b, pd, pb, pk, v, hk, hb, hv => by
    refine ⟨fun {α} l J pl S a0 h0 hnb hy => ?_, by repeat (first | exact has00 | refine has01 ?_)⟩
    haveI : ∀ a, NoB (J a) := fun a => ⟨hnb a⟩
    have h1 := hy a0 0 v h0 (by simp [endsL])
    rw [show (endsL 0 k b).getD 0 [] = b from rfl] at h1
    refine Tr.enterM env _ Tryz.func140 (by kernel_rfl) rfl Tryz.ntmps140 rfl (by repeat (first | exact has00 | refine has01 ?_)) fun w0 => ?_
    repeat' first|refine bx1 fun q => ?_|(refine cy h1 ?_; rintro ok _ ⟨a1, rfl, hs⟩)|(refine wo ?_; first|(refine ao ?_; first|refine oa ?_)|refine ld ?_|refine ldl ?_)|(refine gc ?_; first|refine ct ?_)|refine sq ?_|refine rg ?_|refine xc ?_|refine nl ?_|refine rt ?_
    refine TX.im (dfrl_nil _) ?_
    exact m0 (Ds := []) ⟨a1, rfl, hs.imp (·.2) (·.2)⟩
  | d + 1, k, b, pd, pb, pk, v, hk, hb, hv => by
    refine ⟨fun {α} l J pl S a0 h0 hnb hy => ?_, by repeat (first | exact has00 | refine has01 ?_)⟩
    haveI : ∀ a, NoB (J a) := fun a => ⟨hnb a⟩
    refine Tr.enterM env _ Tryz.func140 (by kernel_rfl) rfl Tryz.ntmps140 rfl (by repeat (first | exact has00 | refine has01 ?_)) fun w0 => ?_
    repeat' first|refine bx1 fun q => ?_|(refine wo ?_; first|(refine ao ?_; first|refine oa ?_)|refine oa ?_|refine ldl ?_)|(refine gc ?_; first|refine cf ?_)|refine sq ?_|refine rg ?_|refine xc ?_|refine nl ?_|refine sk ?_|refine bk ?_
    refine TC.im (dfrl_nil _) ?_
    refine TC.loopD (ι := EnG α) (fun g => g.Ds) (fun g => [(13, I g.i)]) (fun g => [dfrl g.Ds, pt q [yv l] TYl, J g.a]) (fun g => g.i ≤ k ∧ pl g.a ((List.range g.i).flatMap fun i : Nat => endsL d (k - 1) (b ++ [(i : Int)])).length) (fun g => k - g.i) ⟨0, a0, []⟩ [1, 2, 3, 4, 12] ⟨Nat.zero_le _, h0⟩ ?_
    rintro ⟨i, a, Ds⟩ ⟨hi, ha⟩
    dsimp only at hi ha ⊢
    by_cases hlt : i < k
    · have ih := fun pd pb pk v hv => ends1_seq d (k - 1) (b ++ [(i : Int)]) pd pb pk v (by omega) (by simp; omega) hv
      have hg := fun j (hj : j < (endsL d (k - 1) (b ++ [(i : Int)])).length) => fm_get (fun i : Nat => endsL d (k - 1) (b ++ [(i : Int)])) hlt hj []
      have hE := fun v hv => ends_tr v ((k - 1 : Nat) : Int) (d : Int) hv
      have hlen := fm_len (fun i : Nat => endsL d (k - 1) (b ++ [(i : Int)])) i
      have hbl : b.length + 1 ≤ 17592186044416 := by omega
      have hdb : d ≤ 100000 := by omega
      clear hb
      repeat' first|(refine wo ?_; first|(refine ao ?_; first|refine oa ?_)|refine oa ?_)|(refine gc ?_; first|(refine ci (fun hB => ?_) (fun hB => ?_) <;> try (exfalso; omega)))|refine sq ?_|refine rg ?_|refine xc ?_|refine nl ?_|refine sk ?_|refine bk ?_
      refine rs (fun w => w.heap[pb]? = some (.cells [v].toArray TLs (0, 0)) ∧ w.heap[pk]? = some (.cells [I k].toArray 3 (0, 0)) ∧ w.heap[pd]? = some (.cells [I ((d + 1 : Nat) : Int)].toArray 3 (0, 0))) ?_ (fun w hw => ⟨lpt_at (b := pb) (cs := [v]) (T := TLs) (by (repeat (first | apply List.Mem.head | apply List.Mem.tail)); first | done | fail) hw, lpt_at (b := pk) (cs := [I k]) (T := 3) (by (repeat (first | apply List.Mem.head | apply List.Mem.tail)); first | done | fail) hw, lpt_at (b := pd) (cs := [I ((d + 1 : Nat) : Int)]) (T := 3) (by (repeat (first | apply List.Mem.head | apply List.Mem.tail)); first | done | fail) hw⟩)
      refine tkl 0 (cs := [v]) (fun w h => h.1) ?_
      refine tka 2 ?_
      refine tkl 5 (cs := [I k]) (fun w h => h.2.1) ?_
      refine tkw 6 ((k - 1 : Nat) : Int) ?_
      refine tkl 7 (cs := [I ((d + 1 : Nat) : Int)]) (fun w h => h.2.2) ?_
      refine tkw 8 (d : Int) ?_
      refine t2 1 3 ?_ ?_
      · refine ca (Clip_tr v b) ?_
        rintro _ _ ⟨rfl, rfl⟩
        refine nl ?_
        refine te (fun w hw => ⟨lpt_at (b := pb) (cs := [v]) (T := TLs) (by (repeat (first | apply List.Mem.head | apply List.Mem.tail)); first | done | fail) hw, lpt_at (b := pk) (cs := [I k]) (T := 3) (by (repeat (first | apply List.Mem.head | apply List.Mem.tail)); first | done | fail) hw, lpt_at (b := pd) (cs := [I ((d + 1 : Nat) : Int)]) (T := 3) (by (repeat (first | apply List.Mem.head | apply List.Mem.tail)); first | done | fail) hw⟩) ?_
        refine t1 3 ?_
        refine slii [(i : Int)] fun v1 => ?_
        refine nl ?_
        refine te (fun w hw => ⟨lpt_at (b := pb) (cs := [v]) (T := TLs) (by (repeat (first | apply List.Mem.head | apply List.Mem.tail)); first | done | fail) hw, lpt_at (b := pk) (cs := [I k]) (T := 3) (by (repeat (first | apply List.Mem.head | apply List.Mem.tail)); first | done | fail) hw, lpt_at (b := pd) (cs := [I ((d + 1 : Nat) : Int)]) (T := 3) (by (repeat (first | apply List.Mem.head | apply List.Mem.tail)); first | done | fail) hw⟩) ?_
        refine t1 4 ?_
        refine apc (v := v) (l := b) (news := [(i : Int)]) (fun v2 hv2 => ?_)
        refine nl ?_
        refine te (fun w hw => ⟨lpt_at (b := pb) (cs := [v]) (T := TLs) (by (repeat (first | apply List.Mem.head | apply List.Mem.tail)); first | done | fail) hw, lpt_at (b := pk) (cs := [I k]) (T := 3) (by (repeat (first | apply List.Mem.head | apply List.Mem.tail)); first | done | fail) hw, lpt_at (b := pd) (cs := [I ((d + 1 : Nat) : Int)]) (T := 3) (by (repeat (first | apply List.Mem.head | apply List.Mem.tail)); first | done | fail) hw⟩) ?_
        refine t1 9 ?_
        refine ca (hE v2 hv2) ?_
        rintro _ _ ⟨pd2, pb2, pk2, rfl, rfl⟩
        refine nl ?_
        refine te (fun w hw => ⟨lpt_at (b := pb) (cs := [v]) (T := TLs) (by (repeat (first | apply List.Mem.head | apply List.Mem.tail)); first | done | fail) hw, lpt_at (b := pk) (cs := [I k]) (T := 3) (by (repeat (first | apply List.Mem.head | apply List.Mem.tail)); first | done | fail) hw, lpt_at (b := pd) (cs := [I ((d + 1 : Nat) : Int)]) (T := 3) (by (repeat (first | apply List.Mem.head | apply List.Mem.tail)); first | done | fail) hw⟩) ?_
        refine t0 ?_
        repeat' first|refine xc ?_|refine bk ?_
        have hS := @SeqL.run _ _ _ _ _ (ih pd2 pb2 pk2 v2 hv2)
        clear ih hE
        refine TC.range [lpt pd2 [I d] 3, lpt pb2 [v2] TLs, lpt pk2 [I ((k - 1 : Nat) : Int)] 3, vw v2 (Is (b ++ [(i : Int)]))] [pt q [yv l] TYl, J a] (fun l2 rec Dm pend B' => ∃ a', B' = [dfr Dm, pt q [yv l] TYl, J a'] ∧ ((pend = none ∧ pl a' ((List.range (i + 1)).flatMap fun i : Nat => endsL d (k - 1) (b ++ [(i : Int)])).length) ∨ (pend = some .ret ∧ S a'))) ?_ ?_
        · intro rec l2 Dm hr
          refine Tr.unb (hS (α := α × Bool) l2 (fun p => bnd [lrc l2 rec (bif p.2 then .done else .ready) (bif p.2 then some .ret else none), dfr Dm, pt q [yv l] TYl, J p.1]) (fun p j => p.2 = false ∧ pl p.1 (((List.range i).flatMap fun i : Nat => endsL d (k - 1) (b ++ [(i : Int)])).length + j)) (fun p => p.2 = true ∧ S p.1) (a, false) ⟨rfl, ha⟩ (fun p => bnd_nob (nb1 (nb1 (nb1 (nb1 nb0))))) ?_) ?_
          · rintro ⟨a1, s⟩ j x ⟨hs1, hpl⟩ hj
            dsimp only at hs1 hpl
            subst hs1
            obtain ⟨hg1, hg2⟩ := hg j hj
            have h2 := hy a1 _ x hpl hg1
            rw [show (endsL (d + 1) k b).getD _ [] = (endsL d (k - 1) (b ++ [(i : Int)])).getD j [] from hg2] at h2
            refine Ty.bnd ?_
            refine Ty.intro env hr (by repeat (first | exact has00 | refine has01 ?_)) fun w1 => ?_
            repeat' first|refine xbeg ?_|(refine cy h2 ?_; rintro ok _ ⟨a2, rfl, ⟨rfl, h3⟩ | ⟨rfl, h3⟩⟩)|(refine wo ?_; first|refine oa ?_|refine ld ?_)|(refine gc ?_; first|refine ct ?_|refine cf ?_)|refine sq ?_|refine rg ?_|refine xc ?_|refine nl ?_|refine sk ?_|refine bk ?_|refine rt ?_|refine xb ?_
            · exact yn ⟨(a2, false), rfl, .inl ⟨rfl, rfl, h3⟩⟩
            · exact yr ⟨(a2, true), rfl, .inr ⟨rfl, rfl, h3⟩⟩
          · rintro _ _ ⟨⟨a1, s⟩, rfl, ⟨hs1, h3⟩ | ⟨hs1, h3⟩⟩
            · dsimp only at hs1 h3
              subst hs1
              exact ⟨_, rfl, .ready, none, _, rfl, by decide, a1, rfl, .inl ⟨rfl, by rw [hlen]; exact h3⟩⟩
            · dsimp only at hs1 h3
              subst hs1
              exact ⟨_, rfl, .done, some .ret, _, rfl, by decide, a1, rfl, .inr ⟨rfl, h3⟩⟩
        · rintro l2 rec Dm pend B' ⟨a1, rfl, ⟨rfl, h3⟩ | ⟨rfl, h3⟩⟩
          · show TX env _ _ _ _ _ _
            refine TX.im (dfrl_push (D := Dm) (Ds := Ds) (by first | apply Fit.all | ((repeat (first | (apply Fit.nilN; (repeat (first | apply nrm_nil | apply nrm_cons)); try apply nrm_rfl) | (apply Fit.cons; focus ((repeat (first | apply Tk.here | apply Tk.there)); first | done | fail)))); first | done | fail))) ?_
            repeat' first|(refine wo ?_; first|(refine ao ?_; first|refine aw ?_)|refine oa ?_)|refine rg ?_|refine xc ?_|refine nl ?_|refine xb ?_
            exact lpD ⟨i + 1, a1, Dm :: Ds⟩ ⟨hlt, h3⟩
          · show TC env _ _ _ _ _ _
            refine TC.im (dfrl_push (D := Dm) (Ds := Ds) (by first | apply Fit.all | ((repeat (first | (apply Fit.nilN; (repeat (first | apply nrm_nil | apply nrm_cons)); try apply nrm_rfl) | (apply Fit.cons; focus ((repeat (first | apply Tk.here | apply Tk.there)); first | done | fail)))); first | done | fail))) ?_
            repeat' first|refine rt ?_
            exact m0 (Ds := Dm :: Ds) ⟨a1, rfl, .inr h3⟩
      · refine slii [(i : Int)] fun v1 => ?_
        refine nl ?_
        refine te (fun w hw => ⟨lpt_at (b := pb) (cs := [v]) (T := TLs) (by (repeat (first | apply List.Mem.head | apply List.Mem.tail)); first | done | fail) hw, lpt_at (b := pk) (cs := [I k]) (T := 3) (by (repeat (first | apply List.Mem.head | apply List.Mem.tail)); first | done | fail) hw, lpt_at (b := pd) (cs := [I ((d + 1 : Nat) : Int)]) (T := 3) (by (repeat (first | apply List.Mem.head | apply List.Mem.tail)); first | done | fail) hw⟩) ?_
        refine t1 1 ?_
        refine ca (Clip_tr v b) ?_
        rintro _ _ ⟨rfl, rfl⟩
        refine nl ?_
        refine te (fun w hw => ⟨lpt_at (b := pb) (cs := [v]) (T := TLs) (by (repeat (first | apply List.Mem.head | apply List.Mem.tail)); first | done | fail) hw, lpt_at (b := pk) (cs := [I k]) (T := 3) (by (repeat (first | apply List.Mem.head | apply List.Mem.tail)); first | done | fail) hw, lpt_at (b := pd) (cs := [I ((d + 1 : Nat) : Int)]) (T := 3) (by (repeat (first | apply List.Mem.head | apply List.Mem.tail)); first | done | fail) hw⟩) ?_
        refine t1 4 ?_
        refine apc (v := v) (l := b) (news := [(i : Int)]) (fun v2 hv2 => ?_)
        refine nl ?_
        refine te (fun w hw => ⟨lpt_at (b := pb) (cs := [v]) (T := TLs) (by (repeat (first | apply List.Mem.head | apply List.Mem.tail)); first | done | fail) hw, lpt_at (b := pk) (cs := [I k]) (T := 3) (by (repeat (first | apply List.Mem.head | apply List.Mem.tail)); first | done | fail) hw, lpt_at (b := pd) (cs := [I ((d + 1 : Nat) : Int)]) (T := 3) (by (repeat (first | apply List.Mem.head | apply List.Mem.tail)); first | done | fail) hw⟩) ?_
        refine t1 9 ?_
        refine ca (hE v2 hv2) ?_
        rintro _ _ ⟨pd2, pb2, pk2, rfl, rfl⟩
        refine nl ?_
        refine te (fun w hw => ⟨lpt_at (b := pb) (cs := [v]) (T := TLs) (by (repeat (first | apply List.Mem.head | apply List.Mem.tail)); first | done | fail) hw, lpt_at (b := pk) (cs := [I k]) (T := 3) (by (repeat (first | apply List.Mem.head | apply List.Mem.tail)); first | done | fail) hw, lpt_at (b := pd) (cs := [I ((d + 1 : Nat) : Int)]) (T := 3) (by (repeat (first | apply List.Mem.head | apply List.Mem.tail)); first | done | fail) hw⟩) ?_
        refine t0 ?_
        repeat' first|refine xc ?_|refine bk ?_
        have hS := @SeqL.run _ _ _ _ _ (ih pd2 pb2 pk2 v2 hv2)
        clear ih hE
        refine TC.range [lpt pd2 [I d] 3, lpt pb2 [v2] TLs, lpt pk2 [I ((k - 1 : Nat) : Int)] 3, vw v2 (Is (b ++ [(i : Int)]))] [pt q [yv l] TYl, J a] (fun l2 rec Dm pend B' => ∃ a', B' = [dfr Dm, pt q [yv l] TYl, J a'] ∧ ((pend = none ∧ pl a' ((List.range (i + 1)).flatMap fun i : Nat => endsL d (k - 1) (b ++ [(i : Int)])).length) ∨ (pend = some .ret ∧ S a'))) ?_ ?_
        · intro rec l2 Dm hr
          refine Tr.unb (hS (α := α × Bool) l2 (fun p => bnd [lrc l2 rec (bif p.2 then .done else .ready) (bif p.2 then some .ret else none), dfr Dm, pt q [yv l] TYl, J p.1]) (fun p j => p.2 = false ∧ pl p.1 (((List.range i).flatMap fun i : Nat => endsL d (k - 1) (b ++ [(i : Int)])).length + j)) (fun p => p.2 = true ∧ S p.1) (a, false) ⟨rfl, ha⟩ (fun p => bnd_nob (nb1 (nb1 (nb1 (nb1 nb0))))) ?_) ?_
          · rintro ⟨a1, s⟩ j x ⟨hs1, hpl⟩ hj
            dsimp only at hs1 hpl
            subst hs1
            obtain ⟨hg1, hg2⟩ := hg j hj
            have h2 := hy a1 _ x hpl hg1
            rw [show (endsL (d + 1) k b).getD _ [] = (endsL d (k - 1) (b ++ [(i : Int)])).getD j [] from hg2] at h2
            refine Ty.bnd ?_
            refine Ty.intro env hr (by repeat (first | exact has00 | refine has01 ?_)) fun w1 => ?_
            repeat' first|refine xbeg ?_|(refine cy h2 ?_; rintro ok _ ⟨a2, rfl, ⟨rfl, h3⟩ | ⟨rfl, h3⟩⟩)|(refine wo ?_; first|refine oa ?_|refine ld ?_)|(refine gc ?_; first|refine ct ?_|refine cf ?_)|refine sq ?_|refine rg ?_|refine xc ?_|refine nl ?_|refine sk ?_|refine bk ?_|refine rt ?_|refine xb ?_
            · exact yn ⟨(a2, false), rfl, .inl ⟨rfl, rfl, h3⟩⟩
            · exact yr ⟨(a2, true), rfl, .inr ⟨rfl, rfl, h3⟩⟩
          · rintro _ _ ⟨⟨a1, s⟩, rfl, ⟨hs1, h3⟩ | ⟨hs1, h3⟩⟩
            · dsimp only at hs1 h3
              subst hs1
              exact ⟨_, rfl, .ready, none, _, rfl, by decide, a1, rfl, .inl ⟨rfl, by rw [hlen]; exact h3⟩⟩
            · dsimp only at hs1 h3
              subst hs1
              exact ⟨_, rfl, .done, some .ret, _, rfl, by decide, a1, rfl, .inr ⟨rfl, h3⟩⟩
        · rintro l2 rec Dm pend B' ⟨a1, rfl, ⟨rfl, h3⟩ | ⟨rfl, h3⟩⟩
          · show TX env _ _ _ _ _ _
            refine TX.im (dfrl_push (D := Dm) (Ds := Ds) (by first | apply Fit.all | ((repeat (first | (apply Fit.nilN; (repeat (first | apply nrm_nil | apply nrm_cons)); try apply nrm_rfl) | (apply Fit.cons; focus ((repeat (first | apply Tk.here | apply Tk.there)); first | done | fail)))); first | done | fail))) ?_
            repeat' first|(refine wo ?_; first|(refine ao ?_; first|refine aw ?_)|refine oa ?_)|refine rg ?_|refine xc ?_|refine nl ?_|refine xb ?_
            exact lpD ⟨i + 1, a1, Dm :: Ds⟩ ⟨hlt, h3⟩
          · show TC env _ _ _ _ _ _
            refine TC.im (dfrl_push (D := Dm) (Ds := Ds) (by first | apply Fit.all | ((repeat (first | (apply Fit.nilN; (repeat (first | apply nrm_nil | apply nrm_cons)); try apply nrm_rfl) | (apply Fit.cons; focus ((repeat (first | apply Tk.here | apply Tk.there)); first | done | fail)))); first | done | fail))) ?_
            repeat' first|refine rt ?_
            exact m0 (Ds := Dm :: Ds) ⟨a1, rfl, .inr h3⟩
    · obtain rfl : i = k := by omega
      repeat' first|(refine wo ?_; first|(refine ao ?_; first|refine oa ?_))|(refine gc ?_; first|(refine ci (fun hB => ?_) (fun hB => ?_) <;> try (exfalso; omega)))|refine sq ?_|refine rg ?_|refine xc ?_|refine nl ?_|refine xe ?_
      exact m0e ⟨a, rfl, .inl ha⟩
end Go.Art
set_option linter.unusedSimpArgs false
set_option linter.unusedVariables false
namespace Go.Art
open Go Go.Proofs Go.RowKit
structure Cel (ps : List (Nat × Value)) (qs : List (Nat × List Value)) : Prop where
  eq : ps.map (fun p => (p.1, p.2.cells.toList)) = qs
theorem Cel.nil : Cel [] [] := ⟨rfl⟩
theorem Cel.one {i : Nat} {v : Value} {ps : List (Nat × Value)} {qs : List (Nat × List Value)} (h : v.oneCell' = true) (k : Cel ps qs) : Cel ((i, v) :: ps) ((i, [v]) :: qs) := ⟨by
  rw [List.map_cons, k.eq, oneCell_cells h]⟩
theorem Cel.agg {i : Nat} {cs : List Value} {ps : List (Nat × Value)} {qs : List (Nat × List Value)} (k : Cel ps qs) : Cel ((i, .agg cs.toArray) :: ps) ((i, cs) :: qs) := ⟨by
  rw [List.map_cons, k.eq]
  rfl⟩
def setPartsC (pl : List (Nat × Nat)) : List Value → List (Nat × List Value) → Option (List Value)
  | cs, [] => some cs
  | cs, (i, us) :: r => match pl[i]? with
    | some (off, sz) => bif Nat.beq us.length sz && Nat.ble (off + sz) cs.length then setPartsC pl (cs.take off ++ us ++ cs.drop (off + sz)) r else none
    | none => none
theorem setParts_C {pl : List (Nat × Nat)} : ∀ {ps : List (Nat × Value)} {qs : List (Nat × List Value)} {cs cs' : List Value}, Cel ps qs → setPartsC pl cs qs = some cs' → setParts pl cs ps = some cs'
  | [], qs, cs, cs', h, k => by
    obtain ⟨h⟩ := h
    subst h
    exact k
  | (i, v) :: ps, qs, cs, cs', h, k => by
    obtain ⟨h⟩ := h
    subst h
    simp only [List.map_cons, setPartsC] at k
    simp only [setParts]
    cases hp : pl[i]? with
    | none => rw [hp] at k; cases k
    | some q =>
      obtain ⟨off, sz⟩ := q
      rw [hp] at k
      simp only [Array.length_toList] at k ⊢
      cases hc : Nat.beq v.cells.size sz && Nat.ble (off + sz) cs.length with
      | false => rw [hc] at k; cases k
      | true => rw [hc] at k; exact setParts_C ⟨rfl⟩ k
section
variable {P : Program} {E : Env P} {n : Sh} {X : Cx} {s : List K} {fr : Fr} {A A' : List Ch} {ops : Array Oper} {rest : List Oper} {d : Nat} {ty t : TypeId} {pos : String} {after : Array Edge}
theorem bdg {sz by_ : Nat} {cs : List Value} {fl : List Field} {zs : List Value} {pl : List (Nat × Nat)} {parts : List (Nat × Operand)} {ps : List (Nat × Value)} (k : TO E n X s ops rest ((d, .agg cs.toArray) :: fr) A) (hv : evps fr parts = some ps := by rfl)
    (ht : lk E.und t = some (.struct fl.toArray) := by rfl) (he : lk E.inf t = some (.agg zs.toArray, sz, by_) := by rfl) (hpl : places E.inf fl = some pl := by rfl) (hs : setParts pl zs ps = some cs := by rfl) (hd : Nat.blt d n.n = true := by rfl) :
    TO E n X s ops (⟨some d, .build t parts.toArray, ty, pos, after, none⟩ :: rest) fr A := TO.val (fun _ _ => R_build ht he hpl hv hs) k hd
theorem bdm {sz by_ : Nat} {cs : List Value} {fl : List Field} {zs : List Value} {pl : List (Nat × Nat)} {parts : List (Nat × Operand)} {ps : List (Nat × Value)} {qs : List (Nat × List Value)} (k : TO E n X s ops rest ((d, .agg cs.toArray) :: fr) A) (hv : evps fr parts = some ps := by rfl)
    (ht : lk E.und t = some (.struct fl.toArray) := by rfl) (he : lk E.inf t = some (.agg zs.toArray, sz, by_) := by rfl) (hpl : places E.inf fl = some pl := by rfl) (hq : Cel ps qs := by (repeat (first | exact Cel.nil | apply Cel.agg | (apply Cel.one; focus (first | rfl | assumption)))); first | done | fail) (hs : setPartsC pl zs qs = some cs := by rfl) (hd : Nat.blt d n.n = true := by rfl) :
    TO E n X s ops (⟨some d, .build t parts.toArray, ty, pos, after, none⟩ :: rest) fr A := bdg k hv ht he hpl (setParts_C hq hs) hd
theorem ldla {b j sz by_ : Nat} {cs vs : List Value} {T : TypeId} {dt : TypeDesc} {z : Value} {x : Operand} (k : TO E n X s ops rest ((d, .agg vs.toArray) :: fr) A) (hx : ev fr x = some (.pointer (some ⟨b, j, none⟩)) := by rfl) (hm : lpt b cs T ∈ A := by (repeat (first | apply List.Mem.head | apply List.Mem.tail)); first | done | fail) (ht : lk E.und t = some dt := by rfl) (hg : aggB dt = true := by rfl) (hi : lk E.inf t = some (z, sz, by_) := by rfl)
    (hv : (cs.drop j).take sz = vs := by rfl) (hl : vs.length = sz := by rfl) (hd : Nat.blt d n.n = true := by rfl) : TO E n X s ops (⟨some d, .load t x, ty, pos, after, none⟩ :: rest) fr A := TO.val (fun _ h => R_loadA ht hg hi hx (h.h (lpt b cs T) hm) hv hl) k hd
end
end Go.Art
set_option linter.unusedSimpArgs false
set_option linter.unusedVariables false
namespace Go.Art
open Go Go.Proofs Go.RowKit
def lvlL (tot : Int) (cut oth : List Int) (k c x : Nat) : List (List Int) := endsL (alPick tot cut oth c x + 1).toNat k [(c : Int), (x : Int)]
def colL (tot : Int) (cut oth : List Int) (k c : Nat) : List (List Int) := (List.range tot.toNat).flatMap fun x : Nat => lvlL tot cut oth k c x
def allL (tot : Int) (cut oth : List Int) (k : Nat) : List (List Int) := (List.range cut.length).flatMap fun c : Nat => colL tot cut oth k c
theorem allL_get {tot : Int} {cut oth : List Int} {k c x j : Nat} (h1 : c < cut.length) (h2 : x < tot.toNat) (h3 : j < (lvlL tot cut oth k c x).length) :
    ((List.range c).flatMap fun c : Nat => colL tot cut oth k c).length + (((List.range x).flatMap fun x : Nat => lvlL tot cut oth k c x).length + j) < (allL tot cut oth k).length ∧
    (allL tot cut oth k).getD (((List.range c).flatMap fun c : Nat => colL tot cut oth k c).length + (((List.range x).flatMap fun x : Nat => lvlL tot cut oth k c x).length + j)) [] = (lvlL tot cut oth k c x).getD j [] := by
  obtain ⟨a1, a2⟩ := fm_get (fun x : Nat => lvlL tot cut oth k c x) h2 h3 []
  obtain ⟨b1, b2⟩ := fm_get (fun c : Nat => colL tot cut oth k c) h1 (j := ((List.range x).flatMap fun x : Nat => lvlL tot cut oth k c x).length + j) a1 []
  exact ⟨b1, b2.trans a2⟩
structure AlG (α : Type) where
  i : Nat
  a : α
  Ds : List Nat
attribute [local irreducible] Fit pt own ro vw mpc lpt vels rels mow lrc dfr
attribute [local irreducible] lmp lme mit velg relg bnd owl dfrl lvlL colL
theorem all_tr (tot k : Int) (cv ov : Value) : Tr Tryz.prog 74 [.agg #[I tot, cv, ov], I k] [] [] fun u D => ∃ pa pk, u = .func (.func 108) #[] #[ptr pa, ptr pk] ∧ D = [pt pa [I tot, cv, ov] TAl, pt pk [I k] TLI] := by
  refine Tr.enter env _ Tryz.func74 (by kernel_rfl) rfl Tryz.ntmps74 rfl (by repeat (first | exact has00 | refine has01 ?_)) fun w0 => ?_
  repeat' first|refine bx fun b => ?_|(refine wo ?_; first|refine oa ?_)|refine sq ?_|refine rg ?_|refine xc ?_|refine nl ?_|refine rt ?_
  exact r1 ⟨_, _, rfl, rfl⟩
theorem all1_seq (tot : Int) (k : Nat) (cv ov : Value) (cut oth : List Int) (pa pk : Nat) (hc : cv.oneCell' = true) (ho : ov.oneCell' = true) (hE : alE tot cut oth = 0) (hk : cut.length ≤ k ∧ k ≤ 65536) :
    SeqL Tryz.prog 108 #[ptr pa, ptr pk] [lpt pa [I tot, cv, ov] TAl, lpt pk [I k] TLI, vw cv (Is cut), vw ov (Is oth)] (allL tot cut oth k) := by
  refine ⟨fun {α} l J pl S a0 h0 hnb hy => ?_, by repeat (first | exact has00 | refine has01 ?_)⟩
  haveI : ∀ a, NoB (J a) := fun a => ⟨hnb a⟩
  have htb := (alE_bnd hE).1
  refine Tr.enterM env _ Tryz.func108 (by kernel_rfl) rfl Tryz.ntmps108 rfl (by repeat (first | exact has00 | refine has01 ?_)) fun w0 => ?_
  repeat' first|refine bx1 fun q => ?_|(refine wo ?_; first|refine oa ?_|refine ldl ?_|refine lnm ?_)|refine sq ?_|refine rg ?_|refine xc ?_|refine nl ?_|refine bk ?_
  refine TC.im (dfrl_nil _) ?_
  refine TC.loopD (ι := AlG α) (fun g => g.Ds) (fun g => [(12, I g.i)]) (fun g => [dfrl g.Ds, pt q [yv l] TYl, J g.a]) (fun g => g.i ≤ cut.length ∧ pl g.a ((List.range g.i).flatMap fun c : Nat => colL tot cut oth k c).length) (fun g => cut.length - g.i) ⟨0, a0, []⟩ [1, 2, 3, 11] ⟨Nat.zero_le _, h0⟩ ?_
  rintro ⟨i, a, Ds⟩ ⟨hi, ha⟩
  dsimp only at hi ha ⊢
  by_cases hlt : i < cut.length
  rotate_left
  · obtain rfl : i = cut.length := by omega
    repeat' first|(refine wo ?_; first|(refine ao ?_; first|refine oa ?_))|(refine gc ?_; first|(refine ci (fun hB => ?_) (fun hB => ?_) <;> try (exfalso; omega)))|refine sq ?_|refine rg ?_|refine xc ?_|refine nl ?_|refine xe ?_
    exact m0e ⟨a, rfl, .inl ha⟩
  have hcl : ((List.range (i + 1)).flatMap fun c : Nat => colL tot cut oth k c).length = ((List.range i).flatMap fun c : Nat => colL tot cut oth k c).length + ((List.range tot.toNat).flatMap fun x : Nat => lvlL tot cut oth k i x).length := by rw [fm_len]; unfold colL; rfl
  have ha0 : pl a (((List.range i).flatMap fun c : Nat => colL tot cut oth k c).length + ((List.range 0).flatMap fun x : Nat => lvlL tot cut oth k i x).length) := ha
  clear ha
  repeat' first|(refine wo ?_; first|(refine ao ?_; first|refine oa ?_)|refine oa ?_|refine ldl ?_)|(refine gc ?_; first|(refine ci (fun hB => ?_) (fun hB => ?_) <;> try (exfalso; omega)))|refine sq ?_|refine rg ?_|refine xc ?_|refine nl ?_|refine sk ?_|refine bk ?_
  refine TC.loopD (ι := AlG α) (fun g => g.Ds) (fun g => [(17, I g.i)]) (fun g => [dfrl g.Ds, pt q [yv l] TYl, J g.a]) (fun g => g.i ≤ tot.toNat ∧ pl g.a (((List.range i).flatMap fun c : Nat => colL tot cut oth k c).length + ((List.range g.i).flatMap fun x : Nat => lvlL tot cut oth k i x).length)) (fun g => tot.toNat - g.i) ⟨0, a, Ds⟩ [1, 2, 3, 4, 11, 12, 16] ⟨Nat.zero_le _, ha0⟩ ?_
  clear ha0
  rintro ⟨x, a1, Ds1⟩ ⟨hx, ha⟩
  dsimp only at hx ha ⊢
  by_cases hxt : x < tot.toNat
  rotate_left
  · obtain rfl : x = tot.toNat := by omega
    rw [← hcl] at ha
    repeat' first|(refine wo ?_; first|(refine ao ?_; first|refine aw ?_|refine oa ?_)|refine oa ?_)|(refine gc ?_; first|(refine ci (fun hB => ?_) (fun hB => ?_) <;> try (exfalso; omega)))|refine sq ?_|refine rg ?_|refine xc ?_|refine nl ?_|refine xe ?_|refine xb ?_
    exact lpD ⟨i + 1, a1, Ds1⟩ ⟨hlt, ha⟩
  have hP := AlPick_tr tot i x cv ov cut oth hc ho hE (by omega) (by omega)
  have hin := alPick_in hE (c := i) (l := x) (by omega)
  have hg := fun j (hj : j < (lvlL tot cut oth k i x).length) => allL_get (k := k) hlt hxt hj
  have hlen := fm_len (fun x : Nat => lvlL tot cut oth k i x) x
  obtain ⟨d, hd⟩ : ∃ d : Nat, alPick tot cut oth i x + 1 = d := ⟨(alPick tot cut oth i x + 1).toNat, by omega⟩
  have hlv : lvlL tot cut oth k i x = endsL d k [(i : Int), (x : Int)] := by unfold lvlL; rw [hd]; rfl
  have ih := fun pd pb pk v hv => ends1_seq d k [(i : Int), (x : Int)] pd pb pk v (by omega) (by simp; omega) hv
  rw [← hlv] at ih
  have hEn : ∀ v, v.oneCell' = true → Tr Tryz.prog 109 [v, I k, I (alPick tot cut oth i x + 1)] [] [] fun u D => ∃ pd pb pk, u = .func (.func 140) #[] #[ptr pd, ptr pb, ptr pk] ∧ D = [pt pb [v] TLs, pt pk [I k] 3, pt pd [I d] 3] := fun v hv => (ends_tr v k (alPick tot cut oth i x + 1) hv).mono fun u D ⟨pd, pb, pk, h1, h2⟩ => ⟨pd, pb, pk, h1, by rw [h2, hd]⟩
  generalize alPick tot cut oth i x = at1 at *
  clear hE hlv
  repeat' first|(refine gca ?_; first|(refine ca hP ?_; rintro _ _ ⟨rfl, rfl⟩)|(refine ca (hEn v1 hv1) ?_; rintro _ _ ⟨pd2, pb2, pk2, rfl, rfl⟩))|refine ldla ?_|(refine slii [(i : Int), (x : Int)] fun v1 => ?_; refine TO.one (v := v1) (xs := Is [(i : Int), (x : Int)]) fun hv1 => ?_)|(refine wo ?_; first|(refine ao ?_; first|refine aw ?_|refine oa ?_)|refine oa ?_|refine ldl ?_)|(refine gc ?_; first|(refine ci (fun hB => ?_) (fun hB => ?_) <;> try (exfalso; omega)))|refine sq ?_|refine rg ?_|refine xc ?_|refine nl ?_|refine sk ?_|refine bk ?_
  have hS := @SeqL.run _ _ _ _ _ (ih pd2 pb2 pk2 v1 hv1)
  clear ih hEn hP
  refine TC.range [lpt pd2 [I d] 3, lpt pb2 [v1] TLs, lpt pk2 [I k] 3, vw v1 (Is [(i : Int), (x : Int)])] [pt q [yv l] TYl, J a1] (fun l2 rec Dm pend B' => ∃ a', B' = [dfr Dm, pt q [yv l] TYl, J a'] ∧ ((pend = none ∧ pl a' (((List.range i).flatMap fun c : Nat => colL tot cut oth k c).length + ((List.range (x + 1)).flatMap fun x : Nat => lvlL tot cut oth k i x).length)) ∨ (pend = some .ret ∧ S a'))) ?_ ?_
  · intro rec l2 Dm hr
    refine Tr.unb (hS (α := α × Bool) l2 (fun p => bnd [lrc l2 rec (bif p.2 then .done else .ready) (bif p.2 then some .ret else none), dfr Dm, pt q [yv l] TYl, J p.1]) (fun p j => p.2 = false ∧ pl p.1 (((List.range i).flatMap fun c : Nat => colL tot cut oth k c).length + (((List.range x).flatMap fun x : Nat => lvlL tot cut oth k i x).length + j))) (fun p => p.2 = true ∧ S p.1) (a1, false) ⟨rfl, ha⟩ (fun p => bnd_nob (nb1 (nb1 (nb1 (nb1 nb0))))) ?_) ?_
    · rintro ⟨a1, s⟩ j y ⟨hs1, hpl⟩ hj
      dsimp only at hs1 hpl
      subst hs1
      obtain ⟨hg1, hg2⟩ := hg j hj
      have h2 := hy a1 _ y hpl hg1
      rw [hg2] at h2
      refine Ty.bnd ?_
      refine Ty.intro env hr (by repeat (first | exact has00 | refine has01 ?_)) fun w1 => ?_
      repeat' first|refine xbeg ?_|(refine cy h2 ?_; rintro ok _ ⟨a2, rfl, ⟨rfl, h3⟩ | ⟨rfl, h3⟩⟩)|(refine wo ?_; first|refine oa ?_|refine ld ?_)|(refine gc ?_; first|refine ct ?_|refine cf ?_)|refine sq ?_|refine rg ?_|refine xc ?_|refine nl ?_|refine sk ?_|refine bk ?_|refine rt ?_|refine xb ?_
      · exact yn ⟨(a2, false), rfl, .inl ⟨rfl, rfl, h3⟩⟩
      · exact yr ⟨(a2, true), rfl, .inr ⟨rfl, rfl, h3⟩⟩
    · rintro _ _ ⟨⟨a1, s⟩, rfl, ⟨hs1, h3⟩ | ⟨hs1, h3⟩⟩
      · dsimp only at hs1 h3
        subst hs1
        exact ⟨_, rfl, .ready, none, _, rfl, by decide, a1, rfl, .inl ⟨rfl, by rw [hlen]; exact h3⟩⟩
      · dsimp only at hs1 h3
        subst hs1
        exact ⟨_, rfl, .done, some .ret, _, rfl, by decide, a1, rfl, .inr ⟨rfl, h3⟩⟩
  · rintro l2 rec Dm pend B' ⟨a1, rfl, ⟨rfl, h3⟩ | ⟨rfl, h3⟩⟩
    · show TX env _ _ _ _ _ _
      refine TX.im (dfrl_push (D := Dm) (Ds := Ds1) (by first | apply Fit.all | ((repeat (first | (apply Fit.nilN; (repeat (first | apply nrm_nil | apply nrm_cons)); try apply nrm_rfl) | (apply Fit.cons; focus ((repeat (first | apply Tk.here | apply Tk.there)); first | done | fail)))); first | done | fail))) ?_
      repeat' first|(refine wo ?_; first|(refine ao ?_; first|refine aw ?_)|refine oa ?_)|refine rg ?_|refine xc ?_|refine nl ?_|refine xb ?_
      exact lpD ⟨x + 1, a1, Dm :: Ds1⟩ ⟨hxt, h3⟩
    · show TC env _ _ _ _ _ _
      refine TC.im (dfrl_push (D := Dm) (Ds := Ds1) (by first | apply Fit.all | ((repeat (first | (apply Fit.nilN; (repeat (first | apply nrm_nil | apply nrm_cons)); try apply nrm_rfl) | (apply Fit.cons; focus ((repeat (first | apply Tk.here | apply Tk.there)); first | done | fail)))); first | done | fail))) ?_
      repeat' first|refine rt ?_
      exact m0 (Ds := Dm :: Ds1) ⟨a1, rfl, .inr h3⟩
end Go.Art
set_option linter.unusedVariables false
set_option linter.unusedSimpArgs false
set_option linter.unusedVariables false
namespace Go.Art
def nv : List Nat → Nat
  | [] => 0
  | x :: r => x + 18446744073709551616 * nv r
def dg (n : Nat) : List Nat := if h : n = 0 then [] else n % 18446744073709551616 :: dg (n / 18446744073709551616)
termination_by n
decreasing_by omega
def Dg (l : List Nat) : Prop := ∀ x ∈ l, x < 18446744073709551616
theorem dg_zero : dg 0 = [] := by rw [dg]; rfl
theorem dg_pos {n : Nat} (h : n ≠ 0) : dg n = n % 18446744073709551616 :: dg (n / 18446744073709551616) := by rw [dg]; simp [h]
theorem nv_dg (n : Nat) : nv (dg n) = n := by
  induction n using Nat.strongRecOn with
  | _ n ih =>
    by_cases h : n = 0
    · subst h; rw [dg_zero]; rfl
    · rw [dg_pos h, nv, ih _ (by omega)]; omega
theorem Dg_dg (n : Nat) : Dg (dg n) := by
  induction n using Nat.strongRecOn with
  | _ n ih =>
    by_cases h : n = 0
    · subst h; rw [dg_zero]; exact fun x hx => nomatch hx
    · rw [dg_pos h]; intro x hx
      rcases List.mem_cons.1 hx with rfl | hx
      · exact Nat.mod_lt _ (by decide)
      · exact ih _ (by omega) x hx
theorem Dg.nil : Dg [] := fun _ h => nomatch h
theorem Dg.cons {x : Nat} {l : List Nat} (h : x < 18446744073709551616) (k : Dg l) : Dg (x :: l) := fun y hy => by rcases List.mem_cons.1 hy with rfl | hy; exact h; exact k y hy
theorem Dg.tail {x : Nat} {l : List Nat} (h : Dg (x :: l)) : Dg l := fun y hy => h y (List.mem_cons_of_mem _ hy)
theorem Dg.head {x : Nat} {l : List Nat} (h : Dg (x :: l)) : x < 18446744073709551616 := h x List.mem_cons_self
theorem Dg.app {a b : List Nat} (h : Dg a) (k : Dg b) : Dg (a ++ b) := fun x hx => by rcases List.mem_append.1 hx with h1 | h1; exact h x h1; exact k x h1
theorem Dg.one {x : Nat} (h : x < 18446744073709551616) : Dg [x] := Dg.cons h Dg.nil
theorem Dg.take {l : List Nat} (h : Dg l) (i : Nat) : Dg (l.take i) := fun x hx => h x (List.mem_of_mem_take hx)
theorem Dg.drop {l : List Nat} (h : Dg l) (i : Nat) : Dg (l.drop i) := fun x hx => h x (List.mem_of_mem_drop hx)
theorem Dg.sub {l : List Nat} (h : Dg l) (i j : Nat) : Dg ((l.take j).drop i) := (h.take j).drop i
theorem Dg.set {l : List Nat} (h : Dg l) {i x : Nat} (hx : x < 18446744073709551616) : Dg (l.set i x) := fun y hy => by
  rcases List.mem_or_eq_of_mem_set hy with h1 | rfl
  · exact h y h1
  · exact hx
theorem Dg.rep (n : Nat) : Dg (List.replicate n 0) := fun x hx => by rw [List.eq_of_mem_replicate hx]; decide
theorem Dg.getD {l : List Nat} (h : Dg l) (i : Nat) : l.getD i 0 < 18446744073709551616 := by
  rw [List.getD_eq_getElem?_getD]
  cases hx : l[i]? with
  | none => simp
  | some x => exact h x (List.mem_of_getElem? hx)
theorem nv_app (a b : List Nat) : nv (a ++ b) = nv a + 18446744073709551616 ^ a.length * nv b := by
  induction a with
  | nil => simp [nv]
  | cons x r ih => rw [List.cons_append, nv, nv, ih, List.length_cons, Nat.pow_succ, Nat.mul_add, Nat.mul_assoc, Nat.mul_left_comm, Nat.add_assoc]
theorem nv_snoc (a : List Nat) (x : Nat) : nv (a ++ [x]) = nv a + 18446744073709551616 ^ a.length * x := by rw [nv_app]; simp [nv]
theorem nv_lt {l : List Nat} (h : Dg l) : nv l < 18446744073709551616 ^ l.length := by
  induction l with
  | nil => simp [nv]
  | cons x r ih =>
    have h1 := ih h.tail
    have h2 := h.head
    rw [nv, List.length_cons, Nat.pow_succ]
    omega
theorem nv_rep (n : Nat) : nv (List.replicate n 0) = 0 := by
  induction n with
  | zero => rfl
  | succ n ih => rw [List.replicate_succ, nv, ih]
theorem nv_split (l : List Nat) (i : Nat) : nv l = nv (l.take i) + 18446744073709551616 ^ (min i l.length) * nv (l.drop i) := by
  conv => lhs; rw [← List.take_append_drop i l]
  rw [nv_app, List.length_take]
theorem nv_step (l : List Nat) (i : Nat) : nv (l.drop i) = l.getD i 0 + 18446744073709551616 * nv (l.drop (i + 1)) := by
  by_cases h : i < l.length
  · rw [List.drop_eq_getElem_cons h, nv, List.getD_eq_getElem?_getD, List.getElem?_eq_getElem h]; rfl
  · rw [List.drop_eq_nil_of_le (by omega), List.drop_eq_nil_of_le (by omega)]
    simp [nv, List.getD_eq_getElem?_getD, h]
theorem nv_take_succ (l : List Nat) (i : Nat) (h : i < l.length) : nv (l.take (i + 1)) = nv (l.take i) + 18446744073709551616 ^ i * l.getD i 0 := by
  rw [List.take_succ_eq_append_getElem h, nv_snoc, List.length_take, Nat.min_eq_left (by omega), List.getD_eq_getElem?_getD, List.getElem?_eq_getElem h]; rfl
def Tm (l : List Nat) : Prop := ∀ a x, l = a ++ [x] → x ≠ 0
theorem Tm.nil : Tm [] := fun a x h => by simp at h
theorem nv_zero {l : List Nat} (h : nv l = 0) : ∀ x ∈ l, x = 0 := by
  induction l with
  | nil => exact fun _ h => nomatch h
  | cons y r ih =>
    rw [nv] at h
    intro x hx
    rcases List.mem_cons.1 hx with rfl | hx
    · omega
    · exact ih (by omega) x hx
theorem Tm.tail {x : Nat} {l : List Nat} (h : Tm (x :: l)) : Tm l := fun a y e => h (x :: a) y (by rw [e]; rfl)
theorem Tm.pos {x : Nat} {l : List Nat} (h : Tm (x :: l)) : nv (x :: l) ≠ 0 := by
  intro h0
  obtain ⟨a, y, e⟩ : ∃ a y, x :: l = a ++ [y] := ⟨(x :: l).dropLast, (x :: l).getLast (by simp), (List.dropLast_concat_getLast (by simp)).symm⟩
  exact h a y e (nv_zero h0 y (by rw [e]; simp))
theorem dg_nv {l : List Nat} (h : Dg l) (t : Tm l) : dg (nv l) = l := by
  induction l with
  | nil => exact dg_zero
  | cons x r ih =>
    rw [dg_pos t.pos, nv]
    have h1 := h.head
    rw [show (x + 18446744073709551616 * nv r) % 18446744073709551616 = x by omega, show (x + 18446744073709551616 * nv r) / 18446744073709551616 = nv r by omega, ih h.tail t.tail]
theorem Tm_dg (n : Nat) : Tm (dg n) := by
  induction n using Nat.strongRecOn with
  | _ n ih =>
    by_cases h : n = 0
    · subst h; rw [dg_zero]; exact Tm.nil
    · rw [dg_pos h]; intro a x e
      cases a with
      | nil =>
        simp only [List.nil_append, List.cons.injEq] at e
        have h2 : n / 18446744073709551616 = 0 := by rw [← nv_dg (n / 18446744073709551616), e.2]; rfl
        omega
      | cons y a =>
        simp only [List.cons_append, List.cons.injEq] at e
        exact ih _ (by omega) a x e.2
theorem dg_nil {n : Nat} : dg n = [] ↔ n = 0 := ⟨fun h => by rw [← nv_dg n, h]; rfl, fun h => by rw [h, dg_zero]⟩
theorem dg_top {l : List Nat} {i : Nat} (h : Dg l) (h0 : nv (l.drop i) = 0) : nv (l.take i) = nv l := by
  have := nv_split l i; rw [h0] at this; omega
theorem Tm_of {l : List Nat} (h : l = [] ∨ l.getD (l.length - 1) 0 ≠ 0) : Tm l := by
  intro a x e
  rcases h with rfl | h
  · simp at e
  · subst e
    simpa [List.getD_eq_getElem?_getD] using h
theorem Tm.top {l : List Nat} (h : Tm l) (hl : 0 < l.length) : l.getD (l.length - 1) 0 ≠ 0 := by
  have e := (List.dropLast_concat_getLast (l := l) (by rintro rfl; simp at hl)).symm
  have := h _ _ e
  rw [List.getLast_eq_getElem] at this
  rwa [List.getD_eq_getElem?_getD, List.getElem?_eq_getElem (by omega)]
theorem dg_len (n m : Nat) : (dg n).length ≤ m ↔ n < 18446744073709551616 ^ m := by
  constructor
  · intro h
    have h1 := nv_lt (Dg_dg n)
    rw [nv_dg] at h1
    exact Nat.lt_of_lt_of_le h1 (Nat.pow_le_pow_right (by decide) h)
  · induction m generalizing n with
    | zero => intro h; simp at h; subst h; rw [dg_zero]; exact Nat.le_refl _
    | succ m ih =>
      intro h
      by_cases h0 : n = 0
      · subst h0; rw [dg_zero]; exact Nat.zero_le _
      · rw [dg_pos h0, List.length_cons]
        have := ih (n / 18446744073709551616) (by rw [Nat.pow_succ] at h; exact Nat.div_lt_of_lt_mul (by rw [Nat.mul_comm]; exact h))
        omega
theorem dg_one {n : Nat} (h : n < 18446744073709551616) (h0 : n ≠ 0) : dg n = [n] := by
  rw [dg_pos h0, Nat.mod_eq_of_lt h, Nat.div_eq_of_lt h, dg_zero]
theorem nv_low {l : List Nat} (h : Dg l) (i : Nat) : nv (l.take i) < 18446744073709551616 ^ i := by
  have h1 := nv_lt (h.take i)
  refine Nat.lt_of_lt_of_le h1 (Nat.pow_le_pow_right (by decide) ?_)
  rw [List.length_take]; omega
theorem nv_cut (l : List Nat) (i : Nat) : nv l = nv (l.take i) + 18446744073709551616 ^ i * nv (l.drop i) := by
  by_cases h : i ≤ l.length
  · have := nv_split l i; rwa [Nat.min_eq_left h] at this
  · rw [List.drop_eq_nil_of_le (by omega), List.take_of_length_le (by omega)]; simp [nv]
theorem nv_lt_of {a b : List Nat} (ha : Dg a) (i : Nat) (h : nv (a.drop i) < nv (b.drop i)) : nv a < nv b := by
  rw [nv_cut a i, nv_cut b i]
  have h1 := nv_low ha i
  have h2 : 18446744073709551616 ^ i * nv (a.drop i) + 18446744073709551616 ^ i ≤ 18446744073709551616 ^ i * nv (b.drop i) := by
    rw [← Nat.mul_succ]; exact Nat.mul_le_mul_left _ h
  omega
theorem nv_set (l : List Nat) (i x : Nat) (h : i < l.length) : nv (l.set i x) + 18446744073709551616 ^ i * l.getD i 0 = nv l + 18446744073709551616 ^ i * x := by
  rw [nv_cut (l.set i x) i, nv_cut l i, nv_step (l.set i x) i, nv_step l i]
  have e1 : (l.set i x).take i = l.take i := by rw [List.take_set, List.set_eq_of_length_le (by rw [List.length_take]; omega)]
  have e2 : (l.set i x).drop (i + 1) = l.drop (i + 1) := by rw [List.drop_set, if_pos (by omega)]
  have e3 : (l.set i x).getD i 0 = x := by simp [List.getD_eq_getElem?_getD, h]
  rw [e1, e2, e3]
  simp only [Nat.mul_add]
  omega
end Go.Art
namespace Go.Art
structure Hf (n1 n0 u u1 q r : Nat) : Prop where
  n1a : 2147483648 ≤ n1
  n1b : n1 < 4294967296
  n0b : n0 < 4294967296
  u1b : u1 < 4294967296
  ub : u < n1 * 4294967296 + n0
  eq : r + q * n1 = u
  q1 : (u * 4294967296 + u1) / (n1 * 4294967296 + n0) ≤ q
  q2 : q ≤ 4294967297
  r2 : r < 4294967296
theorem Hf.first {n1 n0 u u1 : Nat} (n1a : 2147483648 ≤ n1) (n1b : n1 < 4294967296) (n0b : n0 < 4294967296) (u1b : u1 < 4294967296) (ub : u < n1 * 4294967296 + n0) : Hf n1 n0 u u1 (u / n1) (u % n1) := by
  have h0 : 0 < n1 := by omega
  refine ⟨n1a, n1b, n0b, u1b, ub, by rw [Nat.mul_comm]; exact Nat.mod_add_div u n1, ?_, ?_, by have := Nat.mod_lt u h0; omega⟩
  · rw [Nat.le_div_iff_mul_le h0]
    have h1 : (u * 4294967296 + u1) / (n1 * 4294967296 + n0) ≤ (u * 4294967296 + u1) / (n1 * 4294967296) := Nat.div_le_div_left (by omega) (by omega)
    have h2 : (u * 4294967296 + u1) / (n1 * 4294967296) = u / n1 := by
      have h3 : (u * 4294967296 + u1) / 4294967296 = u := by omega
      have h4 := Nat.div_div_eq_div_mul (u * 4294967296 + u1) 4294967296 n1
      rw [h3] at h4
      rw [Nat.mul_comm n1]; exact h4.symm
    rw [h2] at h1
    exact Nat.le_trans (Nat.mul_le_mul_right _ h1) (Nat.div_mul_le_self u n1)
  · have : u / n1 < 4294967298 := by
      rw [Nat.div_lt_iff_lt_mul h0]
      omega
    omega
variable {n1 n0 u u1 q r : Nat}
theorem Hf.mulb (h : Hf n1 n0 u u1 q r) : q * n0 < 18446744073709551616 := by
  have h1 : q * n0 ≤ 4294967297 * 4294967295 := Nat.mul_le_mul h.q2 (by have := h.n0b; omega)
  omega
theorem Hf.goal (h : Hf n1 n0 u u1 q r) : q * n0 ≤ 4294967296 * r + u1 ↔ q * (n1 * 4294967296 + n0) ≤ u * 4294967296 + u1 := by
  have h1 := h.eq
  rw [Nat.mul_add, ← Nat.mul_assoc]
  omega
theorem Hf.less (h : Hf n1 n0 u u1 q r) (hc : ¬ (q < 4294967296 ∧ q * n0 ≤ 4294967296 * r + u1)) : 1 ≤ q ∧ (u * 4294967296 + u1) / (n1 * 4294967296 + n0) ≤ q - 1 ∧ q - 1 ≤ 4294967296 ∧ (r + n1) + (q - 1) * n1 = u := by
  have h1 := h.n1a
  have hlt : (u * 4294967296 + u1) / (n1 * 4294967296 + n0) < q := by
    rw [Nat.div_lt_iff_lt_mul (by omega)]
    by_cases h2 : q < 4294967296
    · have h3 : ¬ q * (n1 * 4294967296 + n0) ≤ u * 4294967296 + u1 := fun h4 => hc ⟨h2, h.goal.2 h4⟩
      omega
    · have h3 : 4294967296 * (n1 * 4294967296 + n0) ≤ q * (n1 * 4294967296 + n0) := Nat.mul_le_mul_right _ (by omega)
      have := h.ub; have := h.u1b
      omega
  have hq : 1 ≤ q := Nat.lt_of_le_of_lt (Nat.zero_le _) hlt
  refine ⟨hq, Nat.le_sub_one_of_lt hlt, by have := h.q2; omega, ?_⟩
  have h5 := h.eq
  obtain ⟨m, rfl⟩ : ∃ m, q = m + 1 := ⟨q - 1, by omega⟩
  rw [Nat.add_mul] at h5
  simp only [Nat.add_sub_cancel]
  omega
theorem Hf.next (h : Hf n1 n0 u u1 q r) (hc : ¬ (q < 4294967296 ∧ q * n0 ≤ 4294967296 * r + u1)) (hr : r + n1 < 4294967296) : Hf n1 n0 u u1 (q - 1) (r + n1) := by
  obtain ⟨h1, h2, h3, h4⟩ := h.less hc
  exact ⟨h.n1a, h.n1b, h.n0b, h.u1b, h.ub, h4, h2, by omega, hr⟩
theorem Hf.done (h : Hf n1 n0 u u1 q r) (hc : q < 4294967296 ∧ q * n0 ≤ 4294967296 * r + u1) : q = (u * 4294967296 + u1) / (n1 * 4294967296 + n0) := by
  have h1 := h.goal.1 hc.2
  have := h.n1a
  exact Nat.le_antisymm ((Nat.le_div_iff_mul_le (by omega)).2 h1) h.q1
theorem Hf.brk (h : Hf n1 n0 u u1 q r) (hc : ¬ (q < 4294967296 ∧ q * n0 ≤ 4294967296 * r + u1)) (hr : ¬ r + n1 < 4294967296) : q - 1 = (u * 4294967296 + u1) / (n1 * 4294967296 + n0) := by
  obtain ⟨h1, h2, h3, h4⟩ := h.less hc
  have := h.n1a
  refine Nat.le_antisymm ((Nat.le_div_iff_mul_le (by omega)).2 ?_) h2
  have h5 : (q - 1) * n0 ≤ 4294967296 * 4294967295 := Nat.mul_le_mul h3 (by have := h.n0b; omega)
  rw [Nat.mul_add, ← Nat.mul_assoc]
  omega
theorem Hf.qlt (u1b : u1 < 4294967296) (ub : u < n1 * 4294967296 + n0) : (u * 4294967296 + u1) / (n1 * 4294967296 + n0) < 4294967296 := by
  rw [Nat.div_lt_iff_lt_mul (by omega)]
  omega
theorem div_one {V a u0 : Nat} (hV : 0 < V) : (a * 4294967296 + u0) / V = a / V * 4294967296 + (a % V * 4294967296 + u0) / V ∧ (a * 4294967296 + u0) % V = (a % V * 4294967296 + u0) % V := by
  have e : a * 4294967296 + u0 = V * (a / V * 4294967296) + (a % V * 4294967296 + u0) := by
    have h1 := Nat.div_add_mod a V
    rw [← Nat.mul_assoc, ← Nat.add_assoc, ← Nat.add_mul, h1]
  rw [e]
  exact ⟨Nat.mul_add_div hV _ _, Nat.mul_add_mod _ _ _⟩
theorem div_up {a y p : Nat} (hp : 0 < p) : a * p / (y * p) = a / y ∧ a * p % (y * p) = a % y * p := ⟨Nat.mul_div_mul_right _ _ hp, Nat.mul_mod_mul_right _ _ _⟩
end Go.Art
