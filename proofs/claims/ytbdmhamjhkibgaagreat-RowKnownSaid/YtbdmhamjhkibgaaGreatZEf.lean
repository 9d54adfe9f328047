/- Texts put together: Qs Gl Rw Hp Hq Ak Mk. Conditions: none. -/
import Derived.Test.YtbdmhamjhkibgaaGreatZEe
set_option linter.unusedSimpArgs false
set_option linter.unusedVariables false
namespace Go.Art
open Go Go.Proofs Go.RowKit
theorem srt_id {xs : List Int} (h : xs.Pairwise (· ≤ ·)) : srt xs = xs := ((srt_perm xs)).eq_of_pairwise (fun a b _ _ h1 h2 => by omega) (srt_sorted xs) h
theorem pickO_of {k d : Int} {x : Lw} {l : List Int} (h : (ordO k d x).1 = (l, 0)) (hs : l.Pairwise (· ≤ ·)) : pickO k d x = (l, 0) := by
  unfold pickO; rw [h, srt_id hs]
theorem setW_of {tot : Int} {cut oth : List Int} {k : Int} {x : Lw} {at1 : Int} {x2 : Lw} {l : List Int} (h1 : rwE tot cut oth k = 0) (h2 : (plcW tot cut oth x).1 = (at1, 0)) (h3 : (plcW tot cut oth x).2.1 = x2) (h4 : (ordO k (at1 + 1) x2).1 = (l, 0)) (hs : l.Pairwise (· ≤ ·)) : (setW tot cut oth k x).1 = (l, 0) := by
  unfold setW
  rw [if_pos h1, h2, if_pos rfl, h3]
  exact pickO_of h4 hs
theorem few1 : (setW 4 [2, 4] [1, 1] 3 (.inr ([0, 1, 2], false))).1 = ([2], 0) := setW_of (at1 := 0) (x2 := .inr ([2], false)) (by decide) (by decide) (by kernel_rfl) (by decide) (by simp)
theorem few2 : (setW 4 [2, 4] [1, 1] 3 (.inr ([0, 2, 0, 1], false))).1 = ([0, 2], 0) := setW_of (at1 := 1) (x2 := .inr ([0, 1], false)) (by decide) (by decide) (by kernel_rfl) (by decide) (by simp)
theorem mea1 : meaW 4 [2, 4] [1, 1] 3 2 = (rqf (mkRat 1 48), 0) := by
  rw [meaW_ok (by decide) (by decide)]; rfl
theorem cha1 : chaW [1, 3] 3 1 = (rqf (mkRat 1 12), 0) := by
  unfold chaW; rw [if_pos (by decide), if_neg (by decide)]; rfl
attribute [local irreducible] Fit pt own ro vw mpc lpt vels rels mow lrc dfr
attribute [local irreducible] lmp lme mit velg relg
theorem few_tr : Tr Tryz.prog 35 [] [] [] fun v D => ∃ c o, v = .agg #[I 4, c, o] ∧ c.oneCell' = true ∧ o.oneCell' = true ∧ D = [own TLI c (Is [2, 4]), own TLI o (Is [1, 1])] := by
  refine Tr.enter env _ Tryz.func35 (by kernel_rfl) rfl Tryz.ntmps35 rfl (by repeat (first | exact has00 | refine has01 ?_)) fun w0 => ?_
  repeat' first|refine al fun q => ?_|refine slz fun v hv => ?_|refine bdz ?_|refine srz ?_|refine sq ?_|refine rg ?_|refine xc ?_|refine nl ?_|refine rt ?_
  rename_i c hc
  exact rca1 (cs := [I 4, c, v]) (vs := [I 4, c, v]) (T := TAl) ⟨c, v, rfl, hc, hv, rfl⟩
theorem draws_tr (k e : Int) (lv wv : Value) (l want : List Int) (hl : l.length ≤ 1000) : Tr Tryz.prog 36 [I k, lv, I e, wv] [vw lv (Is l), vw wv (Is want)] []
    fun v D => v = .bool (decide ((setW 4 [2, 4] [1, 1] k (.inr (l, false))).1 = (want, e))) ∧ D = [] := by
  have hS := fun b r sv c o hc ho => SetW_tr 4 k c o [2, 4] [1, 1] b r sv (.inr (l, false)) (okL_row l false) hc ho
  generalize setW 4 [2, 4] [1, 1] k (.inr (l, false)) = sw at *
  obtain ⟨⟨s, f⟩, x2, u2⟩ := sw
  dsimp only at hS ⊢
  refine Tr.enter env _ Tryz.func36 (by kernel_rfl) rfl Tryz.ntmps36 rfl (by repeat (first | exact has00 | refine has01 ?_)) fun w0 => ?_
  repeat' first|(refine gca ?_; first|(refine ca few_tr ?_; rintro _ _ ⟨c, o, rfl, hc, ho, rfl⟩)|(refine ca (LRow_tr lv l (by omega)) ?_; rintro _ _ ⟨b, r, sv, rfl, rfl⟩)|(refine ca (hS b r sv c o hc ho) ?_; rintro _ _ ⟨so, sv2, rfl, rfl⟩)|(refine ca (SameInts_tr so wv s want) ?_; rintro _ _ ⟨rfl, rfl⟩))|(refine wo ?_; first|(refine ao ?_; first|refine oa ?_)|refine oa ?_|refine gy ?_|refine gn ?_|(refine gsi (fun hB => ?_) (fun hB => ?_) <;> try (exfalso; omega)))|refine sq ?_|refine rg ?_|refine xc ?_|refine nl ?_|refine rt ?_
  · refine r1 ⟨?_, rfl⟩
    congr 1; exact decide_eq_decide.2 ⟨fun h => by rw [h, hB], fun h => by injection h⟩
  · refine r1 ⟨?_, rfl⟩
    rw [decide_eq_false fun h => hB (by injection h)]
theorem is_tr (t : Fr3) (e : Int) (n1 d1 : Value) (x y : Nat) (hx : x < 9223372036854775808) (hy : y < 9223372036854775808) (hy0 : y ≠ 0) : Tr Tryz.prog 37 [.agg #[.bool t.1, n1, d1], I e, I x, I y] [vw n1 (Us t.2.1), vw d1 (Us t.2.2)] []
    fun v D => v = .bool (decide (e = 0 ∧ t = rqf (mkRat x y))) ∧ D = [] := by
  have hP := FPair_tr x y hx hy hy0
  unfold FQ2 at hP
  have hl : 0 < (dg (mkRat (x : Int) y).den).length := by have := dg_len_pos (mkRat (x : Int) y).den_nz; omega
  generalize mkRat (x : Int) y = q at *
  refine Tr.enter env _ Tryz.func37 (by kernel_rfl) rfl Tryz.ntmps37 rfl (by repeat (first | exact has00 | refine has01 ?_)) fun w0 => ?_
  repeat' first|(refine gca ?_; first|(refine ca hP ?_; rintro _ _ ⟨vn, vd, rfl, hvn, hvd, rfl⟩)|(refine ca (SameRatio_tr t (rqf q) n1 d1 vn vd) ?_; rintro _ _ ⟨rfl, rfl⟩))|refine bx fun b1 => ?_|refine al fun b2 => ?_|refine lda ?_|refine srz ?_|(refine wo ?_; first|(refine ao ?_; first|refine oa ?_)|refine oa ?_|refine ld ?_|refine lnm ?_|refine gy ?_|refine gn ?_|(refine gsi (fun hB => ?_) (fun hB => ?_) <;> try (exfalso; omega)))|refine sq ?_|refine rg ?_|refine xc ?_|refine nl ?_|refine rt ?_
  · refine r1 ⟨?_, rfl⟩
    congr 1; exact decide_eq_decide.2 ⟨fun h => ⟨by assumption, h⟩, fun h => h.2⟩
  · refine r1 ⟨?_, rfl⟩
    rw [decide_eq_false fun h => absurd h.1 (by assumption)]
theorem awake_tr : Tr Tryz.prog 11 [] [] [] fun v D => v = .bool true ∧ D = [] := by
  have hM := fun c o hc ho => MeaW_tr 4 3 2 c o [2, 4] [1, 1] hc ho
  have hC := fun s => ChaW_tr s [1, 3] 3 1
  simp only [mea1] at hM
  simp only [cha1] at hC
  unfold FW at hM hC
  dsimp only at hM hC
  have hI1 := fun n1 d1 => is_tr (rqf (mkRat 1 48)) 0 n1 d1 1 48 (by decide) (by decide) (by decide)
  have hI2 := fun n1 d1 => is_tr (rqf (mkRat 1 12)) 0 n1 d1 1 12 (by decide) (by decide) (by decide)
  simp only [show ((1 : Nat) : Int) = 1 from rfl, and_self, decide_true] at hI1 hI2
  have hD1 := fun lv wv => draws_tr 3 0 lv wv [0, 1, 2] [2] (by decide)
  have hD2 := fun lv wv => draws_tr 3 0 lv wv [0, 2, 0, 1] [0, 2] (by decide)
  rw [few1] at hD1
  rw [few2] at hD2
  simp only [decide_true] at hD1 hD2
  generalize mkRat 1 48 = q1 at *
  generalize mkRat 1 12 = q2 at *
  refine Tr.enter env _ Tryz.func11 (by kernel_rfl) rfl Tryz.ntmps11 rfl (by repeat (first | exact has00 | refine has01 ?_)) fun w0 => ?_
  repeat' first|(refine gca ?_; first|(refine ca few_tr ?_; rintro _ _ ⟨c, o, rfl, hc, ho, rfl⟩)|(refine ca (hM c o hc ho) ?_; rintro _ _ ⟨n1, d1, rfl, hn1, hd1, rfl⟩)|(refine ca (hC _) ?_; rintro _ _ ⟨n2, d2, rfl, hn2, hd2, rfl⟩)|(refine ca (hD1 _ _) ?_; rintro _ _ ⟨rfl, rfl⟩)|(refine ca (hD2 _ _) ?_; rintro _ _ ⟨rfl, rfl⟩)|(refine ca (hI1 n1 d1) ?_; rintro _ _ ⟨rfl, rfl⟩)|(refine ca (hI2 n2 d2) ?_; rintro _ _ ⟨rfl, rfl⟩))|refine slz fun v hv => ?_|refine al fun b1 => ?_|refine srz ?_|refine lda ?_|(refine wo ?_; first|refine oa ?_|refine gy ?_)|refine sq ?_|refine rg ?_|refine xc ?_|refine nl ?_|refine rt ?_
  exact r1 ⟨rfl, rfl⟩
end Go.Art
set_option linter.unusedSimpArgs false
set_option linter.unusedVariables false
namespace Go.Art
open Go Go.Proofs Go.RowKit
def over (n : Int) : BitVec 64 := c64 18446744073709551615 % c64 n
attribute [local irreducible] Fit pt own ro vw mpc lpt vels rels mow lrc dfr
abbrev TRl : TypeId := 57
abbrev rloP (b : Nat) (st : BitVec 64) (used : Int) : List Ch := [pt b [nS, .bool true, U st, I used, .bool false] TRl]
end Go.Art
set_option linter.unusedSimpArgs false
set_option linter.unusedVariables false
namespace Go.Art
open Go Go.Proofs Go.RowKit
attribute [local irreducible] Fit pt own ro vw mpc lpt vels rels mow lrc dfr
attribute [local irreducible] lmp lme mit velg relg

def plcR (tot : Int) (cut oth : List Int) (st : BitVec 64) : Int × BitVec 64 :=
  (alPick tot cut oth (sdraw cut.length st).1 (sdraw tot.toNat (sdraw cut.length st).2).1, (sdraw tot.toNat (sdraw cut.length st).2).2)
def setR (tot : Int) (cut oth : List Int) (k : Int) (st : BitVec 64) : List Int × Int := pickR k ((plcR tot cut oth st).1 + 1) (plcR tot cut oth st).2
end Go.Art
set_option linter.unusedSimpArgs false
set_option linter.unusedVariables false
namespace Go.Art
open Go Go.Proofs Go.RowKit

def par (j : Nat) : Nat := (j - 1) / 2
structure HpUp (l : List Int) (i : Nat) : Prop where
  a : ∀ j, 0 < j → j < l.length → j ≠ i → l.getD (par j) 0 ≤ l.getD j 0
  b : ∀ j, 0 < j → j < l.length → par j = i → 0 < i → l.getD (par i) 0 ≤ l.getD j 0
structure HpDn (l : List Int) (i : Nat) : Prop where
  a : ∀ j, 0 < j → j < l.length → par j ≠ i → l.getD (par j) 0 ≤ l.getD j 0
  b : ∀ j, 0 < j → j < l.length → par j = i → 0 < i → l.getD (par i) 0 ≤ l.getD j 0
def Heap (l : List Int) : Prop := ∀ j, 0 < j → j < l.length → l.getD (par j) 0 ≤ l.getD j 0
def swq (l : List Int) (i j : Nat) : List Int := (l.set i (l.getD j 0)).set j (l.getD i 0)
end Go.Art
set_option linter.unusedSimpArgs false
set_option linter.unusedVariables false
namespace Go.Art
open Go Go.Proofs Go.RowKit
attribute [local irreducible] Fit pt own ro vw mpc lpt vels rels mow lrc dfr
attribute [local irreducible] lmp lme mit velg relg

section
variable {P : Program} {E : Env P} {n : Sh} {X : Cx} {s : List K} {fr : Fr} {A : List Ch} {ops : Array Oper} {d : Nat} {ty t el : TypeId} {pos : String} {after : Array Edge} {v z : Value} {fuel by_ : Nat} {listed : Array Bool} {S : World → Prop} {x y : Operand} {k1 : IntKind}
end
section
variable {P : Program} {E : Env P} {n : Sh} {X : Cx} {s : List K} {fr : Fr} {A : List Ch} {ops : Array Oper} {rest : List Oper} {d : Nat} {ty t t' : TypeId} {pos : String} {after : Array Edge} {x y : Operand} {m q : Int}
end
section
variable {P : Program} {E : Env P} {n : Sh} {X : Cx} {s : List K} {fr : Fr} {A : List Ch} {ops : Array Oper} {rest : List Oper} {d : Nat} {ty t : TypeId} {pos : String} {after : Array Edge} {v : Value} {x : Operand}
end
section
variable {n : Sh} {X : Cx} {s : List K} {fr : Fr} {A : List Ch} {ops : Array Oper} {rest : List Oper} {d : Nat} {ty : TypeId} {pos : String} {after : Array Edge} {x y : Operand} {a b : Int} {parts : List (Nat × Operand)}
end
abbrev THp : TypeId := 139
def hcut (h : List Int) : List Int := (h.set 0 (h.getD (h.length - 1) 0)).take (h.length - 1)
end Go.Art
set_option linter.unusedSimpArgs false
set_option linter.unusedVariables false
namespace Go.Art
open Go

def Rep (h S : List Int) : Prop := Heap h ∧ h.Perm S ∧ S.Pairwise (· ≤ ·)
structure AlS where
  rest : List Int
  cut : List Int
  oth : List Int
  B : List Int
  A : List Int
def alStep (all : Int) (u : AlS) (i j : Int) (B A : List Int) : AlS :=
  let ri := u.rest.getD i.toNat 0
  let r := u.rest.getD j.toNat 0 - (all - ri)
  ⟨u.rest.set j.toNat r, u.cut.set i.toNat ri, u.oth.set i.toNat j, if r > all then B else if r < all then srt (j :: B) else B, if r > all then j :: A else A⟩
def alRun (all : Int) : Nat → AlS → AlS
  | 0, u => u
  | f + 1, u => match u.B, u.A with
    | i :: B, j :: A => alRun all f (alStep all u i j B A)
    | _, _ => u
def alIn (t : List Int) (all : Int) : Nat → AlS
  | 0 => ⟨List.replicate t.length 0, List.replicate t.length 0, List.replicate t.length 0, [], []⟩
  | i + 1 => let u := alIn t all i
    let r := t.getD i 0 * t.length
    ⟨u.rest.set i r, u.cut.set i all, u.oth.set i i, if r < all then srt ((i : Int) :: u.B) else u.B, if r < all then u.A else if r > all then srt ((i : Int) :: u.A) else u.A⟩
structure AlI (t : List Int) (all : Int) (u : AlS) : Prop where
  lr : u.rest.length = t.length
  lc : u.cut.length = t.length
  lo : u.oth.length = t.length
  nd : (u.B ++ u.A).Nodup
  B : ∀ i ∈ u.B, (0 ≤ i ∧ i < t.length) ∧ 0 ≤ u.rest.getD i.toNat 0 ∧ u.rest.getD i.toNat 0 < all
  A : ∀ j ∈ u.A, (0 ≤ j ∧ j < t.length) ∧ all < u.rest.getD j.toNat 0 ∧ u.rest.getD j.toNat 0 ≤ 1099511627776 ∧ 0 < t.getD j.toNat 0
  sum : (u.B.map fun i => all - u.rest.getD i.toNat 0).sum = (u.A.map fun j => u.rest.getD j.toNat 0 - all).sum
  cut : ∀ c : Nat, c < t.length → 0 ≤ u.cut.getD c 0 ∧ u.cut.getD c 0 ≤ all
  oth : ∀ c : Nat, c < t.length → (0 ≤ u.oth.getD c 0 ∧ u.oth.getD c 0 < t.length) ∧ (u.cut.getD c 0 = all ∨ 0 < t.getD (u.oth.getD c 0).toNat 0)
  zero : ∀ c : Nat, c < t.length → ¬ 0 < t.getD c 0 → u.rest.getD c 0 = 0 ∧ ((c : Int) ∈ u.B ∨ u.cut.getD c 0 = 0)
structure AlJ (t : List Int) (all : Int) (n : Nat) (u : AlS) : Prop where
  lr : u.rest.length = t.length
  lc : u.cut.length = t.length
  lo : u.oth.length = t.length
  nd : (u.B ++ u.A).Nodup
  B : ∀ i ∈ u.B, (0 ≤ i ∧ i < n) ∧ 0 ≤ u.rest.getD i.toNat 0 ∧ u.rest.getD i.toNat 0 < all
  A : ∀ j ∈ u.A, (0 ≤ j ∧ j < n) ∧ all < u.rest.getD j.toNat 0 ∧ u.rest.getD j.toNat 0 ≤ 1099511627776 ∧ 0 < t.getD j.toNat 0
  sum : (u.B.map fun i => all - u.rest.getD i.toNat 0).sum - (u.A.map fun j => u.rest.getD j.toNat 0 - all).sum = n * all - t.length * (t.take n).sum
  cut : ∀ c : Nat, c < n → u.cut.getD c 0 = all
  oth : ∀ c : Nat, c < n → u.oth.getD c 0 = c
  zero : ∀ c : Nat, c < n → ¬ 0 < t.getD c 0 → u.rest.getD c 0 = 0 ∧ (c : Int) ∈ u.B
def alMu (u : AlS) : Nat := u.B.length + 2 * u.A.length
def alEnd (all : Int) (u : AlS) : AlS := alRun all (alMu u) u
def alF (t : List Int) : AlS := alEnd t.sum (alIn t t.sum t.length)
end Go.Art
set_option linter.unusedSimpArgs false
set_option linter.unusedVariables false
namespace Go.Art
open Go Go.Proofs Go.RowKit
attribute [local irreducible] Fit pt own ro vw mpc lpt vels rels mow lrc dfr
attribute [local irreducible] lmp lme mit velg relg

structure MkG where
  i : Nat
  hb : List Int
  ha : List Int
  bv : Value
  av : Value
structure MkH where
  u : AlS
  hb : List Int
  ha : List Int
  bv : Value
  av : Value
end Go.Art
