/- Sets are sized as some weight says. Conditions: none. -/
import Derived.Test.YthgghnaioddkcaaEm
set_option linter.unusedSimpArgs false
set_option linter.unusedVariables false
namespace Go.Art
open Go Go.Proofs Go.RowKit
section
variable {P : Program} {E : Env P} {n : Sh} {X : Cx} {s : List K} {fr : Fr} {A A' : List Ch} {ops : Array Oper} {rest : List Oper} {d m : Nat} {ty t t' e : TypeId} {pos : String} {after : Array Edge} {x y : Operand}
theorem u8c {m : Int} (k : TO E n X s ops rest ((d, y8 m) :: fr) A) (h : evOp E fr (.convert t t' x) = some (.int .u8 (IntKind.u8.wrap m)) := by rfl) (hb : 0 ≤ m ∧ m ≤ 255 := by omega) (hd : Nat.blt d n.n = true := by rfl) :
    TO E n X s ops (⟨some d, .convert t t' x, ty, pos, after, none⟩ :: rest) fr A := TO.val (fun _ _ => by
      have e : IntKind.u8.wrap m = m := by rw [show IntKind.u8.wrap m = m % 256 by simp [IntKind.wrap, IntKind.bits, IntKind.signed]]; omega
      have := R_auto (P := P) (n := n) (w := ‹World›) (ty := ty) h; rwa [e] at this) k hd
end
/-- Symbols of one byte each. -/
def oneL (k : Nat) : List (List Int) := (upto k).map fun x => [x]
theorem oneL_len (k : Nat) : (oneL k).length = k := by unfold oneL; rw [List.length_map, upto_length]
theorem oneL_succ (k : Nat) : oneL (k + 1) = oneL k ++ [[(k : Int)]] := by unfold oneL; rw [upto_succ, List.map_append]; rfl
theorem blk_all {ls : List (List Int)} {n : Nat} (h1 : 1 ≤ ls.length ∧ ls.length ≤ 65536) (h2 : 1 ≤ n ∧ n ≤ 65535) (h : ∀ l ∈ ls, l.length = n) : blkE ls = 0 := by
  have h0 : (ls.getD 0 []).length = n := h _ (getD_memL (by omega))
  unfold blkE
  rw [if_neg (by omega), if_neg]
  rw [List.any_eq_true]
  rintro ⟨l, hl, hd⟩
  have := of_decide_eq_true hd
  rw [h l hl, h0] at this
  exact this rfl
theorem oneL_ok {k : Nat} (h : 1 ≤ k ∧ k ≤ 65536) : blkE (oneL k) = 0 := blk_all (n := 1) (by rw [oneL_len]; exact h) (by omega) fun l hl => by
  unfold oneL at hl
  obtain ⟨x, _, rfl⟩ := List.mem_map.1 hl
  rfl
theorem pick_lt (x : Int) {m : Int} (h : 0 < m) : 0 ≤ pick x m ∧ pick x m < m := by
  unfold pick; rw [if_neg (by omega)]; exact ⟨Int.emod_nonneg x (by omega), Int.emod_lt_of_pos x h⟩
structure SzG where
  i : Nat
  v : Value
  hs : List Value
attribute [local irreducible] Fit pt own ro vw mpc lpt vels rels mow lrc dfr
attribute [local irreducible] lmp lme mit velg relg
set_option maxHeartbeats 1000000 in
theorem EncodeSized_tr (s : Value) (t : List Int) (k0 seed b0 i0 : Int) : Tr Try.prog 5 [s, I k0, I seed, I b0, I i0] [vw s (Is t)] [] fun v D => v = .bool true ∧ D = [] := by
  have hp1 := pick_lt k0 (m := 40) (by decide)
  have hp2 := pick_lt b0 (m := 4294967296) (by decide)
  have hp3 := pick_lt i0 (m := 4294967296) (by decide)
  refine Tr.enter env _ Try.func5 (by kernel_rfl) rfl Try.ntmps5 rfl (by repeat (first | exact has00 | refine has01 ?_)) fun w0 => ?_
  refine TC.leni (v := s) (l := t) fun htl => ?_
  repeat' first|(refine gca ?_; first|(refine ca EncodeKnown_tr ?_; rintro _ _ ⟨rfl, rfl⟩)|(refine ca (Pick_tr _ 40 (by decide)) ?_; rintro _ _ ⟨rfl, rfl⟩)|(refine ca (Pick_tr _ 4294967296 (by decide)) ?_; rintro _ _ ⟨rfl, rfl⟩)|(refine ca (SoCheck_tr s t _) ?_; rintro _ _ ⟨rfl, rfl⟩))|(refine wo ?_; first|(refine ao ?_; first|refine aw ?_|refine aw6 ?_|refine oa ?_|refine adiv ?_|refine amod ?_|refine shr1 ?_|refine shr ?_|refine umod ?_|refine isl ?_|refine ipe ?_|refine ipn ?_|refine ibe ?_)|refine acw ?_|refine ucv ?_|refine anw ?_|refine oa ?_|refine ld ?_|refine ldl ?_|refine lnm ?_|refine ixmn ?_|refine ixm ?_|refine li ?_|refine lv ?_|refine ln ?_|refine ixn ?_|refine ix ?_|refine le ?_|refine sr ?_|refine soi ?_|refine scm ?_|refine sclm ?_|refine schm ?_|refine gy ?_|refine gn ?_|refine gnn ?_|refine gu ?_|(refine gsi (fun hB => ?_) (fun hB => ?_) <;> try (exfalso; omega))|(refine gsn (fun hB => ?_) (fun hB => ?_) <;> try (exfalso; omega))|(refine gs (fun hB => ?_) (fun hB => ?_) <;> try (exfalso; omega)))|(refine gc ?_; first|refine ct ?_|refine cf ?_|(refine ci (fun hB => ?_) (fun hB => ?_) <;> try (exfalso; omega))|(refine cn (fun hB => ?_) (fun hB => ?_) <;> try (exfalso; omega))|(refine cb (fun hB => ?_) (fun hB => ?_) <;> try (exfalso; omega)))|refine sq ?_|refine rg ?_|refine xc ?_|refine nl ?_|refine sk ?_|refine bk ?_|refine xe ?_|refine rt ?_|refine xb ?_
  · exact r1 ⟨rfl, rfl⟩
  · exact r1 ⟨rfl, rfl⟩
  generalize pick k0 40 = k1 at *
  generalize pick b0 4294967296 = blk at *
  generalize pick i0 4294967296 = id at *
  have hE : solE t (1 + k1) = 0 := by omega
  have hnb : numOk blk := by unfold numOk; omega
  have hni : numOk id := by unfold numOk; omega
  obtain ⟨hz, hr, hl1, hl2⟩ := setR_ok hE (seedOf (c64 seed) (c64 blk) (c64 id))
  change Rise (setT t (1 + k1) seed blk id) (1 + k1) at hr
  change 1 ≤ (setT t (1 + k1) seed blk id).length ∧ (setT t (1 + k1) seed blk id).length ≤ t.length at hl1
  change 0 < t.getD ((setT t (1 + k1) seed blk id).length - 1) 0 at hl2
  have hso : setofR t (1 + k1) seed blk id = (setT t (1 + k1) seed blk id, 0) := by rw [setofR, if_pos (by rw [smpE, if_pos hE, if_pos hnb]), setW, if_pos hni]
  have hls : ((oneL (1 + k1).toNat).length : Int) = 1 + k1 := by rw [oneL_len]; omega
  have hnE : newE t blk (oneL (1 + k1).toNat) = 0 := by rw [newE, if_pos (oneL_ok (by omega)), hls, smpE, if_pos hE, if_pos hnb]
  have hsw : setW t (oneL (1 + k1).toNat).length seed blk id = (setT t (1 + k1) seed blk id, 0) := by rw [hls, setW, if_pos hni]
  generalize hks : setT t (1 + k1) seed blk id = is at *
  rw [show is.length - 1 = ((is.length : Int) - 1).toNat by omega] at hl2
  repeat' first|(refine gca ?_; first|(refine ca (SetOf_tr s t _ seed blk id) ?_; rintro _ _ ⟨o, rfl, rfl⟩; rw [hso]; dsimp only))|(refine wo ?_; first|(refine ao ?_; first|refine aw ?_|refine aw6 ?_|refine oa ?_|refine adiv ?_|refine amod ?_|refine shr1 ?_|refine shr ?_|refine umod ?_|refine isl ?_|refine ipe ?_|refine ipn ?_|refine ibe ?_)|refine acw ?_|refine ucv ?_|refine anw ?_|refine oa ?_|refine ld ?_|refine ldl ?_|refine lnm ?_|refine ixmn ?_|refine ixm ?_|refine li ?_|refine lv ?_|refine ln ?_|refine ixn ?_|refine ix ?_|refine le ?_|refine sr ?_|refine soi ?_|refine scm ?_|refine sclm ?_|refine schm ?_|refine gy ?_|refine gn ?_|refine gnn ?_|refine gu ?_|(refine gsi (fun hB => ?_) (fun hB => ?_) <;> try (exfalso; omega))|(refine gsn (fun hB => ?_) (fun hB => ?_) <;> try (exfalso; omega))|(refine gs (fun hB => ?_) (fun hB => ?_) <;> try (exfalso; omega)))|(refine gc ?_; first|refine ct ?_|refine cf ?_|(refine ci (fun hB => ?_) (fun hB => ?_) <;> try (exfalso; omega))|(refine cn (fun hB => ?_) (fun hB => ?_) <;> try (exfalso; omega))|(refine cb (fun hB => ?_) (fun hB => ?_) <;> try (exfalso; omega)))|refine sq ?_|refine rg ?_|refine xc ?_|refine nl ?_|refine sk ?_|refine bk ?_|refine xe ?_|refine rt ?_|refine xb ?_
  refine TC.loop (ι := Nat) (fun i => [(14, I i)]) (fun _ => []) (fun i => i ≤ is.length) (fun i => is.length - i) 0 [0, 1, 2, 3, 4, 11, 12] (by omega) ?_
  intro i hi
  by_cases hlt : i < is.length
  · have hx := hr.lt _ (mem_getD.2 ⟨i, hlt, rfl⟩)
    have hu := hr.up i hlt
    unfold lastOf at hu
    by_cases h0 : i = 0
    · subst h0
      repeat' first|(refine wo ?_; first|(refine ao ?_; first|refine aw ?_|refine aw6 ?_|refine oa ?_|refine adiv ?_|refine amod ?_|refine shr1 ?_|refine shr ?_|refine umod ?_|refine isl ?_|refine ipe ?_|refine ipn ?_|refine ibe ?_)|refine acw ?_|refine ucv ?_|refine anw ?_|refine oa ?_|refine ld ?_|refine ldl ?_|refine lnm ?_|refine ixmn ?_|refine ixm ?_|refine li ?_|refine lv ?_|refine ln ?_|refine ixn ?_|refine ix ?_|refine le ?_|refine sr ?_|refine soi ?_|refine scm ?_|refine sclm ?_|refine schm ?_|refine gy ?_|refine gn ?_|refine gnn ?_|refine gu ?_|(refine gsi (fun hB => ?_) (fun hB => ?_) <;> try (exfalso; omega))|(refine gsn (fun hB => ?_) (fun hB => ?_) <;> try (exfalso; omega))|(refine gs (fun hB => ?_) (fun hB => ?_) <;> try (exfalso; omega)))|(refine gc ?_; first|refine ct ?_|refine cf ?_|(refine ci (fun hB => ?_) (fun hB => ?_) <;> try (exfalso; omega))|(refine cn (fun hB => ?_) (fun hB => ?_) <;> try (exfalso; omega))|(refine cb (fun hB => ?_) (fun hB => ?_) <;> try (exfalso; omega)))|refine sq ?_|refine rg ?_|refine xc ?_|refine nl ?_|refine sk ?_|refine bk ?_|refine xe ?_|refine rt ?_|refine xb ?_|refine rq ?_|refine nq ?_|(refine wq ?_; first|(refine qao ?_; first|refine qaw ?_|refine qa ?_|refine qibe ?_)|refine qacw ?_|refine qa ?_|refine qld ?_|refine qldl ?_|refine qlnm ?_|refine qixmn ?_|refine qixm ?_|refine qli ?_|refine qlv ?_|refine qln ?_|refine qixn ?_|refine qix ?_|refine qle ?_|refine qgy ?_|refine qgn ?_|refine qgu ?_|(refine qgsi (fun hB => ?_) (fun hB => ?_) <;> try (exfalso; omega))|(refine qgsn (fun hB => ?_) (fun hB => ?_) <;> try (exfalso; omega))|(refine qgs (fun hB => ?_) (fun hB => ?_) <;> try (exfalso; omega)))
      exact lp 1 (by omega)
    · rw [if_neg h0, show i - 1 = ((i : Int) - 1).toNat by omega] at hu
      repeat' first|(refine wo ?_; first|(refine ao ?_; first|refine aw ?_|refine aw6 ?_|refine oa ?_|refine adiv ?_|refine amod ?_|refine shr1 ?_|refine shr ?_|refine umod ?_|refine isl ?_|refine ipe ?_|refine ipn ?_|refine ibe ?_)|refine acw ?_|refine ucv ?_|refine anw ?_|refine oa ?_|refine ld ?_|refine ldl ?_|refine lnm ?_|refine ixmn ?_|refine ixm ?_|refine li ?_|refine lv ?_|refine ln ?_|refine ixn ?_|refine ix ?_|refine le ?_|refine sr ?_|refine soi ?_|refine scm ?_|refine sclm ?_|refine schm ?_|refine gy ?_|refine gn ?_|refine gnn ?_|refine gu ?_|(refine gsi (fun hB => ?_) (fun hB => ?_) <;> try (exfalso; omega))|(refine gsn (fun hB => ?_) (fun hB => ?_) <;> try (exfalso; omega))|(refine gs (fun hB => ?_) (fun hB => ?_) <;> try (exfalso; omega)))|(refine gc ?_; first|refine ct ?_|refine cf ?_|(refine ci (fun hB => ?_) (fun hB => ?_) <;> try (exfalso; omega))|(refine cn (fun hB => ?_) (fun hB => ?_) <;> try (exfalso; omega))|(refine cb (fun hB => ?_) (fun hB => ?_) <;> try (exfalso; omega)))|refine sq ?_|refine rg ?_|refine xc ?_|refine nl ?_|refine sk ?_|refine bk ?_|refine xe ?_|refine rt ?_|refine xb ?_|refine rq ?_|refine nq ?_|(refine wq ?_; first|(refine qao ?_; first|refine qaw ?_|refine qa ?_|refine qibe ?_)|refine qacw ?_|refine qa ?_|refine qld ?_|refine qldl ?_|refine qlnm ?_|refine qixmn ?_|refine qixm ?_|refine qli ?_|refine qlv ?_|refine qln ?_|refine qixn ?_|refine qix ?_|refine qle ?_|refine qgy ?_|refine qgn ?_|refine qgu ?_|(refine qgsi (fun hB => ?_) (fun hB => ?_) <;> try (exfalso; omega))|(refine qgsn (fun hB => ?_) (fun hB => ?_) <;> try (exfalso; omega))|(refine qgs (fun hB => ?_) (fun hB => ?_) <;> try (exfalso; omega)))
      exact lp (i + 1) (by omega)
  · obtain rfl : i = is.length := by omega
    repeat' first|(refine wo ?_; first|(refine ao ?_; first|refine aw ?_|refine aw6 ?_|refine oa ?_|refine adiv ?_|refine amod ?_|refine shr1 ?_|refine shr ?_|refine umod ?_|refine isl ?_|refine ipe ?_|refine ipn ?_|refine ibe ?_)|refine acw ?_|refine ucv ?_|refine anw ?_|refine oa ?_|refine ld ?_|refine ldl ?_|refine lnm ?_|refine ixmn ?_|refine ixm ?_|refine li ?_|refine lv ?_|refine ln ?_|refine ixn ?_|refine ix ?_|refine le ?_|refine sr ?_|refine soi ?_|refine scm ?_|refine sclm ?_|refine schm ?_|refine gy ?_|refine gn ?_|refine gnn ?_|refine gu ?_|(refine gsi (fun hB => ?_) (fun hB => ?_) <;> try (exfalso; omega))|(refine gsn (fun hB => ?_) (fun hB => ?_) <;> try (exfalso; omega))|(refine gs (fun hB => ?_) (fun hB => ?_) <;> try (exfalso; omega)))|(refine gc ?_; first|refine ct ?_|refine cf ?_|(refine ci (fun hB => ?_) (fun hB => ?_) <;> try (exfalso; omega))|(refine cn (fun hB => ?_) (fun hB => ?_) <;> try (exfalso; omega))|(refine cb (fun hB => ?_) (fun hB => ?_) <;> try (exfalso; omega)))|refine sq ?_|refine rg ?_|refine xc ?_|refine nl ?_|refine sk ?_|refine bk ?_|refine xe ?_|refine rt ?_|refine xb ?_
    refine TC.im (relg_nil (g := y8) _) ?_
    refine TC.im (own_nil TyV _) ?_
    refine TC.loop (ι := SzG) (fun g => [(16, I g.i), (15, g.v)]) (fun g => [own TyV g.v g.hs, relg y8 g.hs (oneL g.i)]) (fun g => (g.i : Int) ≤ 1 + k1 ∧ g.hs.length = g.i) (fun g => ((1 + k1) - g.i).toNat) ⟨0, nS, []⟩ [0, 1, 2, 3, 4, 11, 12] (by simp; omega) ?_
    rintro ⟨j, v, hs⟩ ⟨g1, g2⟩
    dsimp only at g1 g2 ⊢
    by_cases hj : (j : Int) < 1 + k1
    · repeat' first|refine u8c ?_|refine slbz (l := [(j : Int)]) fun c hc => ?_|refine slw fun c2 hc2 => ?_|refine ap (xs := hs) (news := [c]) (fun v2 => ?_) (h1 := one_cons hc one_nil)|(refine wo ?_; first|(refine ao ?_; first|refine aw ?_|refine aw6 ?_|refine oa ?_|refine adiv ?_|refine amod ?_|refine shr1 ?_|refine shr ?_|refine umod ?_|refine isl ?_|refine ipe ?_|refine ipn ?_|refine ibe ?_)|refine acw ?_|refine ucv ?_|refine anw ?_|refine oa ?_|refine ld ?_|refine ldl ?_|refine lnm ?_|refine ixmn ?_|refine ixm ?_|refine li ?_|refine lv ?_|refine ln ?_|refine ixn ?_|refine ix ?_|refine le ?_|refine sr ?_|refine soi ?_|refine scm ?_|refine sclm ?_|refine schm ?_|refine gy ?_|refine gn ?_|refine gnn ?_|refine gu ?_|(refine gsi (fun hB => ?_) (fun hB => ?_) <;> try (exfalso; omega))|(refine gsn (fun hB => ?_) (fun hB => ?_) <;> try (exfalso; omega))|(refine gs (fun hB => ?_) (fun hB => ?_) <;> try (exfalso; omega)))|(refine gc ?_; first|refine ct ?_|refine cf ?_|(refine ci (fun hB => ?_) (fun hB => ?_) <;> try (exfalso; omega))|(refine cn (fun hB => ?_) (fun hB => ?_) <;> try (exfalso; omega))|(refine cb (fun hB => ?_) (fun hB => ?_) <;> try (exfalso; omega)))|refine sq ?_|refine rg ?_|refine xc ?_|refine nl ?_|refine sk ?_|refine bk ?_|refine xe ?_|refine rt ?_|refine xb ?_
      refine TX.im (snoc_own (g := y8) (e := TyB) (hs := hs) (ls := oneL j) (v := c) (l := [(j : Int)]) (by rw [g2, oneL_len]) (by first | apply Fit.all | ((repeat (first | (apply Fit.nilN; (repeat (first | apply nrm_nil | apply nrm_cons)); try apply nrm_rfl) | (apply Fit.cons; focus ((repeat (first | apply Tk.here | apply Tk.there)); first | done | fail)))); first | done | fail))) ?_
      rw [← oneL_succ]
      exact lp ⟨j + 1, v2, hs ++ [c]⟩ ⟨by dsimp only; omega, by simp [g2]⟩
    · obtain rfl : j = (1 + k1).toNat := by omega
      repeat' first|(refine gca ?_; first|(refine ca (New_tr v s hs (oneL (1 + k1).toNat) t seed blk) ?_; rintro _ _ (⟨_, b, cv, ov, sy, hs', rfl, rfl, hc, ho, hy⟩ | ⟨h, _⟩); rotate_left; exact absurd hnE h)|(refine ca (ESet_tr b cv ov sy hs' t seed blk (oneL (1 + k1).toNat) id hnE hc ho) ?_; rintro _ _ ⟨o2, rfl, rfl⟩; rw [hsw]; dsimp only)|(refine ca (SameInts_tr _ _ is is) ?_; rintro _ _ ⟨rfl, rfl⟩; rw [decide_eq_true rfl]))|(refine wo ?_; first|(refine ao ?_; first|refine aw ?_|refine aw6 ?_|refine oa ?_|refine adiv ?_|refine amod ?_|refine shr1 ?_|refine shr ?_|refine umod ?_|refine isl ?_|refine ipe ?_|refine ipn ?_|refine ibe ?_)|refine acw ?_|refine ucv ?_|refine anw ?_|refine oa ?_|refine ld ?_|refine ldl ?_|refine lnm ?_|refine ixmn ?_|refine ixm ?_|refine li ?_|refine lv ?_|refine ln ?_|refine ixn ?_|refine ix ?_|refine le ?_|refine sr ?_|refine soi ?_|refine scm ?_|refine sclm ?_|refine schm ?_|refine gy ?_|refine gn ?_|refine gnn ?_|refine gu ?_|(refine gsi (fun hB => ?_) (fun hB => ?_) <;> try (exfalso; omega))|(refine gsn (fun hB => ?_) (fun hB => ?_) <;> try (exfalso; omega))|(refine gs (fun hB => ?_) (fun hB => ?_) <;> try (exfalso; omega)))|(refine gc ?_; first|refine ct ?_|refine cf ?_|(refine ci (fun hB => ?_) (fun hB => ?_) <;> try (exfalso; omega))|(refine cn (fun hB => ?_) (fun hB => ?_) <;> try (exfalso; omega))|(refine cb (fun hB => ?_) (fun hB => ?_) <;> try (exfalso; omega)))|refine sq ?_|refine rg ?_|refine xc ?_|refine nl ?_|refine sk ?_|refine bk ?_|refine xe ?_|refine rt ?_|refine xb ?_
      exact r1 ⟨rfl, rfl⟩
end Go.Art
