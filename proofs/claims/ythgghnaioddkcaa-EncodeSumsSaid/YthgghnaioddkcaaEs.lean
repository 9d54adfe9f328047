/- Packets are sums; sums of blocks have sums of packets. Conditions: none. -/
import Derived.Test.YthgghnaioddkcaaEm
set_option linter.unusedSimpArgs false
set_option linter.unusedVariables false
namespace Go.Art
open Go Go.Proofs Go.RowKit

/-- Symbol i of s bytes each, out of bytes; of it the first j. -/
def prt (a : List Int) (s i j : Nat) : List Int := (List.range s).map fun m => if m < j then a.getD (i * s + m) 0 else 0
theorem prt_len (a : List Int) (s i j : Nat) : (prt a s i j).length = s := by unfold prt; simp
theorem prt_get (a : List Int) {s : Nat} (i j : Nat) {m : Nat} (h : m < s) : (prt a s i j).getD m 0 = if m < j then a.getD (i * s + m) 0 else 0 := by
  unfold prt; simp [List.getD_eq_getElem?_getD, h]
theorem prt_zero (a : List Int) (s i : Nat) : prt a s i 0 = List.replicate s 0 := by
  refine ext_getD (by rw [prt_len, List.length_replicate]) fun m hm => ?_
  rw [prt_len] at hm
  rw [prt_get a i 0 hm, if_neg (Nat.not_lt_zero _)]
  simp [List.getD_eq_getElem?_getD, hm]
theorem prt_yes (a : List Int) {s : Nat} (i : Nat) {j : Nat} (h : j < s) : (prt a s i j).set j (a.getD (i * s + j) 0) = prt a s i (j + 1) := by
  refine ext_getD (by rw [List.length_set, prt_len, prt_len]) fun m hm => ?_
  rw [List.length_set, prt_len] at hm
  rw [getD_set _ _ _ _ (by rw [prt_len]; exact h), prt_get a i j hm, prt_get a i (j + 1) hm]
  by_cases e : j = m
  · subst e; rw [if_pos rfl, if_pos (by omega)]
  · rw [if_neg e]
    by_cases e2 : m < j
    · rw [if_pos e2, if_pos (by omega)]
    · rw [if_neg e2, if_neg (by omega)]
theorem getD_out (a : List Int) {n : Nat} (h : a.length ≤ n) : a.getD n 0 = 0 := by rw [List.getD_eq_getElem?_getD, List.getElem?_eq_none h]; rfl
theorem prt_no (a : List Int) {s : Nat} (i : Nat) {j : Nat} (hn : a.length ≤ (i * s + j)) : prt a s i j = prt a s i (j + 1) := by
  refine ext_getD (by rw [prt_len, prt_len]) fun m hm => ?_
  rw [prt_len] at hm
  rw [prt_get a i j hm, prt_get a i (j + 1) hm]
  by_cases e2 : m < j
  · rw [if_pos e2, if_pos (by omega)]
  · rw [if_neg e2]
    by_cases e : m = j
    · subst e; rw [if_pos (by omega), getD_out a hn]
    · rw [if_neg (by omega)]
theorem prt_in (a : List Int) (h : inB a) (s i j : Nat) : inB (prt a s i j) := fun x hx => by
  unfold prt at hx
  obtain ⟨m, _, rfl⟩ := List.mem_map.1 hx
  by_cases e : m < j
  · rw [if_pos e]
    by_cases e2 : (i * s + m) < a.length
    · exact h _ (mem_getD.2 ⟨_, e2, rfl⟩)
    · rw [getD_out a (by omega)]; decide
  · rw [if_neg e]; decide
/-- The first k symbols. -/
def prts (a : List Int) (s k : Nat) : List (List Int) := (List.range k).map fun i => prt a s i s
theorem prts_len (a : List Int) (s k : Nat) : (prts a s k).length = k := by unfold prts; simp
theorem prts_succ (a : List Int) (s k : Nat) : prts a s (k + 1) = prts a s k ++ [prt a s k s] := by unfold prts; rw [List.range_succ, List.map_append]; rfl
theorem prts_get (a : List Int) (s : Nat) {k i : Nat} (h : i < k) : (prts a s k).getD i [] = prt a s i s := by unfold prts; simp [List.getD_eq_getElem?_getD, h]
theorem prts_all (a : List Int) (s k : Nat) : ∀ l ∈ prts a s k, l.length = s := fun l hl => by
  unfold prts at hl
  obtain ⟨i, _, rfl⟩ := List.mem_map.1 hl
  exact prt_len a s i s
/-- .. and the sums of two. -/
def prtx (a b : List Int) (s k : Nat) : List (List Int) := (List.range k).map fun i => xorL (prt a s i s) (prt b s i s)
theorem prtx_len (a b : List Int) (s k : Nat) : (prtx a b s k).length = k := by unfold prtx; simp
theorem prtx_succ (a b : List Int) (s k : Nat) : prtx a b s (k + 1) = prtx a b s k ++ [xorL (prt a s k s) (prt b s k s)] := by unfold prtx; rw [List.range_succ, List.map_append]; rfl
theorem prtx_get (a b : List Int) (s : Nat) {k i : Nat} (h : i < k) : (prtx a b s k).getD i [] = xorL (prt a s i s) (prt b s i s) := by unfold prtx; simp [List.getD_eq_getElem?_getD, h]
theorem prtx_all (a b : List Int) (s k : Nat) : ∀ l ∈ prtx a b s k, l.length = s := fun l hl => by
  unfold prtx at hl
  obtain ⟨i, _, rfl⟩ := List.mem_map.1 hl
  rw [xorL_len (by rw [prt_len, prt_len]), prt_len]
theorem xor_four {l m p q : List Int} (h1 : l.length = m.length) (h2 : p.length = q.length) (h3 : l.length = p.length) : xorL (xorL l m) (xorL p q) = xorL (xorL l p) (xorL m q) := by
  have e1 := xorL_len h1
  have e2 := xorL_len h2
  have e3 := xorL_len h3
  have e4 := xorL_len (show m.length = q.length by omega)
  have e5 := xorL_len (l := xorL l m) (m := xorL p q) (by omega)
  have e6 := xorL_len (l := xorL l p) (m := xorL m q) (by omega)
  refine ext_getD (by omega) fun i hi => ?_
  rw [e5, e1] at hi
  rw [xorL_get (l := xorL l m) (m := xorL p q) (by omega) (by omega), xorL_get (l := xorL l p) (m := xorL m q) (by omega) (by omega), xorL_get h1 hi, xorL_get h2 (by omega), xorL_get h3 hi, xorL_get (l := m) (m := q) (by omega) (by omega)]
  rw [bxr_assoc, bxr_assoc, ← bxr_assoc (m.getD i 0), bxr_comm (m.getD i 0), bxr_assoc]
theorem xor_zz (n : Nat) : xorL (List.replicate n 0) (List.replicate n 0) = List.replicate n 0 := by
  unfold xorL
  refine List.ext_getElem (by simp) fun i h1 h2 => ?_
  simp; decide
/-- Sums of symbols have sums of packets. -/
theorem sum_xor (a b : List Int) (s k : Nat) (is : List Int) (hr : Rise is k) : ∀ n : Nat, n ≤ is.length →
    sumI (prtx a b s k) is (List.replicate s 0) n = xorL (sumI (prts a s k) is (List.replicate s 0) n) (sumI (prts b s k) is (List.replicate s 0) n)
  | 0, _ => (xor_zz s).symm
  | n + 1, h => by
    have hx := hr.lt _ (mem_getD.2 ⟨n, by omega, rfl⟩)
    have ra : Rise is (prts a s k).length := by rw [prts_len]; exact hr
    have rb : Rise is (prts b s k).length := by rw [prts_len]; exact hr
    have la := sumI_len ra (prts_all a s k) (List.length_replicate (n := s) (a := (0 : Int))) n (by omega)
    have lb := sumI_len rb (prts_all b s k) (List.length_replicate (n := s) (a := (0 : Int))) n (by omega)
    unfold sumI
    rw [sum_xor a b s k is hr n (by omega), prtx_get a b s (by omega), prts_get a s (by omega), prts_get b s (by omega)]
    exact xor_four (by rw [la, lb]) (by rw [prt_len, prt_len]) (by rw [la, prt_len])
theorem sumL_of {ls : List (List Int)} {s : Nat} (h : ∀ l ∈ ls, l.length = s) (h0 : 0 < ls.length) (is : List Int) : sumL ls is = sumI ls is (List.replicate s 0) is.length := by
  unfold sumL; rw [h _ (getD_memL h0)]
theorem sumI_in (ls : List (List Int)) (is : List Int) (n : Nat) : ∀ i : Nat, inB (sumI ls is (List.replicate n 0) i)
  | 0 => inB.rep n (by decide)
  | _ + 1 => inB.xor
theorem pick_lt' (x : Int) {m : Int} (h : 0 < m) : 0 ≤ pick x m ∧ pick x m < m := by
  unfold pick; rw [if_neg (by omega)]; exact ⟨Int.emod_nonneg x (by omega), Int.emod_lt_of_pos x h⟩
theorem blk_all' {ls : List (List Int)} {n : Nat} (h1 : 1 ≤ ls.length ∧ ls.length ≤ 65536) (h2 : 1 ≤ n ∧ n ≤ 65535) (h : ∀ l ∈ ls, l.length = n) : blkE ls = 0 := by
  have h0 : (ls.getD 0 []).length = n := h _ (getD_memL (by omega))
  unfold blkE
  rw [if_neg (by omega), if_neg]
  rw [List.any_eq_true]
  rintro ⟨l, hl, hd⟩
  have := of_decide_eq_true hd
  rw [h l hl, h0] at this
  exact this rfl
theorem enc_facts {t : List Int} {ls : List (List Int)} {K S : Nat} {seed id : Int} (hE : solE t K = 0) (hn : numOk id) (hl : ls.length = K) (hK : 1 ≤ K ∧ K ≤ 65536) (hS : 1 ≤ S ∧ S ≤ 65535) (ha : ∀ l ∈ ls, l.length = S) :
    newE t 0 ls = 0 ∧ setW t ls.length seed 0 id = (setT t K seed 0 id, 0) ∧ pktW t ls seed 0 id = (sumI ls (setT t K seed 0 id) (List.replicate S 0) (setT t K seed 0 id).length, 0) := by
  subst hl
  refine ⟨?_, ?_, ?_⟩
  · rw [newE, if_pos (blk_all' hK hS ha), smpE, if_pos hE, if_pos (by decide)]
  · rw [setW, if_pos hn]
  · rw [pktW, if_pos hn, sumL_of ha (by omega)]
structure SuG where
  i : Nat
  pv : Value
  qv : Value
  rv : Value
  hp : List Value
  hq : List Value
  hr : List Value
attribute [local irreducible] Fit pt own ro vw mpc lpt vels rels mow lrc dfr
attribute [local irreducible] lmp lme mit velg relg
set_option maxHeartbeats 2000000 in
theorem EncodeSums_tr (av bv tv : Value) (a b t : List Int) (k0 s0 seed i0 : Int) : Tr Try.prog 6 [av, bv, I k0, I s0, tv, I seed, I i0] [vw av (By a), vw bv (By b), vw tv (Is t)] [] fun v D => v = .bool true ∧ D = [] := by
  have hp1 := pick_lt' k0 (m := 20) (by decide)
  have hp2 := pick_lt' s0 (m := 50) (by decide)
  have hp3 := pick_lt' i0 (m := 4294967296) (by decide)
  refine Tr.enter env _ Try.func6 (by kernel_rfl) rfl Try.ntmps6 rfl (by repeat (first | exact has00 | refine has01 ?_)) fun w0 => ?_
  refine TC.leni (v := tv) (l := t) fun htl => ?_
  repeat' first|(refine gca ?_; first|(refine ca awake19_tr ?_; rintro _ _ ⟨rfl, rfl⟩)|(refine ca (Pick_tr _ 20 (by decide)) ?_; rintro _ _ ⟨rfl, rfl⟩)|(refine ca (Pick_tr _ 50 (by decide)) ?_; rintro _ _ ⟨rfl, rfl⟩)|(refine ca (Pick_tr _ 4294967296 (by decide)) ?_; rintro _ _ ⟨rfl, rfl⟩)|(refine ca (SoCheck_tr tv t _) ?_; rintro _ _ ⟨rfl, rfl⟩))|(refine wo ?_; first|(refine ao ?_; first|refine aw ?_|refine aw6 ?_|refine oa ?_|refine adiv ?_|refine amod ?_|refine shr1 ?_|refine shr ?_|refine umod ?_|refine isl ?_|refine ipe ?_|refine ipn ?_|refine ibe ?_)|refine acw ?_|refine ucv ?_|refine anw ?_|refine oa ?_|refine ld ?_|refine ldl ?_|refine lnm ?_|refine ixmn ?_|refine ixm ?_|refine li ?_|refine lb ?_|refine lv ?_|refine ln ?_|refine ixn ?_|refine ix ?_|refine le ?_|refine sr ?_|refine soi ?_|refine sob ?_|refine scm ?_|refine sclm ?_|refine schm ?_|refine gy ?_|refine gn ?_|refine gnn ?_|refine gu ?_|(refine gsi (fun hB => ?_) (fun hB => ?_) <;> try (exfalso; omega))|(refine gsn (fun hB => ?_) (fun hB => ?_) <;> try (exfalso; omega))|(refine gs (fun hB => ?_) (fun hB => ?_) <;> try (exfalso; omega)))|(refine gc ?_; first|refine ct ?_|refine cf ?_|(refine ci (fun hB => ?_) (fun hB => ?_) <;> try (exfalso; omega))|(refine cn (fun hB => ?_) (fun hB => ?_) <;> try (exfalso; omega))|(refine cb (fun hB => ?_) (fun hB => ?_) <;> try (exfalso; omega)))|refine sq ?_|refine rg ?_|refine xc ?_|refine nl ?_|refine sk ?_|refine bk ?_|refine xe ?_|refine rt ?_|refine xb ?_
  · exact r1 ⟨rfl, rfl⟩
  · exact r1 ⟨rfl, rfl⟩
  have hE : solE t (1 + pick k0 20) = 0 := by omega
  generalize pick i0 4294967296 = id at *
  have hni : numOk id := by unfold numOk; omega
  generalize hk : 1 + pick k0 20 = k1 at *
  generalize hs : 1 + pick s0 50 = s1 at *
  obtain ⟨K, rfl⟩ := Int.eq_ofNat_of_zero_le (show 0 ≤ k1 by omega)
  obtain ⟨S, rfl⟩ := Int.eq_ofNat_of_zero_le (show 0 ≤ s1 by omega)
  obtain ⟨hz, hr, hl1, hl2⟩ := setR_ok hE (seedOf (c64 seed) (c64 0) (c64 id))
  change Rise (setT t K seed 0 id) K at hr
  change 1 ≤ (setT t K seed 0 id).length ∧ (setT t K seed 0 id).length ≤ t.length at hl1
  obtain ⟨na, wa, ka⟩ := enc_facts (ls := prts a S K) (seed := seed) hE hni (prts_len a S K) (by omega) (by omega) (prts_all a S K)
  obtain ⟨nb, wb, kb⟩ := enc_facts (ls := prts b S K) (seed := seed) hE hni (prts_len b S K) (by omega) (by omega) (prts_all b S K)
  obtain ⟨nx, wx, kx⟩ := enc_facts (ls := prtx a b S K) (seed := seed) hE hni (prtx_len a b S K) (by omega) (by omega) (prtx_all a b S K)
  rw [sum_xor a b S K _ hr _ (Nat.le_refl _)] at kx
  generalize setT t K seed 0 id = is at *
  refine TC.im (relg_nil (g := y8) _) ?_
  refine TC.im (own_nil TyV _) ?_
  refine TC.im (relg_nil (g := y8) _) ?_
  refine TC.im (own_nil TyV _) ?_
  refine TC.im (relg_nil (g := y8) _) ?_
  refine TC.im (own_nil TyV _) ?_
  refine TC.loop (ι := SuG) (fun g => [(19, I g.i), (16, g.pv), (17, g.qv), (18, g.rv)]) (fun g => [own TyV g.pv g.hp, relg y8 g.hp (prts a S g.i), own TyV g.qv g.hq, relg y8 g.hq (prts b S g.i), own TyV g.rv g.hr, relg y8 g.hr (prtx a b S g.i)])
    (fun g => g.i ≤ K ∧ g.hp.length = g.i ∧ g.hq.length = g.i ∧ g.hr.length = g.i) (fun g => K - g.i) ⟨0, nS, nS, nS, [], [], []⟩ [0, 1, 2, 3, 4, 5, 6, 15] (by simp) ?_
  rintro ⟨i, pv, qv, rv, hp, hq, hx⟩ ⟨g1, g2, g3, g4⟩
  dsimp only at g1 g2 g3 g4 ⊢
  by_cases hi : i < K
  · have hmul : 0 ≤ (i : Int) * S ∧ (i : Int) * S ≤ 1000 := ⟨Int.mul_nonneg (by omega) (by omega), by
      have := Int.mul_le_mul (show (i : Int) ≤ 20 by omega) (show (S : Int) ≤ 50 by omega) (by omega) (by decide); omega⟩
    have hla := prt_len a S i
    have hlb := prt_len b S i
    repeat' first|refine sq_cutX (a := .region 10 _ _) (ι := Value × Value) (fun i => i.1.oneCell' = true ∧ i.2.oneCell' = true) (fun g => [(0, av), (1, bv), (2, I K), (3, I S), (4, tv), (5, I seed), (6, I id), (15, .bool true), (16, pv), (17, qv), (18, rv), (19, I i), (20, g.1), (21, g.2)]) (fun g => [own TyV pv hp, relg y8 hp (prts a S i), own TyV qv hq, relg y8 hq (prts b S i), own TyV rv hx, relg y8 hx (prtx a b S i), vw av (By a), vw bv (By b), vw tv (Is t), own TyB g.1 (By (List.replicate S 0)), own TyB g.2 (By (List.replicate S 0))]) ?_ (fun kb => ?_)|refine rs (id := 10) (fun _ => True) ?_ (fun _ _ => trivial)|(refine wo ?_; first|(refine ao ?_; first|refine aw ?_|refine aw6 ?_|refine oa ?_|refine adiv ?_|refine amod ?_|refine shr1 ?_|refine shr ?_|refine umod ?_|refine isl ?_|refine ipe ?_|refine ipn ?_|refine ibe ?_)|refine acw ?_|refine ucv ?_|refine anw ?_|refine oa ?_|refine ld ?_|refine ldl ?_|refine lnm ?_|refine ixmn ?_|refine ixm ?_|refine li ?_|refine lb ?_|refine lv ?_|refine ln ?_|refine ixn ?_|refine ix ?_|refine le ?_|refine sr ?_|refine soi ?_|refine sob ?_|refine scm ?_|refine sclm ?_|refine schm ?_|refine gy ?_|refine gn ?_|refine gnn ?_|refine gu ?_|(refine gsi (fun hB => ?_) (fun hB => ?_) <;> try (exfalso; omega))|(refine gsn (fun hB => ?_) (fun hB => ?_) <;> try (exfalso; omega))|(refine gs (fun hB => ?_) (fun hB => ?_) <;> try (exfalso; omega)))|(refine gc ?_; first|refine ct ?_|refine cf ?_|(refine ci (fun hB => ?_) (fun hB => ?_) <;> try (exfalso; omega))|(refine cn (fun hB => ?_) (fun hB => ?_) <;> try (exfalso; omega))|(refine cb (fun hB => ?_) (fun hB => ?_) <;> try (exfalso; omega)))|refine sq ?_|refine rg ?_|refine xc ?_|refine nl ?_|refine sk ?_|refine bk ?_|refine xe ?_|refine rt ?_|refine xb ?_
    rotate_left
    · refine tka 0 ?_
      refine tka 2 ?_
      refine t2 1 3 ?_ ?_
      · refine mkb (fun xv => ?_)
        rw [Int.toNat_natCast]
        refine TO.one (v := xv) (xs := By (List.replicate S 0)) fun hxv => ?_
        refine nl ?_
        refine te (fun _ _ => trivial) ?_
        refine tka 4 ?_
        refine t1 3 ?_
        refine mkb (fun yv => ?_)
        rw [Int.toNat_natCast]
        refine TO.one (v := yv) (xs := By (List.replicate S 0)) fun hyv => ?_
        refine nl ?_
        refine te (fun _ _ => trivial) ?_
        refine tka 5 ?_
        refine t0 ?_
        refine xc ?_
        exact kb (xv, yv) ⟨hxv, hyv⟩ _ _ (by (repeat (refine Sub.cons rfl (by first | rfl | go_num) ?_)); exact Sub.nil) (by first | apply Fit.all | ((repeat (first | (apply Fit.nilN; (repeat (first | apply nrm_nil | apply nrm_cons)); try apply nrm_rfl) | (apply Fit.cons; focus ((repeat (first | apply Tk.here | apply Tk.there)); first | done | fail)))); first | done | fail))
      · refine mkb (fun yv => ?_)
        rw [Int.toNat_natCast]
        refine TO.one (v := yv) (xs := By (List.replicate S 0)) fun hyv => ?_
        refine nl ?_
        refine te (fun _ _ => trivial) ?_
        refine t1 1 ?_
        refine mkb (fun xv => ?_)
        rw [Int.toNat_natCast]
        refine TO.one (v := xv) (xs := By (List.replicate S 0)) fun hxv => ?_
        refine nl ?_
        refine te (fun _ _ => trivial) ?_
        refine tka 4 ?_
        refine tka 5 ?_
        refine t0 ?_
        refine xc ?_
        exact kb (xv, yv) ⟨hxv, hyv⟩ _ _ (by (repeat (refine Sub.cons rfl (by first | rfl | go_num) ?_)); exact Sub.nil) (by first | apply Fit.all | ((repeat (first | (apply Fit.nilN; (repeat (first | apply nrm_nil | apply nrm_cons)); try apply nrm_rfl) | (apply Fit.cons; focus ((repeat (first | apply Tk.here | apply Tk.there)); first | done | fail)))); first | done | fail))
    rintro ⟨xv, yv⟩ ⟨hxv, hyv⟩
    dsimp only
    repeat' first|(refine wo ?_; first|(refine ao ?_; first|refine aw ?_|refine aw6 ?_|refine oa ?_|refine adiv ?_|refine amod ?_|refine shr1 ?_|refine shr ?_|refine umod ?_|refine isl ?_|refine ipe ?_|refine ipn ?_|refine ibe ?_)|refine acw ?_|refine ucv ?_|refine anw ?_|refine oa ?_|refine ld ?_|refine ldl ?_|refine lnm ?_|refine ixmn ?_|refine ixm ?_|refine li ?_|refine lb ?_|refine lv ?_|refine ln ?_|refine ixn ?_|refine ix ?_|refine le ?_|refine sr ?_|refine soi ?_|refine sob ?_|refine scm ?_|refine sclm ?_|refine schm ?_|refine gy ?_|refine gn ?_|refine gnn ?_|refine gu ?_|(refine gsi (fun hB => ?_) (fun hB => ?_) <;> try (exfalso; omega))|(refine gsn (fun hB => ?_) (fun hB => ?_) <;> try (exfalso; omega))|(refine gs (fun hB => ?_) (fun hB => ?_) <;> try (exfalso; omega)))|(refine gc ?_; first|refine ct ?_|refine cf ?_|(refine ci (fun hB => ?_) (fun hB => ?_) <;> try (exfalso; omega))|(refine cn (fun hB => ?_) (fun hB => ?_) <;> try (exfalso; omega))|(refine cb (fun hB => ?_) (fun hB => ?_) <;> try (exfalso; omega)))|refine sq ?_|refine rg ?_|refine xc ?_|refine nl ?_|refine sk ?_|refine bk ?_|refine xe ?_|refine rt ?_|refine xb ?_
    refine TC.loop (ι := Nat) (fun j => [(22, I j)]) (fun j => [own TyB xv (By (prt a S i j)), own TyB yv (By (prt b S i j))]) (fun j => j ≤ S) (fun j => S - j) 0 [0, 1, 2, 3, 4, 5, 6, 15, 16, 17, 18, 19, 20, 21] (by omega) ?_ (hf := by rw [prt_zero, prt_zero]; first | apply Fit.all | ((repeat (first | (apply Fit.nilN; (repeat (first | apply nrm_nil | apply nrm_cons)); try apply nrm_rfl) | (apply Fit.cons; focus ((repeat (first | apply Tk.here | apply Tk.there)); first | done | fail)))); first | done | fail))
    intro j hj
    by_cases hlt : j < S
    · have hlaj := hla j
      have hlbj := hlb j
      have hmc : ((i * S : Nat) : Int) = (i : Int) * S := Int.natCast_mul i S
      have e1 := prt_yes a i hlt
      have e2 := prt_yes b i hlt
      have e3 := prt_no a (s := S) i (j := j)
      have e4 := prt_no b (s := S) i (j := j)
      repeat' first|(refine wo ?_; first|(refine ao ?_; first|refine aw ?_|refine aw6 ?_|refine oa ?_|refine adiv ?_|refine amod ?_|refine shr1 ?_|refine shr ?_|refine umod ?_|refine isl ?_|refine ipe ?_|refine ipn ?_|refine ibe ?_)|refine acw ?_|refine ucv ?_|refine anw ?_|refine oa ?_|refine ld ?_|refine ldl ?_|refine lnm ?_|refine ixmn ?_|refine ixm ?_|refine li ?_|refine lb ?_|refine lv ?_|refine ln ?_|refine ixn ?_|refine ix ?_|refine le ?_|refine sr ?_|refine soi ?_|refine sob ?_|refine scm ?_|refine sclm ?_|refine schm ?_|refine gy ?_|refine gn ?_|refine gnn ?_|refine gu ?_|(refine gsi (fun hB => ?_) (fun hB => ?_) <;> try (exfalso; omega))|(refine gsn (fun hB => ?_) (fun hB => ?_) <;> try (exfalso; omega))|(refine gs (fun hB => ?_) (fun hB => ?_) <;> try (exfalso; omega)))|(refine gc ?_; first|refine ct ?_|refine cf ?_|(refine ci (fun hB => ?_) (fun hB => ?_) <;> try (exfalso; omega))|(refine cn (fun hB => ?_) (fun hB => ?_) <;> try (exfalso; omega))|(refine cb (fun hB => ?_) (fun hB => ?_) <;> try (exfalso; omega)))|refine sq ?_|refine rg ?_|refine xc ?_|refine nl ?_|refine sk ?_|refine bk ?_|refine xe ?_|refine rt ?_|refine xb ?_
      · rw [e1, e2]; exact lp (j + 1) (by omega)
      · rw [e1, e4 (by omega)]; exact lp (j + 1) (by omega)
      · rw [e3 (by omega), e2]; exact lp (j + 1) (by omega)
      · rw [e3 (by omega), e4 (by omega)]; exact lp (j + 1) (by omega)
    · obtain rfl : j = S := by omega
      repeat' first|(refine gca ?_; first|(refine ca (Xor_tr xv yv (prt a j i j) (prt b j i j) (by rw [hla, hlb]) (by rw [hla]; omega)) ?_; rintro _ _ ⟨zv, rfl, hzv, rfl⟩))|refine slw fun c hc => ?_|refine ap (xs := hp) (news := [xv]) (fun pv2 => ?_) (h1 := one_cons hxv one_nil)|refine ap (xs := hq) (news := [yv]) (fun qv2 => ?_) (h1 := one_cons hyv one_nil)|refine ap (xs := hx) (news := [zv]) (fun rv2 => ?_) (h1 := one_cons hzv one_nil)|(refine wo ?_; first|(refine ao ?_; first|refine aw ?_|refine aw6 ?_|refine oa ?_|refine adiv ?_|refine amod ?_|refine shr1 ?_|refine shr ?_|refine umod ?_|refine isl ?_|refine ipe ?_|refine ipn ?_|refine ibe ?_)|refine acw ?_|refine ucv ?_|refine anw ?_|refine oa ?_|refine ld ?_|refine ldl ?_|refine lnm ?_|refine ixmn ?_|refine ixm ?_|refine li ?_|refine lb ?_|refine lv ?_|refine ln ?_|refine ixn ?_|refine ix ?_|refine le ?_|refine sr ?_|refine soi ?_|refine sob ?_|refine scm ?_|refine sclm ?_|refine schm ?_|refine gy ?_|refine gn ?_|refine gnn ?_|refine gu ?_|(refine gsi (fun hB => ?_) (fun hB => ?_) <;> try (exfalso; omega))|(refine gsn (fun hB => ?_) (fun hB => ?_) <;> try (exfalso; omega))|(refine gs (fun hB => ?_) (fun hB => ?_) <;> try (exfalso; omega)))|(refine gc ?_; first|refine ct ?_|refine cf ?_|(refine ci (fun hB => ?_) (fun hB => ?_) <;> try (exfalso; omega))|(refine cn (fun hB => ?_) (fun hB => ?_) <;> try (exfalso; omega))|(refine cb (fun hB => ?_) (fun hB => ?_) <;> try (exfalso; omega)))|refine sq ?_|refine rg ?_|refine xc ?_|refine nl ?_|refine sk ?_|refine bk ?_|refine xe ?_|refine rt ?_|refine xb ?_
      refine TX.im (snoc_own (g := y8) (e := TyB) (hs := hp) (ls := prts a j i) (v := xv) (l := prt a j i j) (by rw [g2, prts_len]) (by first | apply Fit.all | ((repeat (first | (apply Fit.nilN; (repeat (first | apply nrm_nil | apply nrm_cons)); try apply nrm_rfl) | (apply Fit.cons; focus ((repeat (first | apply Tk.here | apply Tk.there)); first | done | fail)))); first | done | fail))) ?_
      refine TX.im (snoc_own (g := y8) (e := TyB) (hs := hq) (ls := prts b j i) (v := yv) (l := prt b j i j) (by rw [g3, prts_len]) (by first | apply Fit.all | ((repeat (first | (apply Fit.nilN; (repeat (first | apply nrm_nil | apply nrm_cons)); try apply nrm_rfl) | (apply Fit.cons; focus ((repeat (first | apply Tk.here | apply Tk.there)); first | done | fail)))); first | done | fail))) ?_
      refine TX.im (snoc_own (g := y8) (e := TyB) (hs := hx) (ls := prtx a b j i) (v := zv) (l := xorL (prt a j i j) (prt b j i j)) (by rw [g4, prtx_len]) (by first | apply Fit.all | ((repeat (first | (apply Fit.nilN; (repeat (first | apply nrm_nil | apply nrm_cons)); try apply nrm_rfl) | (apply Fit.cons; focus ((repeat (first | apply Tk.here | apply Tk.there)); first | done | fail)))); first | done | fail))) ?_
      rw [← prts_succ, ← prts_succ, ← prtx_succ]
      exact lp ⟨i + 1, pv2, qv2, rv2, hp ++ [xv], hq ++ [yv], hx ++ [zv]⟩ ⟨by dsimp only; omega, by simp [g2], by simp [g3], by simp [g4]⟩
  · obtain rfl : i = K := by omega
    have la := prts_len a S i
    repeat' first|(refine gca ?_; first|(refine ca (New_tr pv tv hp (prts a S i) t seed 0) ?_; rintro _ _ (⟨_, b1, c1, o1, y1, h1, rfl, rfl, hc1, ho1, hy1⟩ | ⟨h, _⟩); rotate_left; exact absurd na h)|(refine ca (New_tr qv tv hq (prts b S i) t seed 0) ?_; rintro _ _ (⟨_, b2, c2, o2, y2, h2, rfl, rfl, hc2, ho2, hy2⟩ | ⟨h, _⟩); rotate_left; exact absurd nb h)|(refine ca (New_tr rv tv hx (prtx a b S i) t seed 0) ?_; rintro _ _ (⟨_, b3, c3, o3, y3, h3, rfl, rfl, hc3, ho3, hy3⟩ | ⟨h, _⟩); rotate_left; exact absurd nx h)|(refine ca (ESet_tr b1 c1 o1 y1 h1 t seed 0 (prts a S i) id na hc1 ho1) ?_; rintro _ _ ⟨sv, rfl, rfl⟩; rw [wa]; dsimp only)|(refine ca (EPacket_tr b1 c1 o1 y1 h1 t seed 0 (prts a S i) id na hc1 ho1) ?_; rintro _ _ ⟨xv, rfl, hxv, rfl⟩; rw [ka]; dsimp only)|(refine ca (EPacket_tr b2 c2 o2 y2 h2 t seed 0 (prts b S i) id nb hc2 ho2) ?_; rintro _ _ ⟨yv, rfl, hyv, rfl⟩; rw [kb]; dsimp only)|(refine ca (EPacket_tr b3 c3 o3 y3 h3 t seed 0 (prtx a b S i) id nx hc3 ho3) ?_; rintro _ _ ⟨zv, rfl, hzv, rfl⟩; rw [kx]; dsimp only))|(refine wo ?_; first|(refine ao ?_; first|refine aw ?_|refine aw6 ?_|refine oa ?_|refine adiv ?_|refine amod ?_|refine shr1 ?_|refine shr ?_|refine umod ?_|refine isl ?_|refine ipe ?_|refine ipn ?_|refine ibe ?_)|refine acw ?_|refine ucv ?_|refine anw ?_|refine oa ?_|refine ld ?_|refine ldl ?_|refine lnm ?_|refine ixmn ?_|refine ixm ?_|refine li ?_|refine lb ?_|refine lv ?_|refine ln ?_|refine ixn ?_|refine ix ?_|refine le ?_|refine sr ?_|refine soi ?_|refine sob ?_|refine scm ?_|refine sclm ?_|refine schm ?_|refine gy ?_|refine gn ?_|refine gnn ?_|refine gu ?_|(refine gsi (fun hB => ?_) (fun hB => ?_) <;> try (exfalso; omega))|(refine gsn (fun hB => ?_) (fun hB => ?_) <;> try (exfalso; omega))|(refine gs (fun hB => ?_) (fun hB => ?_) <;> try (exfalso; omega)))|(refine gc ?_; first|refine ct ?_|refine cf ?_|(refine ci (fun hB => ?_) (fun hB => ?_) <;> try (exfalso; omega))|(refine cn (fun hB => ?_) (fun hB => ?_) <;> try (exfalso; omega))|(refine cb (fun hB => ?_) (fun hB => ?_) <;> try (exfalso; omega)))|refine sq ?_|refine rg ?_|refine xc ?_|refine nl ?_|refine sk ?_|refine bk ?_|refine xe ?_|refine rt ?_|refine xb ?_
    have ra : Rise is (prts a S i).length := by rw [la]; exact hr
    have rb : Rise is (prts b S i).length := by rw [prts_len]; exact hr
    have lA := fun n => sumI_len ra (prts_all a S i) (List.length_replicate (n := S) (a := (0 : Int))) n
    have lB := sumI_len rb (prts_all b S i) (List.length_replicate (n := S) (a := (0 : Int))) is.length (Nat.le_refl _)
    have lA2 := lA is.length (Nat.le_refl _)
    have inA := sumI_in (prts a S i) is S is.length
    have inX := inB.xor (l := sumI (prts a S i) is (List.replicate S 0) is.length) (m := sumI (prts b S i) is (List.replicate S 0) is.length)
    generalize hBB : sumI (prts b S i) is (List.replicate S 0) is.length = BB at *
    repeat' first|(refine gca ?_; first|(refine ca (Xor_tr xv yv (sumI (prts a S i) is (List.replicate S 0) is.length) BB (by omega) (by omega)) ?_; rintro _ _ ⟨mv, rfl, hmv, rfl⟩))|(refine wo ?_; first|(refine ao ?_; first|refine aw ?_|refine aw6 ?_|refine oa ?_|refine adiv ?_|refine amod ?_|refine shr1 ?_|refine shr ?_|refine umod ?_|refine isl ?_|refine ipe ?_|refine ipn ?_|refine ibe ?_)|refine acw ?_|refine ucv ?_|refine anw ?_|refine oa ?_|refine ld ?_|refine ldl ?_|refine lnm ?_|refine ixmn ?_|refine ixm ?_|refine li ?_|refine lb ?_|refine lv ?_|refine ln ?_|refine ixn ?_|refine ix ?_|refine le ?_|refine sr ?_|refine soi ?_|refine sob ?_|refine scm ?_|refine sclm ?_|refine schm ?_|refine gy ?_|refine gn ?_|refine gnn ?_|refine gu ?_|(refine gsi (fun hB => ?_) (fun hB => ?_) <;> try (exfalso; omega))|(refine gsn (fun hB => ?_) (fun hB => ?_) <;> try (exfalso; omega))|(refine gs (fun hB => ?_) (fun hB => ?_) <;> try (exfalso; omega)))|(refine gc ?_; first|refine ct ?_|refine cf ?_|(refine ci (fun hB => ?_) (fun hB => ?_) <;> try (exfalso; omega))|(refine cn (fun hB => ?_) (fun hB => ?_) <;> try (exfalso; omega))|(refine cb (fun hB => ?_) (fun hB => ?_) <;> try (exfalso; omega)))|refine sq ?_|refine rg ?_|refine xc ?_|refine nl ?_|refine sk ?_|refine bk ?_|refine xe ?_|refine rt ?_|refine xb ?_
    refine mkb (fun wv => ?_)
    rw [Int.toNat_natCast]
    repeat' first|(refine wo ?_; first|(refine ao ?_; first|refine aw ?_|refine aw6 ?_|refine oa ?_|refine adiv ?_|refine amod ?_|refine shr1 ?_|refine shr ?_|refine umod ?_|refine isl ?_|refine ipe ?_|refine ipn ?_|refine ibe ?_)|refine acw ?_|refine ucv ?_|refine anw ?_|refine oa ?_|refine ld ?_|refine ldl ?_|refine lnm ?_|refine ixmn ?_|refine ixm ?_|refine li ?_|refine lb ?_|refine lv ?_|refine ln ?_|refine ixn ?_|refine ix ?_|refine le ?_|refine sr ?_|refine soi ?_|refine sob ?_|refine scm ?_|refine sclm ?_|refine schm ?_|refine gy ?_|refine gn ?_|refine gnn ?_|refine gu ?_|(refine gsi (fun hB => ?_) (fun hB => ?_) <;> try (exfalso; omega))|(refine gsn (fun hB => ?_) (fun hB => ?_) <;> try (exfalso; omega))|(refine gs (fun hB => ?_) (fun hB => ?_) <;> try (exfalso; omega)))|(refine gc ?_; first|refine ct ?_|refine cf ?_|(refine ci (fun hB => ?_) (fun hB => ?_) <;> try (exfalso; omega))|(refine cn (fun hB => ?_) (fun hB => ?_) <;> try (exfalso; omega))|(refine cb (fun hB => ?_) (fun hB => ?_) <;> try (exfalso; omega)))|refine sq ?_|refine rg ?_|refine xc ?_|refine nl ?_|refine sk ?_|refine bk ?_|refine xe ?_|refine rt ?_|refine xb ?_
    refine TC.loop (ι := Nat × Value) (fun g => [(44, I g.1), (43, g.2)]) (fun g => [own TyB g.2 (By (sumI (prts a S i) is (List.replicate S 0) g.1))]) (fun g => g.1 ≤ is.length) (fun g => is.length - g.1) (0, wv) [2, 15, 16, 33, 35, 36, 38, 39, 40, 41, 42] (by simp) ?_
    rintro ⟨m, wv⟩ hm
    dsimp only at hm ⊢
    by_cases hlt : m < is.length
    · have hxm := hr.lt _ (mem_getD.2 ⟨m, hlt, rfl⟩)
      have hsm : sumI (prts a S i) is (List.replicate S 0) (m + 1) = xorL (sumI (prts a S i) is (List.replicate S 0) m) ((prts a S i).getD (is.getD m 0).toNat []) := rfl
      have hlm := lA m hm
      have hxl : (is.getD m 0).toNat < (prts a S i).length := by omega
      have hpl := prts_all a S i _ (getD_memL hxl)
      repeat' first|(refine gca ?_; first|(refine ca (Xor_tr wv (hp.getD (is.getD m 0).toNat nS) (sumI (prts a S i) is (List.replicate S 0) m) ((prts a S i).getD (is.getD m 0).toNat []) (by omega) (by omega)) ?_ (hp := has1 (by first | (apply has_vw; (repeat (first | apply List.Mem.head | apply List.Mem.tail)); first | done | fail) | (apply has_own; (repeat (first | apply List.Mem.head | apply List.Mem.tail)); first | done | fail) | (apply has_ro; (repeat (first | apply List.Mem.head | apply List.Mem.tail)); first | done | fail) | apply has_nil | ((with_reducible apply has_el); (focus (first | (apply has_vels; (repeat (first | apply List.Mem.head | apply List.Mem.tail)); first | done | fail) | (apply has_rels; (repeat (first | apply List.Mem.head | apply List.Mem.tail)); first | done | fail))); omega) | (apply has_pt; (repeat (first | apply List.Mem.head | apply List.Mem.tail)); first | done | fail) | (apply has_lpt; (repeat (first | apply List.Mem.head | apply List.Mem.tail)); first | done | fail) | (apply has_vels; (repeat (first | apply List.Mem.head | apply List.Mem.tail)); first | done | fail) | (apply has_rels; (repeat (first | apply List.Mem.head | apply List.Mem.tail)); first | done | fail) | with_reducible assumption | ((with_reducible apply has_elg); (focus (first | (apply has_velg; (repeat (first | apply List.Mem.head | apply List.Mem.tail)); first | done | fail) | (apply has_relg; (repeat (first | apply List.Mem.head | apply List.Mem.tail)); first | done | fail))); omega) | (apply has_velg; (repeat (first | apply List.Mem.head | apply List.Mem.tail)); first | done | fail) | (apply has_relg; (repeat (first | apply List.Mem.head | apply List.Mem.tail)); first | done | fail)) (has1 (has_elg (has_relg (by (repeat (first | apply List.Mem.head | apply List.Mem.tail)); first | done | fail)) hxl) has0)); rintro _ _ ⟨nv, rfl, hnv, rfl⟩))|(refine wo ?_; first|(refine ao ?_; first|refine aw ?_|refine aw6 ?_|refine oa ?_|refine adiv ?_|refine amod ?_|refine shr1 ?_|refine shr ?_|refine umod ?_|refine isl ?_|refine ipe ?_|refine ipn ?_|refine ibe ?_)|refine acw ?_|refine ucv ?_|refine anw ?_|refine oa ?_|refine ld ?_|refine ldl ?_|refine lnm ?_|refine ixmn ?_|refine ixm ?_|refine li ?_|refine lb ?_|refine lv ?_|refine ln ?_|refine ixn ?_|refine ix ?_|refine le ?_|refine sr ?_|refine soi ?_|refine sob ?_|refine scm ?_|refine sclm ?_|refine schm ?_|refine gy ?_|refine gn ?_|refine gnn ?_|refine gu ?_|(refine gsi (fun hB => ?_) (fun hB => ?_) <;> try (exfalso; omega))|(refine gsn (fun hB => ?_) (fun hB => ?_) <;> try (exfalso; omega))|(refine gs (fun hB => ?_) (fun hB => ?_) <;> try (exfalso; omega)))|(refine gc ?_; first|refine ct ?_|refine cf ?_|(refine ci (fun hB => ?_) (fun hB => ?_) <;> try (exfalso; omega))|(refine cn (fun hB => ?_) (fun hB => ?_) <;> try (exfalso; omega))|(refine cb (fun hB => ?_) (fun hB => ?_) <;> try (exfalso; omega)))|refine sq ?_|refine rg ?_|refine xc ?_|refine nl ?_|refine sk ?_|refine bk ?_|refine xe ?_|refine rt ?_|refine xb ?_
      rw [← hsm]
      exact lp (m + 1, nv) (by dsimp only; omega)
    · obtain rfl : m = is.length := by omega
      repeat' first|(refine gca ?_; first|(refine ca (SameBytes_tr _ _ _ _ inX inX) ?_; rintro _ _ ⟨rfl, rfl⟩; rw [decide_eq_true rfl])|(refine ca (SameBytes_tr _ _ _ _ inA inA) ?_; rintro _ _ ⟨rfl, rfl⟩; rw [decide_eq_true rfl]))|(refine wo ?_; first|(refine ao ?_; first|refine aw ?_|refine aw6 ?_|refine oa ?_|refine adiv ?_|refine amod ?_|refine shr1 ?_|refine shr ?_|refine umod ?_|refine isl ?_|refine ipe ?_|refine ipn ?_|refine ibe ?_)|refine acw ?_|refine ucv ?_|refine anw ?_|refine oa ?_|refine ld ?_|refine ldl ?_|refine lnm ?_|refine ixmn ?_|refine ixm ?_|refine li ?_|refine lb ?_|refine lv ?_|refine ln ?_|refine ixn ?_|refine ix ?_|refine le ?_|refine sr ?_|refine soi ?_|refine sob ?_|refine scm ?_|refine sclm ?_|refine schm ?_|refine gy ?_|refine gn ?_|refine gnn ?_|refine gu ?_|(refine gsi (fun hB => ?_) (fun hB => ?_) <;> try (exfalso; omega))|(refine gsn (fun hB => ?_) (fun hB => ?_) <;> try (exfalso; omega))|(refine gs (fun hB => ?_) (fun hB => ?_) <;> try (exfalso; omega)))|(refine gc ?_; first|refine ct ?_|refine cf ?_|(refine ci (fun hB => ?_) (fun hB => ?_) <;> try (exfalso; omega))|(refine cn (fun hB => ?_) (fun hB => ?_) <;> try (exfalso; omega))|(refine cb (fun hB => ?_) (fun hB => ?_) <;> try (exfalso; omega)))|refine sq ?_|refine rg ?_|refine xc ?_|refine nl ?_|refine sk ?_|refine bk ?_|refine xe ?_|refine rt ?_|refine xb ?_
      exact r1 ⟨rfl, rfl⟩
/-- What came in, all lent. -/
structure LSat (A : List Ch) (w : World) : Prop where
  sat : Sat A w
  no : ∀ c ∈ A, ∀ b, ¬ c.wr b
theorem LSat.nil (w : World) : LSat [] w := ⟨Sat.nil w, fun _ h => nomatch h⟩
theorem LSat.cons {c : Ch} {A : List Ch} {w : World} (hc : c.P w) (hn : ∀ b, ¬ c.wr b) (h : LSat A w) : LSat (c :: A) w :=
  ⟨Sat.cons.2 ⟨hc, fun a ha => Ap.of hn fun b hb => absurd hb (h.no a ha b), h.sat⟩, fun x hx => by rcases List.mem_cons.1 hx with rfl | hx; exact hn; exact h.no x hx⟩
theorem LSat.vw {v : Value} {xs : List Value} {A : List Ch} {w : World} (hc : Sl w v xs) (h : LSat A w) : LSat (Go.Art.vw v xs :: A) w := LSat.cons (by unfold Go.Art.vw; exact hc) (fun _ h => by unfold Go.Art.vw at h; exact h) h
end Go.Art
