/- Orders by whatever draws: the program's. Conditions: none. -/
import Derived.Test.YtoapghakfcdflaaSubC
set_option linter.unusedSimpArgs false
set_option linter.unusedVariables false
namespace Go.Art
open Go Go.Proofs Go.RowKit

/-- Something at b from which f draws: D tells its state (after m draws), R what one draw tells. All its blocks lie below B. -/
structure Draws {σ : Type} (f : FuncId) (b B N : Nat) (S : List Nat) (D : Nat → World → σ → Prop) (R : σ → Int → Int → Int → σ → Prop) : Prop where
  draw : ∀ m W st n, D m W st → m < N → Fn Try.prog f [ptr b, I n] W fun v W' => Upd W W' S ∧ ∃ o e st', R st n o e st' ∧ v = tup2 (I o) (I e) ∧ D (m + 1) W' st'
  keep : ∀ m W W' T st, D m W st → Upd W W' T → (∀ i ∈ T, B ≤ i) → D m W' st
  zero : ∀ st o e st', R st 0 o e st' → e = 3 ∧ st' = st
  ok : ∀ st n o st', R st n o 0 st' → 0 ≤ o ∧ o < n
  lt : ∀ i ∈ S, i < B

inductive OrdR {σ : Type} (R : σ → Int → Int → Int → σ → Prop) (k : Int) : List Int → Nat → Nat → σ → List Int → Int → σ → Prop
  | done (l : List Int) (i : Nat) (st : σ) : OrdR R k l i 0 st [] 0 st
  | fail (l : List Int) (i m : Nat) (st : σ) (o e : Int) (st' : σ) (h : R st (k - i) o e st') (he : e ≠ 0) : OrdR R k l i (m + 1) st [] e st'
  | stop (l : List Int) (i m : Nat) (st : σ) (o e : Int) (st' : σ) (ds : List Int) (st'' : σ) (h : R st (k - i) o 0 st') (r : OrdR R k (swp l i (i + o.toNat)) (i + 1) m st' ds e st'') (he : e ≠ 0) : OrdR R k l i (m + 1) st [] e st''
  | step (l : List Int) (i m : Nat) (st : σ) (o : Int) (st' : σ) (ds : List Int) (st'' : σ) (h : R st (k - i) o 0 st') (r : OrdR R k (swp l i (i + o.toNat)) (i + 1) m st' ds 0 st'') : OrdR R k l i (m + 1) st (l.getD (i + o.toNat) 0 :: ds) 0 st''

theorem OrdR.det {σ : Type} {R : σ → Int → Int → Int → σ → Prop} {k : Int} (hR : ∀ st n o e st' o2 e2 st2, R st n o e st' → R st n o2 e2 st2 → o = o2 ∧ e = e2 ∧ st' = st2) {l : List Int} {i m : Nat} {st : σ} {ds : List Int} {e : Int} {st' : σ} (h : OrdR R k l i m st ds e st') :
    ∀ {ds2 : List Int} {e2 : Int} {st2 : σ}, OrdR R k l i m st ds2 e2 st2 → ds = ds2 ∧ e = e2 ∧ st' = st2 := by
  induction h with
  | done l i st => intro ds2 e2 st2 h2; cases h2; exact ⟨rfl, rfl, rfl⟩
  | fail l i m st o e st' h he =>
    intro ds2 e2 st2 h2
    cases h2 with
    | fail _ _ _ _ o2 _ _ h2 he2 => obtain ⟨rfl, rfl, rfl⟩ := hR _ _ _ _ _ _ _ _ h h2; exact ⟨rfl, rfl, rfl⟩
    | stop _ _ _ _ o2 _ _ _ _ h2 _ _ => obtain ⟨_, h3, _⟩ := hR _ _ _ _ _ _ _ _ h h2; exact absurd h3 he
    | step _ _ _ _ o2 _ _ _ h2 _ => obtain ⟨_, h3, _⟩ := hR _ _ _ _ _ _ _ _ h h2; exact absurd h3 he
  | stop l i m st o e st' ds st'' h r he ih =>
    intro ds2 e2 st2 h2
    cases h2 with
    | fail _ _ _ _ o2 _ _ h2 he2 => obtain ⟨_, h3, _⟩ := hR _ _ _ _ _ _ _ _ h h2; exact absurd h3.symm he2
    | stop _ _ _ _ o2 _ _ _ _ h2 r2 _ =>
      obtain ⟨rfl, _, rfl⟩ := hR _ _ _ _ _ _ _ _ h h2
      obtain ⟨_, rfl, rfl⟩ := ih r2
      exact ⟨rfl, rfl, rfl⟩
    | step _ _ _ _ o2 _ _ _ h2 r2 =>
      obtain ⟨rfl, _, rfl⟩ := hR _ _ _ _ _ _ _ _ h h2
      obtain ⟨_, h4, _⟩ := ih r2
      exact absurd h4 he
  | step l i m st o st' ds st'' h r ih =>
    intro ds2 e2 st2 h2
    cases h2 with
    | fail _ _ _ _ o2 _ _ h2 he2 => obtain ⟨_, h3, _⟩ := hR _ _ _ _ _ _ _ _ h h2; exact absurd h3.symm he2
    | stop _ _ _ _ o2 _ _ _ _ h2 r2 he2 =>
      obtain ⟨rfl, _, rfl⟩ := hR _ _ _ _ _ _ _ _ h h2
      obtain ⟨_, h4, _⟩ := ih r2
      exact absurd h4.symm he2
    | step _ _ _ _ o2 _ _ _ h2 r2 =>
      obtain ⟨rfl, _, rfl⟩ := hR _ _ _ _ _ _ _ _ h h2
      obtain ⟨rfl, _, rfl⟩ := ih r2
      exact ⟨rfl, rfl, rfl⟩

theorem OrdR.nil {σ : Type} {R : σ → Int → Int → Int → σ → Prop} {k : Int} {l : List Int} {i m : Nat} {st : σ} {ds : List Int} {e : Int} {st' : σ} (h : OrdR R k l i m st ds e st') (he : e ≠ 0) : ds = [] := by
  cases h with
  | done => rfl
  | fail => rfl
  | stop => rfl
  | step => exact absurd rfl he

def NoSize (k d : Int) : Prop := k < 1 ∨ 65536 < k ∨ d < 1 ∨ k < d
def Ordd {σ : Type} (R : σ → Int → Int → Int → σ → Prop) (k d : Int) (st : σ) (ds : List Int) (e : Int) (st' : σ) : Prop :=
  (NoSize k d ∧ ds = [] ∧ e = 3 ∧ st' = st) ∨ (¬ NoSize k d ∧ OrdR R k (upto k.toNat) 0 d.toNat st ds e st')
theorem Ordd.det {σ : Type} {R : σ → Int → Int → Int → σ → Prop} {k d : Int} (hR : ∀ st n o e st' o2 e2 st2, R st n o e st' → R st n o2 e2 st2 → o = o2 ∧ e = e2 ∧ st' = st2) {st st1 st2 : σ} {ds1 ds2 : List Int} {e1 e2 : Int}
    (h1 : Ordd R k d st ds1 e1 st1) (h2 : Ordd R k d st ds2 e2 st2) : ds1 = ds2 ∧ e1 = e2 ∧ st1 = st2 := by
  rcases h1 with ⟨a, rfl, rfl, rfl⟩ | ⟨a, h1⟩ <;> rcases h2 with ⟨b, rfl, rfl, rfl⟩ | ⟨b, h2⟩
  · exact ⟨rfl, rfl, rfl⟩
  · exact absurd a b
  · exact absurd b a
  · exact h1.det hR h2

/-- The list l of K places is told by g. -/
structure Rel1 (K : Nat) (l : List Int) (g : Int → Int) : Prop where
  len : l.length = K
  at_ : ∀ i : Nat, i < K → l.getD i 0 = g i
theorem Rel1.start (K : Nat) : Rel1 K (upto K) (fun i => i) := ⟨upto_length K, fun i hi => upto_get K i hi⟩
theorem Rel1.step {K : Nat} {l : List Int} {g : Int → Int} (R : Rel1 K l g) {i : Nat} {o : Int} (h0 : 0 ≤ o) (h1 : i + o < K) :
    Rel1 K (swp l i (i + o.toNat)) (upg (upg g i (g (i + o))) (i + o) (g i)) := by
  have hl := R.len
  have hj : ((i + o.toNat : Nat) : Int) = i + o := by omega
  refine ⟨by rw [swp_length]; exact hl, fun t ht => ?_⟩
  rw [swp_get l t (by omega) (by omega), R.at_ i (by omega), R.at_ _ (show i + o.toNat < K by omega), R.at_ t ht, hj]
  unfold upg
  by_cases e1 : t = i
  · subst e1
    by_cases e2 : (t : Int) = t + o
    · rw [if_pos rfl, if_pos e2, ← e2]
    · rw [if_pos rfl, if_neg e2, if_pos rfl]
  · by_cases e2 : t = i + o.toNat
    · rw [if_neg e1, if_pos e2, if_pos (by omega)]
    · rw [if_neg e1, if_neg e2, if_neg (by omega), if_neg (by omega)]

structure OrdG (σ : Type) where
  i : Nat
  m : Nat
  st : σ
  l : List Int
  g : Int → Int
  o : Value
  og : Option Nat
  ds : List Int

set_option maxHeartbeats 1000000 in
theorem Order_fn {σ : Type} {b B N : Nat} {S : List Nat} {D : Nat → World → σ → Prop} {R : σ → Int → Int → Int → σ → Prop} (hDr : Draws 27 b B N S D R)
    {m : Nat} {st : σ} {w : World} (k d : Int) (hD : D m w st) (hB : B ≤ w.heap.size) (hN : m + 65537 ≤ N) :
    Fn Try.prog 51 [ptr b, I k, I d] w fun v w' => Upd w w' S ∧ ∃ s g ds e st' m', v = tup2 s (I e) ∧ Own w' 3 g s (Is ds) ∧ (∀ b, g = some b → w.heap.size ≤ b) ∧ D m' w' st' ∧ m' ≤ m + 65537 ∧ Ordd R k d st ds e st' := by
  refine Fn.enter env _ Try.func51 (by kernel_rfl) rfl Try.ntmps51 rfl ?_
  repeat' (first | refine SC_seq ?_ | refine SC_region ?_ | refine SO_nil ?_ | refine SX_code ?_ | refine SC_skip ?_ | refine SC_block ?_ | refine SC_e rfl ?_ | refine SC_r ?_ | refine SX_block ?_ | (refine GO ?_; (first | (refine SO_b ?_; (first | refine SO_v rfl (R_wrap (R_auto (E := env) rfl) (by omega)) ?_ | refine SO_v rfl (R_true (R_auto (E := env) rfl) (by first | with_reducible rfl | omega)) ?_ | refine SO_v rfl (R_false (R_auto (E := env) rfl) (by omega)) ?_ | refine SO_v rfl (R_nfalse (R_auto (E := env) rfl) (by first | with_reducible rfl | omega)) ?_ | refine SO_v rfl (R_ntrue (R_auto (E := env) rfl) (by omega)) ?_ | refine SO_a rfl rfl ?_ | refine SO_v rfl (R_ptrEqNil (E := env) rfl rfl) ?_ | refine SO_v rfl (R_ptrNeNil (E := env) rfl rfl) ?_ | refine SO_v rfl (R_slEqNil (E := env) rfl rfl) ?_ | refine SO_v rfl (R_ifEqNil (E := env) rfl rfl) ?_ | refine SO_v rfl (R_ifNilEqNil (E := env) rfl rfl) ?_ | refine SO_v rfl (R_boolEq (E := env) rfl rfl rfl) ?_)) | refine SO_a rfl rfl ?_ | refine SO_v rfl (R_load (E := env) rfl rfl rfl (by first | exact blk_cell (by assumption) rfl | assumption)) ?_ | refine SO_v rfl (R_len (E := env) rfl rfl (by assumption)) ?_ | refine SO_v rfl (R_idx (E := env) rfl rfl rfl rfl (by assumption) (by omega)) ?_ | refine SO_v rfl (R_pick_ht rfl (by assumption) rfl) ?_ | refine SO_v rfl (R_pick_hf rfl (by assumption) rfl) ?_ | refine SO_yes rfl rfl rfl ?_ | refine SO_no rfl rfl rfl rfl rfl ?_ | refine SO_nu rfl rfl rfl rfl ?_ | (refine SO_gsplit rfl rfl (fun hB => ?_) (fun hB => ?_) <;> (have hP := hB; (try simp only [decide_eq_true_eq, decide_eq_false_iff_not, Bool.not_eq_true', Bool.not_eq_false', Int.not_lt, Int.not_le] at hP); (try (exfalso; omega)))))) | (refine GC_cond ?_; (first | refine SC_cond_t rfl ?_ | refine SC_cond_f rfl ?_ | refine SC_cond_ht rfl (by assumption) ?_ | refine SC_cond_hf rfl (by assumption) ?_ | (refine SC_cond rfl (fun hB => ?_) (fun hB => ?_) <;> (have hP := hB; (try simp only [decide_eq_true_eq, decide_eq_false_iff_not, Bool.not_eq_true', Bool.not_eq_false', Int.not_lt, Int.not_le] at hP); (try (exfalso; omega)))))))
  refine SO_call rfl rfl (hDr.draw _ _ _ 0 hD (by omega)) ?_
  rintro v w1 ⟨hU1, o, e, st', hr, rfl, hD1⟩
  obtain ⟨rfl, h'⟩ := hDr.zero _ _ _ _ hr
  subst h'
  have hz1 := hU1.size
  repeat' (first | refine SC_seq ?_ | refine SC_region ?_ | refine SO_nil ?_ | refine SX_code ?_ | refine SC_skip ?_ | refine SC_block ?_ | refine SC_e rfl ?_ | refine SC_r ?_ | refine SX_block ?_ | (refine GO ?_; (first | (refine SO_b ?_; (first | refine SO_v rfl (R_wrap (R_auto (E := env) rfl) (by omega)) ?_ | refine SO_v rfl (R_true (R_auto (E := env) rfl) (by first | with_reducible rfl | omega)) ?_ | refine SO_v rfl (R_false (R_auto (E := env) rfl) (by omega)) ?_ | refine SO_v rfl (R_nfalse (R_auto (E := env) rfl) (by first | with_reducible rfl | omega)) ?_ | refine SO_v rfl (R_ntrue (R_auto (E := env) rfl) (by omega)) ?_ | refine SO_a rfl rfl ?_ | refine SO_v rfl (R_ptrEqNil (E := env) rfl rfl) ?_ | refine SO_v rfl (R_ptrNeNil (E := env) rfl rfl) ?_ | refine SO_v rfl (R_slEqNil (E := env) rfl rfl) ?_ | refine SO_v rfl (R_ifEqNil (E := env) rfl rfl) ?_ | refine SO_v rfl (R_ifNilEqNil (E := env) rfl rfl) ?_ | refine SO_v rfl (R_boolEq (E := env) rfl rfl rfl) ?_)) | refine SO_a rfl rfl ?_ | refine SO_v rfl (R_load (E := env) rfl rfl rfl (by first | exact blk_cell (by assumption) rfl | assumption)) ?_ | refine SO_v rfl (R_len (E := env) rfl rfl (by assumption)) ?_ | refine SO_v rfl (R_idx (E := env) rfl rfl rfl rfl (by assumption) (by omega)) ?_ | refine SO_v rfl (R_pick_ht rfl (by assumption) rfl) ?_ | refine SO_v rfl (R_pick_hf rfl (by assumption) rfl) ?_ | refine SO_yes rfl rfl rfl ?_ | refine SO_no rfl rfl rfl rfl rfl ?_ | refine SO_nu rfl rfl rfl rfl ?_ | (refine SO_gsplit rfl rfl (fun hB => ?_) (fun hB => ?_) <;> (have hP := hB; (try simp only [decide_eq_true_eq, decide_eq_false_iff_not, Bool.not_eq_true', Bool.not_eq_false', Int.not_lt, Int.not_le] at hP); (try (exfalso; omega)))))) | (refine GC_cond ?_; (first | refine SC_cond_t rfl ?_ | refine SC_cond_f rfl ?_ | refine SC_cond_ht rfl (by assumption) ?_ | refine SC_cond_hf rfl (by assumption) ?_ | (refine SC_cond rfl (fun hB => ?_) (fun hB => ?_) <;> (have hP := hB; (try simp only [decide_eq_true_eq, decide_eq_false_iff_not, Bool.not_eq_true', Bool.not_eq_false', Int.not_lt, Int.not_le] at hP); (try (exfalso; omega)))))))
  refine SO_call rfl rfl (sized_fn k d w1) ?_
  rintro v w' ⟨rfl, h'⟩
  subst h'
  by_cases hk : NoSize k d
  · rw [decide_eq_false (by unfold NoSize at hk; omega)]
    repeat' (first | refine SC_seq ?_ | refine SC_region ?_ | refine SO_nil ?_ | refine SX_code ?_ | refine SC_skip ?_ | refine SC_block ?_ | refine SC_e rfl ?_ | refine SC_r ?_ | refine SX_block ?_ | (refine GO ?_; (first | (refine SO_b ?_; (first | refine SO_v rfl (R_wrap (R_auto (E := env) rfl) (by omega)) ?_ | refine SO_v rfl (R_true (R_auto (E := env) rfl) (by first | with_reducible rfl | omega)) ?_ | refine SO_v rfl (R_false (R_auto (E := env) rfl) (by omega)) ?_ | refine SO_v rfl (R_nfalse (R_auto (E := env) rfl) (by first | with_reducible rfl | omega)) ?_ | refine SO_v rfl (R_ntrue (R_auto (E := env) rfl) (by omega)) ?_ | refine SO_a rfl rfl ?_ | refine SO_v rfl (R_ptrEqNil (E := env) rfl rfl) ?_ | refine SO_v rfl (R_ptrNeNil (E := env) rfl rfl) ?_ | refine SO_v rfl (R_slEqNil (E := env) rfl rfl) ?_ | refine SO_v rfl (R_ifEqNil (E := env) rfl rfl) ?_ | refine SO_v rfl (R_ifNilEqNil (E := env) rfl rfl) ?_ | refine SO_v rfl (R_boolEq (E := env) rfl rfl rfl) ?_)) | refine SO_a rfl rfl ?_ | refine SO_v rfl (R_load (E := env) rfl rfl rfl (by first | exact blk_cell (by assumption) rfl | assumption)) ?_ | refine SO_v rfl (R_len (E := env) rfl rfl (by assumption)) ?_ | refine SO_v rfl (R_idx (E := env) rfl rfl rfl rfl (by assumption) (by omega)) ?_ | refine SO_v rfl (R_pick_ht rfl (by assumption) rfl) ?_ | refine SO_v rfl (R_pick_hf rfl (by assumption) rfl) ?_ | refine SO_yes rfl rfl rfl ?_ | refine SO_no rfl rfl rfl rfl rfl ?_ | refine SO_nu rfl rfl rfl rfl ?_ | (refine SO_gsplit rfl rfl (fun hB => ?_) (fun hB => ?_) <;> (have hP := hB; (try simp only [decide_eq_true_eq, decide_eq_false_iff_not, Bool.not_eq_true', Bool.not_eq_false', Int.not_lt, Int.not_le] at hP); (try (exfalso; omega)))))) | (refine GC_cond ?_; (first | refine SC_cond_t rfl ?_ | refine SC_cond_f rfl ?_ | refine SC_cond_ht rfl (by assumption) ?_ | refine SC_cond_hf rfl (by assumption) ?_ | (refine SC_cond rfl (fun hB => ?_) (fun hB => ?_) <;> (have hP := hB; (try simp only [decide_eq_true_eq, decide_eq_false_iff_not, Bool.not_eq_true', Bool.not_eq_false', Int.not_lt, Int.not_le] at hP); (try (exfalso; omega)))))))
    exact SX_ret2 rfl rfl rfl rfl ⟨hU1, _, none, [], _, _, _, rfl, Own.nil _ _, by simp, hD1, by omega, .inl ⟨hk, rfl, rfl, rfl⟩⟩
  · have hk' : 1 ≤ k ∧ k ≤ 65536 ∧ 1 ≤ d ∧ d ≤ k := by unfold NoSize at hk; omega
    rw [decide_eq_true hk']
    repeat' (first | refine SC_seq ?_ | refine SC_region ?_ | refine SO_nil ?_ | refine SX_code ?_ | refine SC_skip ?_ | refine SC_block ?_ | refine SC_e rfl ?_ | refine SC_r ?_ | refine SX_block ?_ | (refine GO ?_; (first | (refine SO_b ?_; (first | refine SO_v rfl (R_wrap (R_auto (E := env) rfl) (by omega)) ?_ | refine SO_v rfl (R_true (R_auto (E := env) rfl) (by first | with_reducible rfl | omega)) ?_ | refine SO_v rfl (R_false (R_auto (E := env) rfl) (by omega)) ?_ | refine SO_v rfl (R_nfalse (R_auto (E := env) rfl) (by first | with_reducible rfl | omega)) ?_ | refine SO_v rfl (R_ntrue (R_auto (E := env) rfl) (by omega)) ?_ | refine SO_a rfl rfl ?_ | refine SO_v rfl (R_ptrEqNil (E := env) rfl rfl) ?_ | refine SO_v rfl (R_ptrNeNil (E := env) rfl rfl) ?_ | refine SO_v rfl (R_slEqNil (E := env) rfl rfl) ?_ | refine SO_v rfl (R_ifEqNil (E := env) rfl rfl) ?_ | refine SO_v rfl (R_ifNilEqNil (E := env) rfl rfl) ?_ | refine SO_v rfl (R_boolEq (E := env) rfl rfl rfl) ?_)) | refine SO_a rfl rfl ?_ | refine SO_v rfl (R_load (E := env) rfl rfl rfl (by first | exact blk_cell (by assumption) rfl | assumption)) ?_ | refine SO_v rfl (R_len (E := env) rfl rfl (by assumption)) ?_ | refine SO_v rfl (R_idx (E := env) rfl rfl rfl rfl (by assumption) (by omega)) ?_ | refine SO_v rfl (R_pick_ht rfl (by assumption) rfl) ?_ | refine SO_v rfl (R_pick_hf rfl (by assumption) rfl) ?_ | refine SO_yes rfl rfl rfl ?_ | refine SO_no rfl rfl rfl rfl rfl ?_ | refine SO_nu rfl rfl rfl rfl ?_ | (refine SO_gsplit rfl rfl (fun hB => ?_) (fun hB => ?_) <;> (have hP := hB; (try simp only [decide_eq_true_eq, decide_eq_false_iff_not, Bool.not_eq_true', Bool.not_eq_false', Int.not_lt, Int.not_le] at hP); (try (exfalso; omega)))))) | (refine GC_cond ?_; (first | refine SC_cond_t rfl ?_ | refine SC_cond_f rfl ?_ | refine SC_cond_ht rfl (by assumption) ?_ | refine SC_cond_hf rfl (by assumption) ?_ | (refine SC_cond rfl (fun hB => ?_) (fun hB => ?_) <;> (have hP := hB; (try simp only [decide_eq_true_eq, decide_eq_false_iff_not, Bool.not_eq_true', Bool.not_eq_false', Int.not_lt, Int.not_le] at hP); (try (exfalso; omega)))))))
    refine SO_makeMap rfl fun w2 hE2 hz2 hM2 => ?_
    have hD2 := hDr.keep _ _ _ _ _ hD1 hE2 nofun
    have hU2 : Upd w w2 S := hU1.then hE2 (fun i hi => .inl hi) nofun
    have hp0 : Plc w2 w'.heap.size (fun i => i) := ⟨_, hM2, fun k => .inl ⟨rfl, rfl⟩⟩
    clear hM2 hE2 hD1 hU1
    generalize hp : w'.heap.size = p at *
    repeat' (first | refine SC_seq ?_ | refine SC_region ?_ | refine SO_nil ?_ | refine SX_code ?_ | refine SC_skip ?_ | refine SC_block ?_ | refine SC_e rfl ?_ | refine SC_r ?_ | refine SX_block ?_ | (refine GO ?_; (first | (refine SO_b ?_; (first | refine SO_v rfl (R_wrap (R_auto (E := env) rfl) (by omega)) ?_ | refine SO_v rfl (R_true (R_auto (E := env) rfl) (by first | with_reducible rfl | omega)) ?_ | refine SO_v rfl (R_false (R_auto (E := env) rfl) (by omega)) ?_ | refine SO_v rfl (R_nfalse (R_auto (E := env) rfl) (by first | with_reducible rfl | omega)) ?_ | refine SO_v rfl (R_ntrue (R_auto (E := env) rfl) (by omega)) ?_ | refine SO_a rfl rfl ?_ | refine SO_v rfl (R_ptrEqNil (E := env) rfl rfl) ?_ | refine SO_v rfl (R_ptrNeNil (E := env) rfl rfl) ?_ | refine SO_v rfl (R_slEqNil (E := env) rfl rfl) ?_ | refine SO_v rfl (R_ifEqNil (E := env) rfl rfl) ?_ | refine SO_v rfl (R_ifNilEqNil (E := env) rfl rfl) ?_ | refine SO_v rfl (R_boolEq (E := env) rfl rfl rfl) ?_)) | refine SO_a rfl rfl ?_ | refine SO_v rfl (R_load (E := env) rfl rfl rfl (by first | exact blk_cell (by assumption) rfl | assumption)) ?_ | refine SO_v rfl (R_len (E := env) rfl rfl (by assumption)) ?_ | refine SO_v rfl (R_idx (E := env) rfl rfl rfl rfl (by assumption) (by omega)) ?_ | refine SO_v rfl (R_pick_ht rfl (by assumption) rfl) ?_ | refine SO_v rfl (R_pick_hf rfl (by assumption) rfl) ?_ | refine SO_yes rfl rfl rfl ?_ | refine SO_no rfl rfl rfl rfl rfl ?_ | refine SO_nu rfl rfl rfl rfl ?_ | (refine SO_gsplit rfl rfl (fun hB => ?_) (fun hB => ?_) <;> (have hP := hB; (try simp only [decide_eq_true_eq, decide_eq_false_iff_not, Bool.not_eq_true', Bool.not_eq_false', Int.not_lt, Int.not_le] at hP); (try (exfalso; omega)))))) | (refine GC_cond ?_; (first | refine SC_cond_t rfl ?_ | refine SC_cond_f rfl ?_ | refine SC_cond_ht rfl (by assumption) ?_ | refine SC_cond_hf rfl (by assumption) ?_ | (refine SC_cond rfl (fun hB => ?_) (fun hB => ?_) <;> (have hP := hB; (try simp only [decide_eq_true_eq, decide_eq_false_iff_not, Bool.not_eq_true', Bool.not_eq_false', Int.not_lt, Int.not_le] at hP); (try (exfalso; omega)))))))
    refine SC_loop (ι := OrdG σ) (fun g => [(0, ptr b), (1, I k), (2, I d), (10, mp p), (11, g.o), (28, I d), (29, I g.i)])
      (fun g W => Upd w W S ∧ (g.i : Int) ≤ d ∧ Plc W p g.g ∧ Rel1 k.toNat g.l g.g ∧ Own W 3 g.og g.o (Is g.ds) ∧ (∀ b, g.og = some b → p ≤ b ∧ b ≠ p) ∧ g.ds.length = g.i ∧ g.m = m + 1 + g.i ∧ D g.m W g.st ∧ p < W.heap.size ∧
        ∀ ds e st'', OrdR R k g.l g.i (d.toNat - g.i) g.st ds e st'' → OrdR R k (upto k.toNat) 0 d.toNat st' (if e = 0 then g.ds ++ ds else []) e st'')
      (fun g => d.toNat - g.i) ⟨0, m + 1, st', upto k.toNat, fun i => i, .slice none 0 0, none, []⟩
      ⟨hU2, by dsimp only; omega, hp0, Rel1.start _, Own.nil _ _, by simp, rfl, rfl, hD2, hp0.lt, fun ds e st'' h => by
        by_cases he : e = 0
        · rw [if_pos he]; exact h
        · rw [if_neg he]; rw [h.nil he] at h; exact h⟩ (by (repeat (refine Sub.cons rfl (by first | rfl | go_num) ?_)); exact Sub.nil) ?_
    clear hU2 hp0 hD2 hD hr
    rintro ⟨i, m', st, l, g, o, og, ds⟩ W ⟨hU, hi, hP, hR, hO, hog, hds, hm, hD, hpW, himp⟩
    dsimp only at hi hP hR hO hog hds hm hD hpW himp ⊢
    by_cases hid : (i : Int) < d
    · repeat' (first | refine SC_seq ?_ | refine SC_region ?_ | refine SO_nil ?_ | refine SX_code ?_ | refine SC_skip ?_ | refine SC_block ?_ | refine SC_e rfl ?_ | refine SC_r ?_ | refine SX_block ?_ | (refine GO ?_; (first | (refine SO_b ?_; (first | refine SO_v rfl (R_wrap (R_auto (E := env) rfl) (by omega)) ?_ | refine SO_v rfl (R_true (R_auto (E := env) rfl) (by first | with_reducible rfl | omega)) ?_ | refine SO_v rfl (R_false (R_auto (E := env) rfl) (by omega)) ?_ | refine SO_v rfl (R_nfalse (R_auto (E := env) rfl) (by first | with_reducible rfl | omega)) ?_ | refine SO_v rfl (R_ntrue (R_auto (E := env) rfl) (by omega)) ?_ | refine SO_a rfl rfl ?_ | refine SO_v rfl (R_ptrEqNil (E := env) rfl rfl) ?_ | refine SO_v rfl (R_ptrNeNil (E := env) rfl rfl) ?_ | refine SO_v rfl (R_slEqNil (E := env) rfl rfl) ?_ | refine SO_v rfl (R_ifEqNil (E := env) rfl rfl) ?_ | refine SO_v rfl (R_ifNilEqNil (E := env) rfl rfl) ?_ | refine SO_v rfl (R_boolEq (E := env) rfl rfl rfl) ?_)) | refine SO_a rfl rfl ?_ | refine SO_v rfl (R_load (E := env) rfl rfl rfl (by first | exact blk_cell (by assumption) rfl | assumption)) ?_ | refine SO_v rfl (R_len (E := env) rfl rfl (by assumption)) ?_ | refine SO_v rfl (R_idx (E := env) rfl rfl rfl rfl (by assumption) (by omega)) ?_ | refine SO_v rfl (R_pick_ht rfl (by assumption) rfl) ?_ | refine SO_v rfl (R_pick_hf rfl (by assumption) rfl) ?_ | refine SO_yes rfl rfl rfl ?_ | refine SO_no rfl rfl rfl rfl rfl ?_ | refine SO_nu rfl rfl rfl rfl ?_ | (refine SO_gsplit rfl rfl (fun hB => ?_) (fun hB => ?_) <;> (have hP := hB; (try simp only [decide_eq_true_eq, decide_eq_false_iff_not, Bool.not_eq_true', Bool.not_eq_false', Int.not_lt, Int.not_le] at hP); (try (exfalso; omega)))))) | (refine GC_cond ?_; (first | refine SC_cond_t rfl ?_ | refine SC_cond_f rfl ?_ | refine SC_cond_ht rfl (by assumption) ?_ | refine SC_cond_hf rfl (by assumption) ?_ | (refine SC_cond rfl (fun hB => ?_) (fun hB => ?_) <;> (have hP := hB; (try simp only [decide_eq_true_eq, decide_eq_false_iff_not, Bool.not_eq_true', Bool.not_eq_false', Int.not_lt, Int.not_le] at hP); (try (exfalso; omega)))))))
      refine SO_call rfl rfl (hDr.draw _ _ _ (k - i) hD (by omega)) ?_
      rintro v W1 ⟨hU1, n, e, st1, hr, rfl, hD1⟩
      have hSp : ∀ j ∈ S, j < B := hDr.lt
      have hpS : p ∉ S := fun h => by have := hSp _ h; omega
      have hgS : ∀ b, og = some b → b ∉ S := fun b hb h => by have := hSp _ h; have := hog b hb; omega
      have hUa : Upd w W1 S := hU.then hU1 (fun i hi => .inl hi) (fun i hi => .inl hi)
      have hP1 := hP.upd hU1 hpS
      have hO1 := hO.upd hU1 hgS
      have hz1 := hU1.size
      have hdd : d.toNat - i = (d.toNat - (i + 1)) + 1 := by omega
      rw [hdd] at himp
      by_cases he : e = 0
      · subst he
        have hn := hDr.ok _ _ _ _ hr
        have hR1 := hR.step (i := i) hn.1 (by omega)
        repeat' (first | refine SC_seq ?_ | refine SC_region ?_ | refine SO_nil ?_ | refine SX_code ?_ | refine SC_skip ?_ | refine SC_block ?_ | refine SC_e rfl ?_ | refine SC_r ?_ | refine SX_block ?_ | (refine GO ?_; (first | (refine SO_b ?_; (first | refine SO_v rfl (R_wrap (R_auto (E := env) rfl) (by omega)) ?_ | refine SO_v rfl (R_true (R_auto (E := env) rfl) (by first | with_reducible rfl | omega)) ?_ | refine SO_v rfl (R_false (R_auto (E := env) rfl) (by omega)) ?_ | refine SO_v rfl (R_nfalse (R_auto (E := env) rfl) (by first | with_reducible rfl | omega)) ?_ | refine SO_v rfl (R_ntrue (R_auto (E := env) rfl) (by omega)) ?_ | refine SO_a rfl rfl ?_ | refine SO_v rfl (R_ptrEqNil (E := env) rfl rfl) ?_ | refine SO_v rfl (R_ptrNeNil (E := env) rfl rfl) ?_ | refine SO_v rfl (R_slEqNil (E := env) rfl rfl) ?_ | refine SO_v rfl (R_ifEqNil (E := env) rfl rfl) ?_ | refine SO_v rfl (R_ifNilEqNil (E := env) rfl rfl) ?_ | refine SO_v rfl (R_boolEq (E := env) rfl rfl rfl) ?_)) | refine SO_v rfl (R_wrap (R_auto (E := env) rfl) (by omega)) ?_ | refine SO_a rfl rfl ?_ | refine SO_v rfl (R_load (E := env) rfl rfl rfl (by first | exact blk_cell (by assumption) rfl | assumption)) ?_ | refine SO_v rfl (R_len (E := env) rfl rfl (by assumption)) ?_ | refine SO_v rfl (R_idx (E := env) rfl rfl rfl rfl (by assumption) (by omega)) ?_ | refine SO_v rfl (R_pick_ht rfl (by assumption) rfl) ?_ | refine SO_v rfl (R_pick_hf rfl (by assumption) rfl) ?_ | refine SO_yes rfl rfl rfl ?_ | refine SO_no rfl rfl rfl rfl rfl ?_ | refine SO_nu rfl rfl rfl rfl ?_ | (refine SO_gsplit rfl rfl (fun hB => ?_) (fun hB => ?_) <;> (have hP := hB; (try simp only [decide_eq_true_eq, decide_eq_false_iff_not, Bool.not_eq_true', Bool.not_eq_false', Int.not_lt, Int.not_le] at hP); (try (exfalso; omega)))))) | (refine GC_cond ?_; (first | refine SC_cond_t rfl ?_ | refine SC_cond_f rfl ?_ | refine SC_cond_ht rfl (by assumption) ?_ | refine SC_cond_hf rfl (by assumption) ?_ | (refine SC_cond rfl (fun hB => ?_) (fun hB => ?_) <;> (have hP := hB; (try simp only [decide_eq_true_eq, decide_eq_false_iff_not, Bool.not_eq_true', Bool.not_eq_false', Int.not_lt, Int.not_le] at hP); (try (exfalso; omega)))))))
        refine SO_call rfl rfl (exchange_fn _ _ hP1) ?_
        rintro v W2 ⟨hU2, hP2⟩
        have hD2 := hDr.keep _ _ _ _ _ hD1 hU2 (by simp; omega)
        have hO2 := hO1.upd hU2 (fun b hb => by have := hog b hb; simp; omega)
        have hUb : Upd w W2 S := hUa.then hU2 (fun i hi => .inl hi) (by simp; omega)
        have hz2 := hU2.size
        repeat' (first | refine SC_seq ?_ | refine SC_region ?_ | refine SO_nil ?_ | refine SX_code ?_ | refine SC_skip ?_ | refine SC_block ?_ | refine SC_e rfl ?_ | refine SC_r ?_ | refine SX_block ?_ | (refine GO ?_; (first | (refine SO_b ?_; (first | refine SO_v rfl (R_wrap (R_auto (E := env) rfl) (by omega)) ?_ | refine SO_v rfl (R_true (R_auto (E := env) rfl) (by first | with_reducible rfl | omega)) ?_ | refine SO_v rfl (R_false (R_auto (E := env) rfl) (by omega)) ?_ | refine SO_v rfl (R_nfalse (R_auto (E := env) rfl) (by first | with_reducible rfl | omega)) ?_ | refine SO_v rfl (R_ntrue (R_auto (E := env) rfl) (by omega)) ?_ | refine SO_a rfl rfl ?_ | refine SO_v rfl (R_ptrEqNil (E := env) rfl rfl) ?_ | refine SO_v rfl (R_ptrNeNil (E := env) rfl rfl) ?_ | refine SO_v rfl (R_slEqNil (E := env) rfl rfl) ?_ | refine SO_v rfl (R_ifEqNil (E := env) rfl rfl) ?_ | refine SO_v rfl (R_ifNilEqNil (E := env) rfl rfl) ?_ | refine SO_v rfl (R_boolEq (E := env) rfl rfl rfl) ?_)) | refine SO_a rfl rfl ?_ | refine SO_v rfl (R_load (E := env) rfl rfl rfl (by first | exact blk_cell (by assumption) rfl | assumption)) ?_ | refine SO_v rfl (R_len (E := env) rfl rfl (by assumption)) ?_ | refine SO_v rfl (R_idx (E := env) rfl rfl rfl rfl (by assumption) (by omega)) ?_ | refine SO_v rfl (R_pick_ht rfl (by assumption) rfl) ?_ | refine SO_v rfl (R_pick_hf rfl (by assumption) rfl) ?_ | refine SO_yes rfl rfl rfl ?_ | refine SO_no rfl rfl rfl rfl rfl ?_ | refine SO_nu rfl rfl rfl rfl ?_ | (refine SO_gsplit rfl rfl (fun hB => ?_) (fun hB => ?_) <;> (have hP := hB; (try simp only [decide_eq_true_eq, decide_eq_false_iff_not, Bool.not_eq_true', Bool.not_eq_false', Int.not_lt, Int.not_le] at hP); (try (exfalso; omega)))))) | (refine GC_cond ?_; (first | refine SC_cond_t rfl ?_ | refine SC_cond_f rfl ?_ | refine SC_cond_ht rfl (by assumption) ?_ | refine SC_cond_hf rfl (by assumption) ?_ | (refine SC_cond rfl (fun hB => ?_) (fun hB => ?_) <;> (have hP := hB; (try simp only [decide_eq_true_eq, decide_eq_false_iff_not, Bool.not_eq_true', Bool.not_eq_false', Int.not_lt, Int.not_le] at hP); (try (exfalso; omega)))))))
        refine SO_call rfl rfl (at_fn _ hP2) ?_
        rintro v w'' ⟨rfl, h''⟩
        subst h''
        have hxv : upg (upg g i (g (i + n))) (i + n) (g i) i = l.getD (i + n.toNat) 0 := by
          have h1 := hR1.at_ i (by omega)
          rw [swp_get l i (by have := hR.len; omega) (by have := hR.len; omega), if_pos rfl] at h1
          exact h1.symm
        rw [hxv]
        refine SO_slit rfl rfl rfl rfl rfl (Is_one [l.getD (i + n.toNat) 0]) rfl rfl rfl fun W5 hE5 hO5 => ?_
        refine SO_append rfl rfl rfl rfl rfl rfl (hO2.ext hE5) hO5.sl (Is_one [l.getD (i + n.toNat) 0]) (by simp; omega) (by simp; omega) fun v W6 og' hO6 hU6 hWas _ _ => ?_
        have hz5 := hE5.size
        have hz6 := hU6.size
        have hgU : ∀ j ∈ og.toList, p ≤ j ∧ j ≠ p := fun j hj => hog j (by simpa using hj)
        have hog' : ∀ b, og' = some b → p ≤ b ∧ b ≠ p := fun b hb => by
          rcases hWas with hWas | ⟨b', hWas, hlt⟩
          · exact hog b (by rw [← hWas]; exact hb)
          · rw [hWas] at hb; cases hb; omega
        have hP6 := (hP2.upd hE5 (by simp)).upd hU6 (fun hm => (hgU _ hm).2 rfl)
        have hD6 := hDr.keep _ _ _ _ _ (hDr.keep _ _ _ _ _ hD2 hE5 nofun) hU6 (fun j hj => by have := hgU j hj; omega)
        have hUc : Upd w W6 S := (hUb.then hE5 (U := S) (fun i hi => .inl hi) nofun).then hU6 (fun i hi => .inl hi) (fun j hj => .inr (by have := hgU j hj; omega))
        repeat' (first | refine SC_seq ?_ | refine SC_region ?_ | refine SO_nil ?_ | refine SX_code ?_ | refine SC_skip ?_ | refine SC_block ?_ | refine SC_e rfl ?_ | refine SC_r ?_ | refine SX_block ?_ | (refine GO ?_; (first | (refine SO_b ?_; (first | refine SO_v rfl (R_wrap (R_auto (E := env) rfl) (by omega)) ?_ | refine SO_v rfl (R_true (R_auto (E := env) rfl) (by first | with_reducible rfl | omega)) ?_ | refine SO_v rfl (R_false (R_auto (E := env) rfl) (by omega)) ?_ | refine SO_v rfl (R_nfalse (R_auto (E := env) rfl) (by first | with_reducible rfl | omega)) ?_ | refine SO_v rfl (R_ntrue (R_auto (E := env) rfl) (by omega)) ?_ | refine SO_a rfl rfl ?_ | refine SO_v rfl (R_ptrEqNil (E := env) rfl rfl) ?_ | refine SO_v rfl (R_ptrNeNil (E := env) rfl rfl) ?_ | refine SO_v rfl (R_slEqNil (E := env) rfl rfl) ?_ | refine SO_v rfl (R_ifEqNil (E := env) rfl rfl) ?_ | refine SO_v rfl (R_ifNilEqNil (E := env) rfl rfl) ?_ | refine SO_v rfl (R_boolEq (E := env) rfl rfl rfl) ?_)) | refine SO_a rfl rfl ?_ | refine SO_v rfl (R_load (E := env) rfl rfl rfl (by first | exact blk_cell (by assumption) rfl | assumption)) ?_ | refine SO_v rfl (R_len (E := env) rfl rfl (by assumption)) ?_ | refine SO_v rfl (R_idx (E := env) rfl rfl rfl rfl (by assumption) (by omega)) ?_ | refine SO_v rfl (R_pick_ht rfl (by assumption) rfl) ?_ | refine SO_v rfl (R_pick_hf rfl (by assumption) rfl) ?_ | refine SO_yes rfl rfl rfl ?_ | refine SO_no rfl rfl rfl rfl rfl ?_ | refine SO_nu rfl rfl rfl rfl ?_ | (refine SO_gsplit rfl rfl (fun hB => ?_) (fun hB => ?_) <;> (have hP := hB; (try simp only [decide_eq_true_eq, decide_eq_false_iff_not, Bool.not_eq_true', Bool.not_eq_false', Int.not_lt, Int.not_le] at hP); (try (exfalso; omega)))))) | (refine GC_cond ?_; (first | refine SC_cond_t rfl ?_ | refine SC_cond_f rfl ?_ | refine SC_cond_ht rfl (by assumption) ?_ | refine SC_cond_hf rfl (by assumption) ?_ | (refine SC_cond rfl (fun hB => ?_) (fun hB => ?_) <;> (have hP := hB; (try simp only [decide_eq_true_eq, decide_eq_false_iff_not, Bool.not_eq_true', Bool.not_eq_false', Int.not_lt, Int.not_le] at hP); (try (exfalso; omega)))))))
        refine SX_loop ⟨i + 1, m' + 1, st1, swp l i (i + n.toNat), _, v, og', ds ++ [l.getD (i + n.toNat) 0]⟩ ⟨hUc, by dsimp only; omega, hP6, hR1, ?_, hog', by simp; omega, by dsimp only; omega, hD6, hP6.lt, ?_⟩ (by (repeat (refine Sub.cons rfl (by first | rfl | go_num) ?_)); exact Sub.nil) (by dsimp only; omega)
        · rw [Is_push]; exact hO6
        · intro ds' e st'' h
          by_cases he : e = 0
          · subst he
            have := himp _ _ _ (.step _ _ _ _ _ _ _ _ hr h)
            rw [if_pos rfl] at this ⊢
            simpa using this
          · have := himp _ _ _ (.stop _ _ _ _ _ _ _ _ _ hr h he)
            rw [if_neg he] at this ⊢
            exact this
      · repeat' (first | refine SC_seq ?_ | refine SC_region ?_ | refine SO_nil ?_ | refine SX_code ?_ | refine SC_skip ?_ | refine SC_block ?_ | refine SC_e rfl ?_ | refine SC_r ?_ | refine SX_block ?_ | (refine GO ?_; (first | (refine SO_b ?_; (first | refine SO_v rfl (R_wrap (R_auto (E := env) rfl) (by omega)) ?_ | refine SO_v rfl (R_true (R_auto (E := env) rfl) (by first | with_reducible rfl | omega)) ?_ | refine SO_v rfl (R_false (R_auto (E := env) rfl) (by omega)) ?_ | refine SO_v rfl (R_nfalse (R_auto (E := env) rfl) (by first | with_reducible rfl | omega)) ?_ | refine SO_v rfl (R_ntrue (R_auto (E := env) rfl) (by omega)) ?_ | refine SO_a rfl rfl ?_ | refine SO_v rfl (R_ptrEqNil (E := env) rfl rfl) ?_ | refine SO_v rfl (R_ptrNeNil (E := env) rfl rfl) ?_ | refine SO_v rfl (R_slEqNil (E := env) rfl rfl) ?_ | refine SO_v rfl (R_ifEqNil (E := env) rfl rfl) ?_ | refine SO_v rfl (R_ifNilEqNil (E := env) rfl rfl) ?_ | refine SO_v rfl (R_boolEq (E := env) rfl rfl rfl) ?_)) | refine SO_a rfl rfl ?_ | refine SO_v rfl (R_load (E := env) rfl rfl rfl (by first | exact blk_cell (by assumption) rfl | assumption)) ?_ | refine SO_v rfl (R_len (E := env) rfl rfl (by assumption)) ?_ | refine SO_v rfl (R_idx (E := env) rfl rfl rfl rfl (by assumption) (by omega)) ?_ | refine SO_v rfl (R_pick_ht rfl (by assumption) rfl) ?_ | refine SO_v rfl (R_pick_hf rfl (by assumption) rfl) ?_ | refine SO_yes rfl rfl rfl ?_ | refine SO_no rfl rfl rfl rfl rfl ?_ | refine SO_nu rfl rfl rfl rfl ?_ | (refine SO_gsplit rfl rfl (fun hB => ?_) (fun hB => ?_) <;> (have hP := hB; (try simp only [decide_eq_true_eq, decide_eq_false_iff_not, Bool.not_eq_true', Bool.not_eq_false', Int.not_lt, Int.not_le] at hP); (try (exfalso; omega)))))) | (refine GC_cond ?_; (first | refine SC_cond_t rfl ?_ | refine SC_cond_f rfl ?_ | refine SC_cond_ht rfl (by assumption) ?_ | refine SC_cond_hf rfl (by assumption) ?_ | (refine SC_cond rfl (fun hB => ?_) (fun hB => ?_) <;> (have hP := hB; (try simp only [decide_eq_true_eq, decide_eq_false_iff_not, Bool.not_eq_true', Bool.not_eq_false', Int.not_lt, Int.not_le] at hP); (try (exfalso; omega)))))))
        have h9 := himp _ _ _ (.fail _ _ _ _ _ _ _ hr he)
        rw [if_neg he] at h9
        exact SX_ret2 rfl rfl rfl rfl ⟨hUa, _, none, [], _, _, _, rfl, Own.nil _ _, by simp, hD1, by omega, .inr ⟨hk, h9⟩⟩
    · repeat' (first | refine SC_seq ?_ | refine SC_region ?_ | refine SO_nil ?_ | refine SX_code ?_ | refine SC_skip ?_ | refine SC_block ?_ | refine SC_e rfl ?_ | refine SC_r ?_ | refine SX_block ?_ | (refine GO ?_; (first | (refine SO_b ?_; (first | refine SO_v rfl (R_wrap (R_auto (E := env) rfl) (by omega)) ?_ | refine SO_v rfl (R_true (R_auto (E := env) rfl) (by first | with_reducible rfl | omega)) ?_ | refine SO_v rfl (R_false (R_auto (E := env) rfl) (by omega)) ?_ | refine SO_v rfl (R_nfalse (R_auto (E := env) rfl) (by first | with_reducible rfl | omega)) ?_ | refine SO_v rfl (R_ntrue (R_auto (E := env) rfl) (by omega)) ?_ | refine SO_a rfl rfl ?_ | refine SO_v rfl (R_ptrEqNil (E := env) rfl rfl) ?_ | refine SO_v rfl (R_ptrNeNil (E := env) rfl rfl) ?_ | refine SO_v rfl (R_slEqNil (E := env) rfl rfl) ?_ | refine SO_v rfl (R_ifEqNil (E := env) rfl rfl) ?_ | refine SO_v rfl (R_ifNilEqNil (E := env) rfl rfl) ?_ | refine SO_v rfl (R_boolEq (E := env) rfl rfl rfl) ?_)) | refine SO_a rfl rfl ?_ | refine SO_v rfl (R_load (E := env) rfl rfl rfl (by first | exact blk_cell (by assumption) rfl | assumption)) ?_ | refine SO_v rfl (R_len (E := env) rfl rfl (by assumption)) ?_ | refine SO_v rfl (R_idx (E := env) rfl rfl rfl rfl (by assumption) (by omega)) ?_ | refine SO_v rfl (R_pick_ht rfl (by assumption) rfl) ?_ | refine SO_v rfl (R_pick_hf rfl (by assumption) rfl) ?_ | refine SO_yes rfl rfl rfl ?_ | refine SO_no rfl rfl rfl rfl rfl ?_ | refine SO_nu rfl rfl rfl rfl ?_ | (refine SO_gsplit rfl rfl (fun hB => ?_) (fun hB => ?_) <;> (have hP := hB; (try simp only [decide_eq_true_eq, decide_eq_false_iff_not, Bool.not_eq_true', Bool.not_eq_false', Int.not_lt, Int.not_le] at hP); (try (exfalso; omega)))))) | (refine GC_cond ?_; (first | refine SC_cond_t rfl ?_ | refine SC_cond_f rfl ?_ | refine SC_cond_ht rfl (by assumption) ?_ | refine SC_cond_hf rfl (by assumption) ?_ | (refine SC_cond rfl (fun hB => ?_) (fun hB => ?_) <;> (have hP := hB; (try simp only [decide_eq_true_eq, decide_eq_false_iff_not, Bool.not_eq_true', Bool.not_eq_false', Int.not_lt, Int.not_le] at hP); (try (exfalso; omega)))))))
      have h9 := himp _ _ _ (by rw [show d.toNat - i = 0 by omega]; exact .done _ _ _)
      rw [if_pos rfl, List.append_nil] at h9
      exact SX_ret2 rfl rfl rfl rfl ⟨hU, _, og, ds, _, _, _, rfl, hO, fun b hb => by have := hog b hb; omega, hD, by omega, .inr ⟨hk, h9⟩⟩
end Go.Art
