/- Sets that are drawn rise, and are of the places below k. Conditions: none. -/
import Derived.Test.YthgghnaioddkcaaBs
set_option linter.unusedSimpArgs false
set_option linter.unusedVariables false
namespace Go.Art
open Go

def InjL (l : List Int) : Prop := ∀ a b, a < l.length → b < l.length → l.getD a 0 = l.getD b 0 → a = b
theorem InjL.swp {l : List Int} (h : InjL l) {i j : Nat} (hi : i < l.length) (hj : j < l.length) : InjL (swp l i j) := by
  intro a b ha hb he
  rw [swp_length] at ha hb
  rw [swp_get l a hi hj, swp_get l b hi hj] at he
  by_cases a1 : a = i
  · rw [if_pos a1] at he
    by_cases b1 : b = i
    · omega
    · rw [if_neg b1] at he
      by_cases b2 : b = j
      · rw [if_pos b2] at he; have := h _ _ hj hi he; omega
      · rw [if_neg b2] at he; have := h _ _ hj hb he; omega
  · rw [if_neg a1] at he
    by_cases a2 : a = j
    · rw [if_pos a2] at he
      by_cases b1 : b = i
      · rw [if_pos b1] at he; have := h _ _ hi hj he; omega
      · rw [if_neg b1] at he
        by_cases b2 : b = j
        · omega
        · rw [if_neg b2] at he; have := h _ _ hi hb he; omega
    · rw [if_neg a2] at he
      by_cases b1 : b = i
      · rw [if_pos b1] at he; have := h _ _ ha hj he; omega
      · rw [if_neg b1] at he
        by_cases b2 : b = j
        · rw [if_pos b2] at he; have := h _ _ ha hi he; omega
        · rw [if_neg b2] at he; exact h _ _ ha hb he
theorem ordL_in (k : Nat) : ∀ (m i : Nat) (l : List Int) (st : BitVec 64), l.length = k → i + m ≤ k → InjL l →
    (∀ x ∈ (ordL k m i l st).1, ∃ j, i ≤ j ∧ j < k ∧ l.getD j 0 = x) ∧ (ordL k m i l st).1.Nodup
  | 0, _, _, _, _, _, _ => ⟨fun x hx => (by unfold ordL at hx; cases hx), (by unfold ordL; exact List.nodup_nil)⟩
  | m + 1, i, l, st, hl, him, hn => by
    have hs := sdraw_lt (n := k - i) (by omega) st
    unfold ordL
    dsimp only
    generalize (sdraw (k - i) st).1 = s at *
    generalize (sdraw (k - i) st).2 = st2 at *
    have hi : i < l.length := by omega
    have hj : i + s < l.length := by omega
    obtain ⟨h1, h2⟩ := ordL_in k m (i + 1) (swp l i (i + s)) st2 (by rw [swp_length, hl]) (by omega) (hn.swp hi hj)
    refine ⟨fun x hx => ?_, List.nodup_cons.2 ⟨fun hx => ?_, h2⟩⟩
    · rcases List.mem_cons.1 hx with rfl | hx
      · exact ⟨i + s, by omega, by omega, rfl⟩
      · obtain ⟨j, j1, j2, rfl⟩ := h1 x hx
        rw [swp_get l j hi hj, if_neg (by omega)]
        split
        · exact ⟨i, by omega, by omega, rfl⟩
        · exact ⟨j, by omega, j2, rfl⟩
    · obtain ⟨j, j1, j2, he⟩ := h1 _ hx
      have e2 : (swp l i (i + s)).getD i 0 = l.getD (i + s) 0 := by rw [swp_get l i hi hj, if_pos rfl]
      have := hn.swp hi hj i j (by rw [swp_length]; omega) (by rw [swp_length]; omega) (by rw [e2, he])
      omega
theorem upto_inj (k : Nat) : InjL (upto k) := fun a b ha hb he => by
  rw [upto_length] at ha hb
  rw [upto_get k a ha, upto_get k b hb] at he
  omega
theorem srt_rise {l : List Int} {k : Int} (hn : l.Nodup) (hk : ∀ x ∈ l, 0 ≤ x ∧ x < k) : Rise (srt l) k := by
  have hp := srt_perm l
  have hs := srt_sorted l
  have hd : (srt l).Nodup := hp.nodup_iff.2 hn
  have hm : ∀ x ∈ srt l, 0 ≤ x ∧ x < k := fun x hx => hk x (hp.mem_iff.1 hx)
  refine ⟨fun i hi => ?_, hm⟩
  unfold lastOf
  split
  · have := hm _ (mem_getD.2 ⟨i, hi, rfl⟩); omega
  · rename_i h0
    have h1 := List.pairwise_iff_getElem.1 hs (i - 1) i (by omega) hi (by omega)
    have h2 := List.pairwise_iff_getElem.1 hd (i - 1) i (by omega) hi (by omega)
    simp only [List.getD_eq_getElem?_getD, List.getElem?_eq_getElem hi, List.getElem?_eq_getElem (show i - 1 < (srt l).length by omega), Option.getD_some]
    omega
/-- A drawn set: it rises, is of places below k, has d of them. -/
theorem pick_rise {k d : Int} (h : Sized k d) (st : BitVec 64) : (pickR k d st).2 = 0 ∧ Rise (pickR k d st).1 k ∧ ((pickR k d st).1.length : Int) = d := by
  obtain ⟨h1, h2, h3, h4⟩ := id h
  unfold pickR ordR
  rw [if_pos h]
  obtain ⟨g1, g2⟩ := ordL_in k.toNat d.toNat 0 (upto k.toNat) st (upto_length _) (by omega) (upto_inj _)
  refine ⟨rfl, srt_rise g2 fun x hx => ?_, ?_⟩
  · obtain ⟨j, j1, j2, rfl⟩ := g1 x hx
    rw [upto_get _ _ j2]; omega
  · dsimp only; rw [srt_length, ordL_len]; omega
/-- What a table's weights draw. -/
def tabOk (t : List Int) (k : Int) : Prop := (1 ≤ k ∧ k ≤ 65536) ∧ (1 ≤ t.length ∧ t.length ≤ k) ∧ (∀ w ∈ t, 0 ≤ w ∧ w ≤ 16777215) ∧ ∃ w ∈ t, 0 < w
theorem sum_pos' {t : List Int} (h : ∀ w ∈ t, 0 ≤ w ∧ w ≤ 16777215) (hp : ∃ w ∈ t, 0 < w) : 0 < t.sum := by
  induction t with
  | nil => obtain ⟨w, hw, _⟩ := hp; cases hw
  | cons a r ih =>
    have h1 := h a (by simp)
    have h2 := sum_bound (t := r) fun w hw => h w (by simp [hw])
    rw [List.sum_cons]
    obtain ⟨w, hw, hw0⟩ := hp
    rcases List.mem_cons.1 hw with rfl | hw
    · omega
    · have := ih (fun w hw => h w (by simp [hw])) ⟨w, hw, hw0⟩; omega
/-- The set of a number, by a table. -/
def numOk (n : Int) : Prop := 0 ≤ n ∧ n ≤ 4294967295
instance (n : Int) : Decidable (numOk n) := by unfold numOk; infer_instance
def setT (t : List Int) (k seed block id : Int) : List Int := (setR t.sum (alF t).cut (alF t).oth k (seedOf (c64 seed) (c64 block) (c64 id))).1
theorem setR_ok {t : List Int} {k : Int} (h : solE t k = 0) (st : BitVec 64) : (setR t.sum (alF t).cut (alF t).oth k st).2 = 0 ∧ Rise (setR t.sum (alF t).cut (alF t).oth k st).1 k ∧
    (1 ≤ (setR t.sum (alF t).cut (alF t).oth k st).1.length ∧ (setR t.sum (alF t).cut (alF t).oth k st).1.length ≤ t.length) ∧ 0 < t.getD ((setR t.sum (alF t).cut (alF t).oth k st).1.length - 1) 0 := by
  obtain ⟨h1, h2, h3, h4⟩ := solE_zero h
  have hs := sum_pos' h3 h4
  obtain ⟨g1, g2, g3⟩ := alF_ok h3 (by omega) hs
  have hp := plc_in g1 st
  rw [g2] at hp
  have hpos : 0 < t.getD (plcR t.sum (alF t).cut (alF t).oth st).1.toNat 0 := by
    have l1 := sdraw_lt (n := t.length) (by omega) st
    have l2 := sdraw_lt (n := t.sum.toNat) (by omega) (sdraw t.length st).2
    unfold plcR
    rw [g2]
    dsimp only
    exact g3 _ _ (by omega) (by omega)
  unfold setR
  obtain ⟨q1, q2, q3⟩ := pick_rise (k := k) (d := (plcR t.sum (alF t).cut (alF t).oth st).1 + 1) (by unfold Sized; omega) (plcR t.sum (alF t).cut (alF t).oth st).2
  generalize pickR k ((plcR t.sum (alF t).cut (alF t).oth st).1 + 1) (plcR t.sum (alF t).cut (alF t).oth st).2 = R at *
  refine ⟨q1, q2, by omega, ?_⟩
  rw [show R.1.length - 1 = (plcR t.sum (alF t).cut (alF t).oth st).1.toNat by omega]
  exact hpos
end Go.Art
