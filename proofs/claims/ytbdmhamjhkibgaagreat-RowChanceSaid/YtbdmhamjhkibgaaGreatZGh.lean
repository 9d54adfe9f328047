/- Texts put together: As Rc Fr Rk. Conditions: none. -/
import Derived.Test.YtbdmhamjhkibgaaGreatZGg
set_option linter.unusedSimpArgs false
set_option linter.unusedVariables false
namespace Go.Art
open Go
theorem sum_at {f g : Nat → Int} {a : Nat} : ∀ {n : Nat}, a < n → (∀ c, c < n → c ≠ a → f c = g c) → ((List.range n).map f).sum = ((List.range n).map g).sum + (f a - g a)
  | 0, h, _ => absurd h (Nat.not_lt_zero _)
  | n + 1, h, hh => by
    simp only [List.range_succ, List.map_append, List.sum_append, List.map_cons, List.map_nil, List.sum_cons, List.sum_nil]
    by_cases e : a = n
    · subst e
      rw [show (List.range a).map f = (List.range a).map g from List.map_congr_left fun c hc => hh c (by have := List.mem_range.1 hc; omega) (by have := List.mem_range.1 hc; omega)]
      omega
    · have := sum_at (f := f) (g := g) (a := a) (n := n) (by omega) fun c hc hca => hh c (by omega) hca
      have := hh n (by omega) (fun k => e k.symm)
      omega
theorem sum_at2 {f g : Nat → Int} {a b n : Nat} (ha : a < n) (hb : b < n) (hab : a ≠ b) (h : ∀ c, c < n → c ≠ a → c ≠ b → f c = g c) : ((List.range n).map f).sum = ((List.range n).map g).sum + (f a - g a) + (f b - g b) := by
  rw [sum_at (f := f) (g := fun c => if c = a then g c else f c) ha (fun c _ hca => by rw [if_neg hca])]
  rw [sum_at (f := fun c => if c = a then g c else f c) (g := g) hb (fun c hc hcb => by
    by_cases e : c = a
    · rw [if_pos e]
    · rw [if_neg e]; exact h c hc e hcb)]
  rw [if_pos rfl, if_neg (fun k => hab k.symm)]
  omega
theorem sum_single {n j : Nat} (h : j < n) (x : Int) : ((List.range n).map fun c => if c = j then x else 0).sum = x := by
  have := sum_at (f := fun c => if c = j then x else 0) (g := fun _ => 0) h (fun c _ hc => if_neg hc)
  have z : ((List.range n).map fun _ => (0 : Int)).sum = 0 := by
    clear this h
    induction n with
    | zero => rfl
    | succ n ih => rw [List.range_succ, List.map_append, List.sum_append, ih]; rfl
  rw [this, z, if_pos rfl]; omega
def shw (all : Int) (u : AlS) (c j : Nat) : Int :=
  if (c : Int) ∈ u.B ++ u.A then (if c = j then u.rest.getD c 0 else 0) else ((if c = j then u.cut.getD c 0 else 0) + (if u.oth.getD c 0 = j then all - u.cut.getD c 0 else 0))
structure AlM (t : List Int) (all : Int) (u : AlS) : Prop where
  op : ∀ c : Nat, c < t.length → (c : Int) ∈ u.B ++ u.A → u.cut.getD c 0 = all ∧ u.oth.getD c 0 = c
  mass : ∀ j : Nat, j < t.length → ((List.range t.length).map fun c => shw all u c j).sum = t.getD j 0 * t.length
theorem alIn_rest (t : List Int) (all : Int) : ∀ n, n ≤ t.length → (alIn t all n).rest.length = t.length ∧ (∀ c, c < n → (alIn t all n).rest.getD c 0 = t.getD c 0 * t.length ∧ ((c : Int) ∈ (alIn t all n).B ++ (alIn t all n).A ↔ t.getD c 0 * t.length ≠ all)) ∧ (∀ x ∈ (alIn t all n).B ++ (alIn t all n).A, 0 ≤ x ∧ x < n)
  | 0, _ => ⟨by simp [alIn], fun c h => absurd h (Nat.not_lt_zero _), fun x h => by simp [alIn] at h⟩
  | n + 1, h => by
    obtain ⟨h0, h1, h2⟩ := alIn_rest t all n (by omega)
    have hm : ∀ x, x ∈ (alIn t all (n + 1)).B ++ (alIn t all (n + 1)).A ↔ (x ∈ (alIn t all n).B ++ (alIn t all n).A ∨ (x = (n : Int) ∧ t.getD n 0 * t.length ≠ all)) := fun x => by
      show x ∈ (if t.getD n 0 * t.length < all then srt ((n : Int) :: (alIn t all n).B) else (alIn t all n).B) ++ (if t.getD n 0 * t.length < all then (alIn t all n).A else if t.getD n 0 * t.length > all then srt ((n : Int) :: (alIn t all n).A) else (alIn t all n).A) ↔ _
      by_cases c1 : t.getD n 0 * t.length < all
      · rw [if_pos c1, if_pos c1, List.mem_append, (srt_perm _).mem_iff, List.mem_cons, List.mem_append]
        constructor
        · rintro ((e | e) | e)
          · exact .inr ⟨e, by omega⟩
          · exact .inl (.inl e)
          · exact .inl (.inr e)
        · rintro ((e | e) | ⟨e, _⟩)
          · exact .inl (.inr e)
          · exact .inr e
          · exact .inl (.inl e)
      · rw [if_neg c1, if_neg c1]
        by_cases c2 : t.getD n 0 * t.length > all
        · rw [if_pos c2, List.mem_append, (srt_perm _).mem_iff, List.mem_cons, List.mem_append]
          constructor
          · rintro (e | e | e)
            · exact .inl (.inl e)
            · exact .inr ⟨e, by omega⟩
            · exact .inl (.inr e)
          · rintro ((e | e) | ⟨e, _⟩)
            · exact .inl e
            · exact .inr (.inr e)
            · exact .inr (.inl e)
        · rw [if_neg c2]
          exact ⟨.inl, fun e => e.resolve_right fun k => k.2 (by omega)⟩
    refine ⟨by show ((alIn t all n).rest.set n _).length = _; rw [List.length_set]; exact h0, fun c hc => ?_, fun x hx => ?_⟩
    · have hr : (alIn t all (n + 1)).rest.getD c 0 = if n = c then t.getD n 0 * t.length else (alIn t all n).rest.getD c 0 := getD_set _ _ _ _ (by omega)
      rw [hr, hm]
      by_cases e : n = c
      · subst e
        rw [if_pos rfl]
        refine ⟨rfl, fun k => ?_, fun k => .inr ⟨rfl, k⟩⟩
        rcases k with k | k
        · have := (h2 _ k).2; omega
        · exact k.2
      · rw [if_neg e]
        obtain ⟨g1, g2⟩ := h1 c (by omega)
        refine ⟨g1, fun k => ?_, fun k => .inl (g2.2 k)⟩
        rcases k with k | k
        · exact g2.1 k
        · omega
    · rcases (hm x).1 hx with k | k
      · have := h2 x k; omega
      · omega
theorem AlM.start {t : List Int} (hw : ∀ w ∈ t, 0 ≤ w ∧ w ≤ 16777215) (hl : t.length ≤ 65536) (ha : 0 < t.sum) : AlM t t.sum (alIn t t.sum t.length) := by
  have hJ := AlJ.all hw hl ha t.length (Nat.le_refl _)
  obtain ⟨h0, h1, h2⟩ := alIn_rest t t.sum t.length (Nat.le_refl _)
  refine ⟨fun c hc _ => ⟨hJ.cut c hc, hJ.oth c hc⟩, fun j hj => ?_⟩
  rw [← sum_single hj (t.getD j 0 * t.length)]
  refine congrArg List.sum (List.map_congr_left fun c hc => ?_)
  have hc := List.mem_range.1 hc
  obtain ⟨g1, g2⟩ := h1 c hc
  unfold shw
  by_cases e : (c : Int) ∈ (alIn t t.sum t.length).B ++ (alIn t t.sum t.length).A
  · rw [if_pos e]
    by_cases k : c = j
    · rw [if_pos k, if_pos k, ← k]; exact g1
    · rw [if_neg k, if_neg k]
  · rw [if_neg e, hJ.cut c hc, hJ.oth c hc]
    have : t.getD c 0 * t.length = t.sum := Classical.byContradiction fun k => e (g2.2 k)
    by_cases k : c = j
    · rw [if_pos k, if_pos k, if_pos (by omega), ← k]; omega
    · rw [if_neg k, if_neg k, if_neg (by omega)]; omega
theorem AlM.step {t : List Int} {all : Int} {u : AlS} {i j : Int} {B A : List Int} (hI : AlI t all u) (h : AlM t all u) (hB : u.B = i :: B) (hA : u.A = j :: A) : AlM t all (alStep all u i j B A) := by
  have hbi := hI.B i (by rw [hB]; simp)
  have haj := hI.A j (by rw [hA]; simp)
  have hnd := hI.nd
  rw [hB, hA] at hnd
  obtain ⟨n1, n2, n3⟩ := List.nodup_append.1 hnd
  obtain ⟨hiB, nB⟩ := List.nodup_cons.1 n1
  obtain ⟨hjA, nA⟩ := List.nodup_cons.1 n2
  have hij : i ≠ j := n3 i (by simp) j (by simp)
  have hiA : i ∉ A := fun hm => n3 i (by simp) i (by simp [hm]) rfl
  have hjB : j ∉ B := fun hm => n3 j (by simp [hm]) j (by simp) rfl
  have hlr := hI.lr
  have hlc := hI.lc
  have hlo := hI.lo
  obtain ⟨⟨i0, i1⟩, i2, i3⟩ := hbi
  obtain ⟨⟨j0, j1⟩, j2, j3, j4⟩ := haj
  obtain ⟨a, rfl⟩ : ∃ a : Nat, i = a := ⟨i.toNat, by omega⟩
  obtain ⟨b, rfl⟩ : ∃ b : Nat, j = b := ⟨j.toNat, by omega⟩
  rw [Int.toNat_natCast] at i2 i3 j2 j3
  have hab : a ≠ b := fun e => hij (by rw [e])
  have ha : a < t.length := by omega
  have hb : b < t.length := by omega
  obtain ⟨oa1, oa2⟩ := h.op a ha (by rw [hB]; simp)
  obtain ⟨ob1, ob2⟩ := h.op b hb (by rw [hA]; simp)
  obtain ⟨ri, hri⟩ : ∃ ri, ri = u.rest.getD a 0 := ⟨_, rfl⟩
  obtain ⟨r, hr⟩ : ∃ r, r = u.rest.getD b 0 - (all - ri) := ⟨_, rfl⟩
  have hS : alStep all u a b B A = ⟨u.rest.set b r, u.cut.set a ri, u.oth.set a b, if r > all then B else if r < all then srt ((b : Int) :: B) else B, if r > all then (b : Int) :: A else A⟩ := by
    rw [hr, hri]
    rfl
  have hmem : ∀ c : Nat, (c : Int) ∈ (alStep all u a b B A).B ++ (alStep all u a b B A).A ↔ (((c : Int) ∈ u.B ++ u.A ∧ c ≠ a ∧ c ≠ b) ∨ (c = b ∧ r ≠ all)) := fun c => by
    rw [hS]
    have hcB : (c : Int) ∈ B → c ≠ a ∧ c ≠ b := fun k => ⟨fun e => hiB (by rw [← e]; exact k), fun e => hjB (by rw [← e]; exact k)⟩
    have hcA : (c : Int) ∈ A → c ≠ a ∧ c ≠ b := fun k => ⟨fun e => hiA (by rw [← e]; exact k), fun e => hjA (by rw [← e]; exact k)⟩
    have hu : (c : Int) ∈ u.B ++ u.A ↔ (c = a ∨ (c : Int) ∈ B) ∨ (c = b ∨ (c : Int) ∈ A) := by
      rw [hB, hA, List.mem_append, List.mem_cons, List.mem_cons]
      constructor
      · rintro ((e | e) | (e | e))
        · exact .inl (.inl (by omega))
        · exact .inl (.inr e)
        · exact .inr (.inl (by omega))
        · exact .inr (.inr e)
      · rintro ((e | e) | (e | e))
        · exact .inl (.inl (by rw [e]))
        · exact .inl (.inr e)
        · exact .inr (.inl (by rw [e]))
        · exact .inr (.inr e)
    rw [hu]
    show (c : Int) ∈ (if r > all then B else if r < all then srt ((b : Int) :: B) else B) ++ (if r > all then (b : Int) :: A else A) ↔ _
    by_cases c1 : r > all
    · rw [if_pos c1, if_pos c1, List.mem_append, List.mem_cons]
      constructor
      · rintro (e | e | e)
        · exact .inl ⟨.inl (.inr e), hcB e⟩
        · exact .inr ⟨by omega, by omega⟩
        · exact .inl ⟨.inr (.inr e), hcA e⟩
      · rintro (⟨(e | e) | (e | e), k1, k2⟩ | ⟨e, _⟩)
        · exact absurd e k1
        · exact .inl e
        · exact absurd e k2
        · exact .inr (.inr e)
        · exact .inr (.inl (by rw [e]))
    · rw [if_neg c1, if_neg c1]
      by_cases c2 : r < all
      · rw [if_pos c2, List.mem_append, (srt_perm _).mem_iff, List.mem_cons]
        constructor
        · rintro ((e | e) | e)
          · exact .inr ⟨by omega, by omega⟩
          · exact .inl ⟨.inl (.inr e), hcB e⟩
          · exact .inl ⟨.inr (.inr e), hcA e⟩
        · rintro (⟨(e | e) | (e | e), k1, k2⟩ | ⟨e, _⟩)
          · exact absurd e k1
          · exact .inl (.inr e)
          · exact absurd e k2
          · exact .inr e
          · exact .inl (.inl (by rw [e]))
      · rw [if_neg c2, List.mem_append]
        constructor
        · rintro (e | e)
          · exact .inl ⟨.inl (.inr e), hcB e⟩
          · exact .inl ⟨.inr (.inr e), hcA e⟩
        · rintro (⟨(e | e) | (e | e), k1, k2⟩ | ⟨_, e⟩)
          · exact absurd e k1
          · exact .inl e
          · exact absurd e k2
          · exact .inr e
          · omega
  have hc1 : ∀ c : Nat, (alStep all u a b B A).cut.getD c 0 = if a = c then ri else u.cut.getD c 0 := fun c => by rw [hS]; exact getD_set _ _ _ _ (by omega)
  have hc2 : ∀ c : Nat, (alStep all u a b B A).oth.getD c 0 = if a = c then (b : Int) else u.oth.getD c 0 := fun c => by rw [hS]; exact getD_set _ _ _ _ (by omega)
  have hc3 : ∀ c : Nat, (alStep all u a b B A).rest.getD c 0 = if b = c then r else u.rest.getD c 0 := fun c => by rw [hS]; exact getD_set _ _ _ _ (by omega)
  refine ⟨fun c hc hm => ?_, fun J hJ => ?_⟩
  · rw [hc1, hc2]
    rcases (hmem c).1 hm with ⟨k1, k2, k3⟩ | ⟨k1, k2⟩
    · rw [if_neg (fun e => k2 e.symm), if_neg (fun e => k2 e.symm)]; exact h.op c hc k1
    · subst k1
      rw [if_neg hab, if_neg hab]; exact ⟨ob1, ob2⟩
  · rw [sum_at2 (f := fun c => shw all (alStep all u a b B A) c J) (g := fun c => shw all u c J) ha hb hab (fun c hc k1 k2 => ?_), h.mass J hJ]
    · have e1 : shw all (alStep all u a b B A) a J = (if a = J then ri else 0) + (if (b : Int) = J then all - ri else 0) := by
        unfold shw
        rw [if_neg (fun k => by rcases (hmem a).1 k with k | k; exact k.2.1 rfl; exact hab k.1), hc1, hc2, if_pos rfl, if_pos rfl]
      have e2 : shw all u a J = if a = J then ri else 0 := by
        unfold shw
        rw [if_pos (by rw [hB]; simp), hri]
      have e3 : shw all u b J = if b = J then u.rest.getD b 0 else 0 := by
        unfold shw
        rw [if_pos (by rw [hA]; simp)]
      have e4 : shw all (alStep all u a b B A) b J = if b = J then r else 0 := by
        unfold shw
        by_cases k : r = all
        · rw [if_neg (fun q => by rcases (hmem b).1 q with q | q; exact q.2.2 rfl; exact q.2 k), hc1, hc2, if_neg hab, if_neg hab, ob1, ob2]
          by_cases q : b = J
          · rw [if_pos q, if_pos q, if_pos (by omega)]; omega
          · rw [if_neg q, if_neg q, if_neg (by omega)]; omega
        · rw [if_pos ((hmem b).2 (.inr ⟨rfl, k⟩)), hc3, if_pos rfl]
      rw [e1, e2, e3, e4]
      by_cases q : b = J
      · rw [if_pos q, if_pos q, if_pos (show (b : Int) = J by omega)]; omega
      · rw [if_neg q, if_neg q, if_neg (show ¬ (b : Int) = J by omega)]; omega
    · show shw all (alStep all u a b B A) c J = shw all u c J
      have q1 := (hc1 c).trans (if_neg (fun e => k1 e.symm))
      have q2 := (hc2 c).trans (if_neg (fun e => k1 e.symm))
      have q3 := (hc3 c).trans (if_neg (fun e => k2 e.symm))
      unfold shw
      rw [q1, q2, q3]
      by_cases q : (c : Int) ∈ u.B ++ u.A
      · rw [if_pos q, if_pos ((hmem c).2 (.inl ⟨q, k1, k2⟩))]
      · rw [if_neg q, if_neg (fun p => by rcases (hmem c).1 p with p | p; exact q p.1; exact k2 p.1)]
theorem AlM.end {t : List Int} {all : Int} (ha : 0 < all ∧ all ≤ 1099511627776) (m : Nat) : ∀ u, alMu u ≤ m → AlI t all u → AlM t all u → AlM t all (alEnd all u) := by
  induction m with
  | zero =>
    intro u hm h k
    have hB : u.B = [] := List.eq_nil_of_length_eq_zero (by unfold alMu at hm; omega)
    rw [alEnd_stop hB]; exact k
  | succ m ih =>
    intro u hm h k
    cases hB : u.B with
    | nil => rw [alEnd_stop hB]; exact k
    | cons i B =>
      cases hA : u.A with
      | nil => exact absurd hA (h.more (by rw [hB]; simp))
      | cons j A =>
        rw [alEnd_step hB hA]
        have := alStep_mu (all := all) hB hA
        exact ih _ (by omega) (h.step ha hB hA) (AlM.step h k hB hA)
theorem alF_share {t : List Int} (hw : ∀ w ∈ t, 0 ≤ w ∧ w ≤ 16777215) (hl : 1 ≤ t.length ∧ t.length ≤ 65536) (ha : 0 < t.sum) (J : Nat) (hJ : J < t.length) :
    ((List.range t.length).map fun c => (if c = J then (alF t).cut.getD c 0 else 0) + (if (alF t).oth.getD c 0 = J then t.sum - (alF t).cut.getD c 0 else 0)).sum = t.getD J 0 * t.length ∧ ∀ c, c < t.length → 0 ≤ (alF t).cut.getD c 0 ∧ (alF t).cut.getD c 0 ≤ t.sum := by
  have hs := sum_bound hw
  have hall : 0 < t.sum ∧ t.sum ≤ 1099511627776 := by omega
  have hI0 := (AlJ.all hw hl.2 ha t.length (Nat.le_refl _)).done ha
  obtain ⟨hI, hB⟩ := AlI.end hall _ _ (Nat.le_refl _) hI0
  have hM := AlM.end hall _ _ (Nat.le_refl _) hI0 (AlM.start hw hl.2 ha)
  change AlI t t.sum (alF t) at hI
  change AlM t t.sum (alF t) at hM
  change (alF t).B = [] at hB
  have hA : (alF t).A = [] := Classical.byContradiction fun k => by
    have h1 := sum_pos (l := (alF t).A) (f := fun j => (alF t).rest.getD j.toNat 0 - t.sum) (fun j hj => by have := (hI.A j hj).2.1; omega) k
    have h2 := hI.sum
    rw [hB] at h2
    simp only [List.map_nil, List.sum_nil] at h2
    omega
  refine ⟨?_, hI.cut⟩
  rw [← hM.mass J hJ]
  refine congrArg List.sum (List.map_congr_left fun c hc => ?_)
  unfold shw
  exact (if_neg (show ¬ (c : Int) ∈ (alF t).B ++ (alF t).A by rw [hA, hB]; simp)).symm
end Go.Art
set_option linter.unusedSimpArgs false
set_option linter.unusedVariables false
namespace Go.Art
open Go Go.Proofs Go.RowKit
def msk (l : List Int) : Nat := (l.map fun s => 2 ^ s.toNat).sum
def popK (k a : Nat) : Nat := ((List.range k).map fun j => a / 2 ^ j % 2).sum
def rmsk (k : Nat) (l : List Int) : Nat := msk (ordF 0 (upto k) (l.drop 2))
def fct : Nat → Nat
  | 0 => 1
  | n + 1 => (n + 1) * fct n
def chkA (k : Nat) : Bool := (List.range (k + 1)).all fun d => (endsL d k []).all fun js => (ordF 0 (upto k) js).all (fun s => decide (0 ≤ s ∧ s < k)) && Nat.blt (msk (ordF 0 (upto k) js)) (2 ^ k)
def chkB (k : Nat) : Bool := (List.range (2 ^ k)).all fun a => Nat.ble (popK k a) k && (Nat.beq a 0 || Nat.blt 0 (popK k a)) && (List.range (k + 1)).all fun d => Nat.beq ((endsL d k []).filter fun js => Nat.beq (msk (ordF 0 (upto k) js)) a).length (bif Nat.beq d (popK k a) then fct d else 0)
theorem chkA_ok : (List.range 5).all chkA = true := by kernel_rfl
theorem chkB_ok : (List.range 5).all chkB = true := by kernel_rfl
theorem ord_in {k d : Nat} {js : List Int} (hk : k ≤ 4) (hd : d ≤ k) (h : js ∈ endsL d k []) : (∀ s ∈ ordF 0 (upto k) js, 0 ≤ s ∧ s < k) ∧ msk (ordF 0 (upto k) js) < 2 ^ k := by
  have h1 := List.all_eq_true.1 chkA_ok k (List.mem_range.2 (by omega))
  have h2 := List.all_eq_true.1 h1 d (List.mem_range.2 (by omega))
  have h3 := List.all_eq_true.1 h2 js h
  rw [Bool.and_eq_true] at h3
  exact ⟨fun s hs => of_decide_eq_true (List.all_eq_true.1 h3.1 s hs), by simpa [Nat.blt, Nat.succ_le_iff] using Nat.le_of_ble_eq_true h3.2⟩
theorem pop_in {k a : Nat} (hk : k ≤ 4) (ha : a < 2 ^ k) : popK k a ≤ k ∧ (1 ≤ a → 1 ≤ popK k a) ∧ ∀ d, d ≤ k → ((endsL d k []).filter fun js => Nat.beq (msk (ordF 0 (upto k) js)) a).length = if d = popK k a then fct d else 0 := by
  have h1 := List.all_eq_true.1 chkB_ok k (List.mem_range.2 (by omega))
  have h2 := List.all_eq_true.1 h1 a (List.mem_range.2 ha)
  rw [Bool.and_eq_true, Bool.and_eq_true, Bool.or_eq_true] at h2
  obtain ⟨⟨g1, g2⟩, g3⟩ := h2
  refine ⟨Nat.le_of_ble_eq_true g1, fun h => ?_, fun d hd => ?_⟩
  · rcases g2 with g2 | g2
    · have := Nat.eq_of_beq_eq_true g2; omega
    · exact Nat.le_of_ble_eq_true g2
  · have g4 := Nat.eq_of_beq_eq_true (List.all_eq_true.1 g3 d (List.mem_range.2 (by omega)))
    rw [g4]
    by_cases e : d = popK k a
    · rw [if_pos e, show Nat.beq d (popK k a) = true from by rw [e]; exact Nat.beq_refl _]; rfl
    · rw [if_neg e, show Nat.beq d (popK k a) = false from by
        cases hb : Nat.beq d (popK k a) with
        | false => rfl
        | true => exact absurd (Nat.eq_of_beq_eq_true hb) e]; rfl
theorem sum_filter {α : Type} (p : α → Bool) (w : α → Nat) (m : Nat) : ∀ (l : List α), (∀ x ∈ l, w x = bif p x then m else 0) → (l.map w).sum = (l.filter p).length * m
  | [], _ => by simp
  | a :: l, h => by
    have ih := sum_filter p w m l fun x hx => h x (by simp [hx])
    rw [List.map_cons, List.sum_cons, ih, h a (by simp), List.filter_cons]
    cases p a with
    | true => rw [cond_true, if_pos rfl, List.length_cons, Nat.succ_mul]; omega
    | false => rw [cond_false, if_neg (by simp)]; omega
theorem sum_fmF {α : Type} (w : α → Nat) (f : Nat → List α) : ∀ (k : Nat), (((List.range k).flatMap f).map w).sum = ((List.range k).map fun i => ((f i).map w).sum).sum
  | 0 => by simp
  | k + 1 => by rw [fm_succ, List.map_append, List.sum_append, sum_fmF w f k, List.range_succ, List.map_append, List.sum_append]; simp
def wtA (k a : Nat) (l : List Int) : Nat := bif Nat.beq (rmsk k l) a then wt k l else 0
def shrM (k a : Nat) (d : Nat) : Nat := if d = popK k a then fct d * (24 / fall k d) else 0
theorem lvl_wtA {tot : Int} {cut oth : List Int} {k c x a : Nat} (hE : alE tot cut oth = 0) (hk : cut.length ≤ k ∧ k ≤ 4) (hc : c < cut.length) (ha : a < 2 ^ k) : ((lvlL tot cut oth k c x).map (wtA k a)).sum = shrM k a (alPick tot cut oth c x + 1).toNat := by
  have hin := alPick_in hE (c := c) (l := x) (by omega)
  obtain ⟨d, hd⟩ : ∃ d, d = (alPick tot cut oth c x + 1).toNat := ⟨_, rfl⟩
  have hdk : d ≤ k := by omega
  unfold lvlL
  rw [← hd, endsL_pre, List.map_map, sum_filter (fun js => Nat.beq (msk (ordF 0 (upto k) js)) a) _ (24 / fall k d)]
  · rw [(pop_in hk.2 ha).2.2 d hdk]
    unfold shrM
    by_cases e : d = popK k a
    · rw [if_pos e, if_pos e]
    · rw [if_neg e, if_neg e, Nat.zero_mul]
  · intro js hjs
    have hl := endsL_mem _ _ _ _ hjs
    show wtA k a ([(c : Int), (x : Int)] ++ js) = _
    unfold wtA rmsk wt
    rw [show ([(c : Int), (x : Int)] ++ js).drop 2 = js from rfl, show ([(c : Int), (x : Int)] ++ js).length - 2 = js.length by simp, hl]
    simp
theorem sum_two (a : Int) (p q : Int) : ∀ (T : Nat), 0 ≤ a → a ≤ T → ((List.range T).map fun x : Nat => if (x : Int) < a then p else q).sum = a * p + ((T : Int) - a) * q
  | 0, h0, h1 => by
    obtain rfl : a = 0 := by omega
    simp
  | T + 1, h0, h1 => by
    rw [List.range_succ, List.map_append, List.sum_append]
    simp only [List.map_cons, List.map_nil, List.sum_cons, List.sum_nil]
    by_cases e : a = (T + 1 : Nat)
    · rw [if_pos (by omega), show ((List.range T).map fun x : Nat => if (x : Int) < a then p else q) = (List.range T).map fun x : Nat => if (x : Int) < (T : Int) then p else q from List.map_congr_left fun x hx => by
        have := List.mem_range.1 hx
        rw [if_pos (by omega), if_pos (by omega)], sum_two (T : Int) p q T (by omega) (Int.le_refl _), e]
      push_cast
      grind
    · rw [if_neg (by omega), sum_two a p q T h0 (by omega)]
      push_cast
      grind
theorem cast_sum {α : Type} (f : α → Nat) : ∀ l : List α, (((l.map f).sum : Nat) : Int) = (l.map fun x => (f x : Int)).sum
  | [] => rfl
  | a :: l => by rw [List.map_cons, List.sum_cons, List.map_cons, List.sum_cons, ← cast_sum f l]; omega
theorem mul_sum {α : Type} (m : Int) (f : α → Int) : ∀ l : List α, (l.map fun x => m * f x).sum = m * (l.map f).sum
  | [] => by simp
  | a :: l => by rw [List.map_cons, List.sum_cons, List.map_cons, List.sum_cons, mul_sum m f l, Int.mul_add]
theorem all_wtA {t : List Int} {k a : Nat} (hw : ∀ w ∈ t, 0 ≤ w ∧ w ≤ 16777215) (hl : 1 ≤ t.length ∧ t.length ≤ k) (hk : k ≤ 4) (hs : 0 < t.sum) (ha : 1 ≤ a ∧ a < 2 ^ k) :
    ((((allL t.sum (alF t).cut (alF t).oth k).map (wtA k a)).sum : Nat) : Int) = if popK k a ≤ t.length then ((fct (popK k a) * (24 / fall k (popK k a)) : Nat) : Int) * (t.getD (popK k a - 1) 0 * t.length) else 0 := by
  obtain ⟨hE, hcl, _⟩ := alF_ok hw (by omega) hs
  obtain ⟨p1, p2, _⟩ := pop_in hk ha.2
  have p3 := p2 ha.1
  have hsum := sum_bound hw
  obtain ⟨m, hm⟩ : ∃ m, m = fct (popK k a) * (24 / fall k (popK k a)) := ⟨_, rfl⟩
  unfold allL
  rw [sum_fmF, cast_sum, hcl]
  have hrow : ∀ c : Nat, c < t.length → ((((colL t.sum (alF t).cut (alF t).oth k c).map (wtA k a)).sum : Nat) : Int) = (m : Int) * ((if c + 1 = popK k a then (alF t).cut.getD c 0 else 0) + (if (alF t).oth.getD c 0 + 1 = popK k a then t.sum - (alF t).cut.getD c 0 else 0)) := fun c hc => by
    have hcut := (alF_share hw (by omega) hs 0 (by omega)).2 c hc
    unfold colL
    rw [sum_fmF, cast_sum]
    have hin1 := alPick_in hE (c := c) (l := 0) (by omega)
    have hg : ∀ x : Nat, x < t.sum.toNat → ((((lvlL t.sum (alF t).cut (alF t).oth k c x).map (wtA k a)).sum : Nat) : Int) = if (x : Int) < (alF t).cut.getD c 0 then (if c + 1 = popK k a then (m : Int) else 0) else (if (alF t).oth.getD c 0 + 1 = popK k a then (m : Int) else 0) := fun x hx => by
      have hin := alPick_in hE (c := c) (l := x) (by omega)
      rw [lvl_wtA hE (by omega) (by omega) ha.2]
      unfold shrM
      have hp : alPick t.sum (alF t).cut (alF t).oth c x = if (x : Int) < (alF t).cut.getD c 0 then (c : Int) else (alF t).oth.getD c 0 := by unfold alPick; rw [Int.toNat_natCast]
      rw [hp] at hin ⊢
      by_cases e : (x : Int) < (alF t).cut.getD c 0
      · rw [if_pos e] at hin ⊢
        rw [if_pos e]
        by_cases q : c + 1 = popK k a
        · rw [if_pos (by omega), if_pos q, hm, show ((c : Int) + 1).toNat = popK k a by omega]
        · rw [if_neg (by omega), if_neg q]; rfl
      · rw [if_neg e] at hin ⊢
        rw [if_neg e]
        by_cases q : (alF t).oth.getD c 0 + 1 = popK k a
        · rw [if_pos (by omega), if_pos q, hm, show ((alF t).oth.getD c 0 + 1).toNat = popK k a by omega]
        · rw [if_neg (by omega), if_neg q]; rfl
    rw [show ((List.range t.sum.toNat).map fun x => ((((lvlL t.sum (alF t).cut (alF t).oth k c x).map (wtA k a)).sum : Nat) : Int)) = _ from List.map_congr_left fun x hx => hg x (List.mem_range.1 hx), sum_two _ _ _ _ hcut.1 (by omega)]
    rw [show ((t.sum.toNat : Nat) : Int) = t.sum by omega]
    by_cases q1 : c + 1 = popK k a
    · by_cases q2 : (alF t).oth.getD c 0 + 1 = popK k a
      · rw [if_pos q1, if_pos q2, if_pos q1, if_pos q2]; grind
      · rw [if_pos q1, if_neg q2, if_pos q1, if_neg q2]; grind
    · by_cases q2 : (alF t).oth.getD c 0 + 1 = popK k a
      · rw [if_neg q1, if_pos q2, if_neg q1, if_pos q2]; grind
      · rw [if_neg q1, if_neg q2, if_neg q1, if_neg q2]; grind
  rw [show ((List.range t.length).map fun c => ((((colL t.sum (alF t).cut (alF t).oth k c).map (wtA k a)).sum : Nat) : Int)) = _ from List.map_congr_left fun c hc => hrow c (List.mem_range.1 hc), mul_sum]
  by_cases hp : popK k a ≤ t.length
  · rw [if_pos hp, ← (alF_share hw (by omega) hs (popK k a - 1) (by omega)).1, ← hm]
    congr 2
    refine List.map_congr_left fun c _ => ?_
    congr 1
    · by_cases q : c + 1 = popK k a
      · rw [if_pos q, if_pos (by omega)]
      · rw [if_neg q, if_neg (by omega)]
    · by_cases q : (alF t).oth.getD c 0 + 1 = popK k a
      · rw [if_pos q, if_pos (by omega)]
      · rw [if_neg q, if_neg (by omega)]
  · rw [if_neg hp]
    have z : ((List.range t.length).map fun c => (if c + 1 = popK k a then (alF t).cut.getD c 0 else 0) + (if (alF t).oth.getD c 0 + 1 = popK k a then t.sum - (alF t).cut.getD c 0 else 0)) = (List.range t.length).map fun _ => (0 : Int) := List.map_congr_left fun c hc => by
      have hc := List.mem_range.1 hc
      have hb := alE_bnd hE
      have ho := alPick_in hE (c := c) (l := t.sum) (by omega)
      have hcut := (alF_share hw (by omega) hs 0 (by omega)).2 c hc
      unfold alPick at ho
      rw [Int.toNat_natCast, if_neg (by omega)] at ho
      rw [if_neg (by omega), if_neg (by omega)]; rfl
    rw [z]
    have : ((List.range t.length).map fun _ => (0 : Int)).sum = 0 := by
      generalize t.length = n
      induction n with
      | zero => rfl
      | succ n ih => rw [List.range_succ, List.map_append, List.sum_append, ih]; rfl
    rw [this]; simp
theorem chs24 : ∀ k, k ≤ 4 → ∀ d, d ≤ k → fct d * (24 / fall k d) * chs k d = 24 ∧ chs k d ≠ 0 := by decide
theorem cha_wtA {t : List Int} {k a T : Nat} (hw : ∀ w ∈ t, 0 ≤ w ∧ w ≤ 16777215) (hl : 1 ≤ t.length ∧ t.length ≤ k) (hk : k ≤ 4) (hs : 0 < t.sum) (hT : t.sum = T) (ha : 1 ≤ a ∧ a < 2 ^ k) :
    mkRat ((((allL t.sum (alF t).cut (alF t).oth k).map (wtA k a)).sum : Nat) : Int) (t.length * (T * 24)) = if popK k a ≤ t.length then mkRat (t.getD (popK k a - 1) 0) (chs k (popK k a) * T) else 0 := by
  rw [all_wtA hw hl hk hs ha]
  by_cases hp : popK k a ≤ t.length
  · rw [if_pos hp, if_pos hp]
    obtain ⟨c1, c2⟩ := chs24 k hk (popK k a) (by omega)
    rw [Rat.mkRat_eq_iff (Nat.mul_ne_zero (by omega) (by omega)) (Nat.mul_ne_zero c2 (by omega))]
    generalize fct (popK k a) * (24 / fall k (popK k a)) = m at *
    generalize t.getD (popK k a - 1) 0 = y at *
    generalize t.length = n at *
    generalize chs k (popK k a) = ch at *
    have c3 : (m : Int) * (ch : Int) = 24 := by exact_mod_cast c1
    push_cast
    grind
  · rw [if_neg hp, if_neg hp]; simp
end Go.Art
set_option linter.unusedSimpArgs false
set_option linter.unusedVariables false
namespace Go.Art
open Go Go.Proofs Go.RowKit
theorem Im.tail (c : Ch) (A : List Ch) : Im (c :: A) A := Im.trans (Im.perm (List.perm_append_comm (l₁ := [c]) (l₂ := A))) (Im.drop A [c])
theorem owl_set {e : TypeId} {g : Int → Value} {hs : List Value} {ls : List (List Int)} (hl : hs.length = ls.length) {i : Nat} (h : i < ls.length) (v : Value) (l : List Int) (F : List Ch) : Im (own e v (l.map g) :: owl e g hs ls :: F) (owl e g (hs.set i v) (ls.set i l) :: F) :=
  (Im.cons _ (owl_take hl h F)).trans ((Im.perm (List.Perm.swap _ _ _)).trans ((Im.tail _ _).trans (owl_put hl h v l F)))
theorem flat_set {sz : Nat} : ∀ {rs : List (List Value)} {i : Nat} {r : List Value}, (∀ r ∈ rs, r.length = sz) → i < rs.length → rs.flatten.take (sz * i) ++ r ++ rs.flatten.drop (sz * i + sz) = (rs.set i r).flatten
  | [], i, _, _, h => absurd h (Nat.not_lt_zero _)
  | a :: rs, 0, r, hl, _ => by
    have := hl a (by simp)
    rw [List.flatten_cons, Nat.mul_zero, Nat.zero_add, List.take_zero, List.nil_append, List.drop_left' this, List.set_cons_zero, List.flatten_cons]
  | a :: rs, i + 1, r, hl, h => by
    have ha := hl a (by simp)
    have ih := flat_set (rs := rs) (i := i) (r := r) (fun r hr => hl r (by simp [hr])) (by simpa using h)
    rw [List.set_cons_succ, List.flatten_cons, List.flatten_cons, ← ih, show sz * (i + 1) = a.length + sz * i by rw [ha, Nat.mul_succ]; omega, Nat.add_assoc, List.take_length_add_append, List.drop_length_add_append]
    simp [List.append_assoc]
theorem rows_len {qs : List Rat} {hs : List (Value × Value)} : ∀ r ∈ List.zipWith rrow qs hs, r.length = 3 := fun r hr => by
  obtain ⟨j, hj, rfl⟩ := List.mem_iff_getElem.1 hr
  rw [List.getElem_zipWith]; rfl
theorem zip_set {qs : List Rat} {hs : List (Value × Value)} {q : Rat} {h : Value × Value} : ∀ {i : Nat}, (List.zipWith rrow qs hs).set i (rrow q h) = List.zipWith rrow (qs.set i q) (hs.set i h) := by
  induction qs generalizing hs with
  | nil => intro i; simp
  | cons a r ih =>
    intro i
    cases hs with
    | nil => simp
    | cons b s =>
      cases i with
      | zero => simp
      | succ i => simp [ih]
theorem rcs_set {qs : List Rat} {hs : List (Value × Value)} (hl : hs.length = qs.length) {i : Nat} (hi : i < qs.length) (q : Rat) (h : Value × Value) : (rcs qs hs).take (3 * i) ++ rrow q h ++ (rcs qs hs).drop (3 * i + 3) = rcs (qs.set i q) (hs.set i h) := by
  unfold rcs
  rw [flat_set rows_len (by simp; omega), zip_set]
theorem rcs_len {qs : List Rat} {hs : List (Value × Value)} (hl : hs.length = qs.length) : (rcs qs hs).length = qs.length * 3 := by
  induction qs generalizing hs with
  | nil => simp [rcs]
  | cons q r ih =>
    cases hs with
    | nil => simp at hl
    | cons h s =>
      have := ih (hs := s) (by simpa using hl)
      unfold rcs at *
      simp only [List.zipWith_cons_cons, List.flatten_cons, List.length_append, this, List.length_cons, List.length_nil]
      omega
theorem rcs_app {qs rs : List Rat} {hs gs : List (Value × Value)} (hl : hs.length = qs.length) : rcs (qs ++ rs) (hs ++ gs) = rcs qs hs ++ rcs rs gs := by
  unfold rcs
  rw [List.zipWith_append hl.symm, List.flatten_append]
theorem rcs_one (q : Rat) (h : Value × Value) : rcs [q] [h] = rrow q h := by simp [rcs]
theorem hpc_set : ∀ (hs : List (Value × Value)) (i : Nat) (v : Value × Value), hpc (hs.set i v) = ((hpc hs).set (2 * i) v.1).set (2 * i + 1) v.2
  | [], i, v => by simp [hpc]
  | p :: r, 0, v => by simp [hpc]
  | p :: r, i + 1, v => by
    rw [List.set_cons_succ, show 2 * (i + 1) = 2 * i + 1 + 1 by omega]
    simp only [hpc, List.set_cons_succ, hpc_set r i v]
theorem pcl_set : ∀ (qs : List Rat) (i : Nat) (q : Rat), pcl (qs.set i q) = ((pcl qs).set (2 * i) (Zs (dg q.num.natAbs))).set (2 * i + 1) (Zs (dg q.den))
  | [], i, v => by simp [pcl]
  | p :: r, 0, v => by simp [pcl]
  | p :: r, i + 1, v => by
    rw [List.set_cons_succ, show 2 * (i + 1) = 2 * i + 1 + 1 by omega]
    simp only [pcl, List.set_cons_succ, pcl_set r i v]
theorem hp_len {hs : List (Value × Value)} {qs : List Rat} (hl : hs.length = qs.length) : (hpc hs).length = (pcl qs).length := by rw [hpc_len, pcl_len, hl]
theorem ofr_set {hs : List (Value × Value)} {qs : List Rat} (hl : hs.length = qs.length) {i : Nat} (hi : i < qs.length) (q : Rat) (v1 v2 : Value) {A F : List Ch} (hf : Fit A [own T64 v1 (Us (dg q.num.natAbs)), own T64 v2 (Us (dg q.den)), ofr hs qs] F) : Im A (ofr (hs.set i (v1, v2)) (qs.set i q) :: F) := by
  refine Im.trans hf ?_
  show Im (own T64 v1 (Us (dg q.num.natAbs)) :: own T64 v2 (Us (dg q.den)) :: owl T64 wU (hpc hs) (pcl qs) :: F) (owl T64 wU (hpc (hs.set i (v1, v2))) (pcl (qs.set i q)) :: F)
  have h0 := hp_len hl
  have h1 := pcl_len qs
  rw [hpc_set, pcl_set, Us_eq, Us_eq]
  refine (Im.perm (List.Perm.swap _ _ _)).trans ((Im.cons _ (owl_set h0 (i := 2 * i) (by omega) v1 (Zs (dg q.num.natAbs)) F)).trans ?_)
  exact owl_set (by simp [h0]) (i := 2 * i + 1) (by simp; omega) v2 (Zs (dg q.den)) F
theorem ofr_snoc {hs : List (Value × Value)} {qs : List Rat} (hl : hs.length = qs.length) (q : Rat) (v1 v2 : Value) {A F : List Ch} (hf : Fit A [own T64 v1 (Us (dg q.num.natAbs)), own T64 v2 (Us (dg q.den)), ofr hs qs] F) : Im A (ofr (hs ++ [(v1, v2)]) (qs ++ [q]) :: F) := by
  refine Im.trans hf ?_
  show Im (own T64 v1 (Us (dg q.num.natAbs)) :: own T64 v2 (Us (dg q.den)) :: owl T64 wU (hpc hs) (pcl qs) :: F) (owl T64 wU (hpc (hs ++ [(v1, v2)])) (pcl (qs ++ [q])) :: F)
  have h0 := hp_len hl
  rw [hpc_app, pcl_app, Us_eq, Us_eq]
  refine (Im.perm (List.Perm.swap _ _ _)).trans ((Im.cons _ (owl_snoc h0 v1 (Zs (dg q.num.natAbs)) F)).trans ?_)
  have := owl_snoc (e := T64) (g := wU) (hs := hpc hs ++ [v1]) (ls := pcl qs ++ [Zs (dg q.num.natAbs)]) (by simp [h0]) v2 (Zs (dg q.den)) F
  rw [List.append_assoc, List.append_assoc] at this
  exact this
theorem has_ofr {F : List Ch} {hs : List (Value × Value)} {qs : List Rat} (hl : hs.length = qs.length) (h : ofr hs qs ∈ F) : Has F (vfr hs qs) := has_owl (hp_len hl) h
def zrs (m : Nat) : List Value := (List.replicate m [Value.bool false, nS, nS]).flatten
theorem zrs_eq (m : Nat) : (List.replicate m (Value.agg #[Value.bool false, Value.slice none 0 0, Value.slice none 0 0]).cells.toList).flatten = zrs m := rfl
theorem zrs_zero : zrs 0 = [] := rfl
theorem zrs_step (m : Nat) : (zrs (m + 1)).drop 3 = zrs m := by unfold zrs; rw [List.replicate_succ, List.flatten_cons]; exact List.drop_left' rfl
theorem rcs_fill {qs : List Rat} {hs : List (Value × Value)} (hl : hs.length = qs.length) (m : Nat) (q : Rat) (h : Value × Value) : (rcs qs hs ++ zrs (m + 1)).take (3 * qs.length) ++ rrow q h ++ (rcs qs hs ++ zrs (m + 1)).drop (3 * qs.length + 3) = rcs (qs ++ [q]) (hs ++ [h]) ++ zrs m := by
  have hL : (rcs qs hs).length = 3 * qs.length := by rw [rcs_len hl]; omega
  rw [List.take_left' hL, ← hL, List.drop_length_add_append, zrs_step, rcs_app hl, rcs_one]
theorem oww_len {A : List Ch} {e : TypeId} {sz N : Nat} {v : Value} {xs : List Value} (h : oww e sz v N xs ∈ A) {w : World} (hw : Sat A w) : SlW w v N [] := by
  obtain ⟨a, cap, h1, h2, h3, h4, _⟩ := OwnV.slw (hw.h (oww e sz v N xs) h)
  exact ⟨a, cap, h1, h2, h3, h4, fun i u hi => by simp at hi⟩
section
variable {P : Program} {E : Env P} {n : Sh} {X : Cx} {s : List K} {fr : Fr} {A A' : List Ch} {ops : Array Oper} {rest : List Oper} {d m N sz by_ : Nat} {ty t t' el : TypeId} {pos : String} {after : Array Edge} {v u z : Value} {x y : Operand} {xs vs : List Value} {dt : TypeDesc} {k1 k' : IntKind} {w : World}
theorem qixws {i : Int} (k : TQ E n X s ops rest ((d, .pointer (some (adr v (sz * i.toNat)))) :: fr) A) (hx : ev fr x = some v := by rfl) (hy : ev fr y = some (.int k1 i) := by rfl) (hm : Has A (vwf v N xs) := by first | (apply has_vw; (repeat (first | apply List.Mem.head | apply List.Mem.tail)); first | done | fail) | (apply has_own; (repeat (first | apply List.Mem.head | apply List.Mem.tail)); first | done | fail) | (apply has_ro; (repeat (first | apply List.Mem.head | apply List.Mem.tail)); first | done | fail) | apply has_nil | ((with_reducible apply has_el); (focus (first | (apply has_vels; (repeat (first | apply List.Mem.head | apply List.Mem.tail)); first | done | fail) | (apply has_rels; (repeat (first | apply List.Mem.head | apply List.Mem.tail)); first | done | fail))); omega) | (apply has_pt; (repeat (first | apply List.Mem.head | apply List.Mem.tail)); first | done | fail) | (apply has_lpt; (repeat (first | apply List.Mem.head | apply List.Mem.tail)); first | done | fail) | (apply has_vels; (repeat (first | apply List.Mem.head | apply List.Mem.tail)); first | done | fail) | (apply has_rels; (repeat (first | apply List.Mem.head | apply List.Mem.tail)); first | done | fail) | with_reducible assumption | ((with_reducible apply has_elg); (focus (first | (apply has_velg; (repeat (first | apply List.Mem.head | apply List.Mem.tail)); first | done | fail) | (apply has_relg; (repeat (first | apply List.Mem.head | apply List.Mem.tail)); first | done | fail))); omega) | (apply has_velg; (repeat (first | apply List.Mem.head | apply List.Mem.tail)); first | done | fail) | (apply has_relg; (repeat (first | apply List.Mem.head | apply List.Mem.tail)); first | done | fail) | (apply has_vwf; (repeat (first | apply List.Mem.head | apply List.Mem.tail)); first | done | fail) | (apply has_oww; (repeat (first | apply List.Mem.head | apply List.Mem.tail)); first | done | fail)) (hb : 0 ≤ i ∧ i < N := by omega)
    (ht : lk E.und t = some (.slice el) := by rfl) (he : lk E.inf el = some (z, sz, by_) := by rfl) (hd : Nat.blt d n.n = true := by rfl) : TQ E n X s ops (⟨some d, .indexAddr t x y, ty, pos, after, none⟩ :: rest) fr A := TQ.val (fun w h => R_idxW ht he hx hy (hm.P w h) hb) k hd
theorem qldaw (hv : (xs.drop m).take sz = vs) (k : TQ E n X s ops rest ((d, .agg vs.toArray) :: fr) A) (hx : ev fr x = some (.pointer (some (adr v m))) := by rfl) (hm : Has A (vwf v N xs) := by first | (apply has_vw; (repeat (first | apply List.Mem.head | apply List.Mem.tail)); first | done | fail) | (apply has_own; (repeat (first | apply List.Mem.head | apply List.Mem.tail)); first | done | fail) | (apply has_ro; (repeat (first | apply List.Mem.head | apply List.Mem.tail)); first | done | fail) | apply has_nil | ((with_reducible apply has_el); (focus (first | (apply has_vels; (repeat (first | apply List.Mem.head | apply List.Mem.tail)); first | done | fail) | (apply has_rels; (repeat (first | apply List.Mem.head | apply List.Mem.tail)); first | done | fail))); omega) | (apply has_pt; (repeat (first | apply List.Mem.head | apply List.Mem.tail)); first | done | fail) | (apply has_lpt; (repeat (first | apply List.Mem.head | apply List.Mem.tail)); first | done | fail) | (apply has_vels; (repeat (first | apply List.Mem.head | apply List.Mem.tail)); first | done | fail) | (apply has_rels; (repeat (first | apply List.Mem.head | apply List.Mem.tail)); first | done | fail) | with_reducible assumption | ((with_reducible apply has_elg); (focus (first | (apply has_velg; (repeat (first | apply List.Mem.head | apply List.Mem.tail)); first | done | fail) | (apply has_relg; (repeat (first | apply List.Mem.head | apply List.Mem.tail)); first | done | fail))); omega) | (apply has_velg; (repeat (first | apply List.Mem.head | apply List.Mem.tail)); first | done | fail) | (apply has_relg; (repeat (first | apply List.Mem.head | apply List.Mem.tail)); first | done | fail) | (apply has_vwf; (repeat (first | apply List.Mem.head | apply List.Mem.tail)); first | done | fail) | (apply has_oww; (repeat (first | apply List.Mem.head | apply List.Mem.tail)); first | done | fail)) (ht : lk E.und t = some dt := by rfl) (hg : aggB dt = true := by rfl) (hi : lk E.inf t = some (z, sz, by_) := by rfl) (hl : vs.length = sz := by rfl) (hd : Nat.blt d n.n = true := by rfl) :
    TQ E n X s ops (⟨some d, .load t x, ty, pos, after, none⟩ :: rest) fr A := TQ.val (fun w h => R_loadW ht hg hi hx (hm.P w h) hv hl) k hd
theorem R_shlI {c : Int} {k : IntKind} {m : Int} (hx : ev fr x = some (.int k m)) (hy : ev fr y = some (.int k' c)) (hc : 0 ≤ c ∧ c ≤ k.bits) : OpV P n fr (.binOp .shl t x y t') ty w (.int k (k.wrap (m * 2 ^ c.toNat))) w := ⟨fun a ha _ _ _ _ => by
  have hg : (eqGuard .shl t x y (.int k m) (.int k' c)).run P w = .ok () w := rfl
  have h1 : ¬ c < 0 := by omega
  have h2 : min c.toNat k.bits = c.toNat := by omega
  simp only [execOp, ha.ev hx, ha.ev hy]
  simp only [hg, Sem.run_bind, Result.andThen_ok]
  show (Result.andThen ((binOp .shl t (.int k m) (.int k' c)).run P w) _) = _
  simp only [binOp, Op.shift, h1, if_false]
  show Result.ok (Next.value (.int k (k.wrap (m * (2 ^ (min c.toNat k.bits)))))) w = _
  rw [h2]⟩
theorem shI {c : Nat} (k : TO E n X s ops rest ((d, I ((2 ^ c : Nat) : Int)) :: fr) A) (hx : ev fr x = some (I 1) := by rfl) (hy : ev fr y = some (.int k' (c : Int)) := by rfl) (hc : c ≤ 62 := by omega) (hd : Nat.blt d n.n = true := by rfl) :
    TO E n X s ops (⟨some d, .binOp .shl t x y t', ty, pos, after, none⟩ :: rest) fr A := TO.val (fun w _ => by
  have h1 := R_shlI (P := P) (n := n) (t := t) (t' := t') (ty := ty) (w := w) hx hy ⟨Int.natCast_nonneg c, show (c : Int) ≤ 64 by omega⟩
  have h2 : (2 : Nat) ^ c ≤ 2 ^ 62 := Nat.pow_le_pow_right (by decide) hc
  have e : IntKind.i64.wrap (1 * 2 ^ ((c : Int).toNat)) = ((2 ^ c : Nat) : Int) := by
    rw [Int.one_mul, Int.toNat_natCast, show ((2 : Int) ^ c) = ((2 ^ c : Nat) : Int) by push_cast; rfl]
    generalize (2 : Nat) ^ c = p at *
    have h2' : p ≤ 4611686018427387904 := h2
    exact IntWalk.i64_in _ (by omega)
  rwa [e] at h1) k hd
end
end Go.Art
set_option linter.unusedSimpArgs false
set_option linter.unusedVariables false
namespace Go.Art
open Go Go.Proofs Go.RowKit
theorem perm_sumN {l m : List Nat} (h : l.Perm m) : l.sum = m.sum := by
  induction h with
  | nil => rfl
  | cons x _ ih => simp [ih]
  | swap x y l => simp only [List.sum_cons]; omega
  | trans _ _ a b => exact a.trans b
theorem msk_perm {l m : List Int} (h : l.Perm m) : msk l = msk m := perm_sumN (h.map _)
theorem msk_take {l : List Int} {j : Nat} (h : j < l.length) : msk (l.take (j + 1)) = msk (l.take j) + 2 ^ (l.getD j 0).toNat := by
  unfold msk; rw [take_succ' h 0, List.map_append, List.sum_append]; simp
theorem msk_zero (l : List Int) : msk (l.take 0) = 0 := rfl
theorem msk_le (l : List Int) (j : Nat) : msk (l.take j) ≤ msk l := by
  conv => rhs; rw [← List.take_append_drop j l]
  unfold msk; rw [List.map_append, List.sum_append]; omega
theorem popK_succ (j a : Nat) : popK (j + 1) a = popK j a + a / 2 ^ j % 2 := by
  unfold popK; rw [List.range_succ, List.map_append, List.sum_append]; simp
theorem popK_zero (a : Nat) : popK 0 a = 0 := rfl
theorem popK_le (a : Nat) : ∀ j, popK j a ≤ j
  | 0 => Nat.le_refl _
  | j + 1 => by rw [popK_succ]; have := popK_le a j; have := Nat.mod_lt (a / 2 ^ j) (show 0 < 2 by decide); omega
theorem row_packC {tot : Int} {cut oth : List Int} {k : Nat} {l : List Int} (hk : rwE tot cut oth k = 0) (hk4 : k ≤ 4) (h : l ∈ allL tot cut oth k) : ∃ S : List Int, setW tot cut oth k (.inr (l, false)) = ((S, 0), (.inr ([], false), (l.length : Int))) ∧ (S.length ≤ 6 ∧ l.length ≤ 6) ∧
    meaW tot cut oth k S.length = (rqf (mkRat ((wt k l : Nat) : Int) (cut.length * (tot.toNat * 24))), 0) ∧ wt k l ≤ 24 ∧ msk S = rmsk k l ∧ rmsk k l < 2 ^ k ∧ ∀ s ∈ S, 0 ≤ s ∧ s < k := by
  obtain ⟨S, h1, h2, h3, h4⟩ := row_pack hk hk4 h
  obtain ⟨c, x, js, hc, hx, hj, rfl⟩ := allL_row h
  obtain ⟨hE, k1, k2, k3⟩ := rwE_ok hk
  have hin := alPick_in hE (c := c) (l := x) (by omega)
  have h5 := setW_row hk hc hx hj
  rw [h5] at h1
  have h6 : S = srt (ordF 0 (upto k) js) := by injection h1 with e1 _; injection e1 with e2 _; exact e2.symm
  have ho := ord_in (d := (alPick tot cut oth c x + 1).toNat) hk4 (by omega) hj
  refine ⟨S, h5.trans h1, ⟨by omega, h2.2⟩, h3, h4, ?_, ho.2, fun s hs => ho.1 s ?_⟩
  · rw [h6]; exact msk_perm (srt_perm _)
  · rw [h6] at hs; exact (srt_perm _).mem_iff.1 hs
def accL (k D : Nat) (L : List (List Int)) (i : Nat) : List Rat := (List.range (2 ^ k)).map fun a => mkRat ((((L.take i).map (wtA k a)).sum : Nat) : Int) D
theorem accL_len (k D : Nat) (L : List (List Int)) (i : Nat) : (accL k D L i).length = 2 ^ k := by simp [accL]
theorem accL_get (k D : Nat) (L : List (List Int)) (i : Nat) {a : Nat} (h : a < 2 ^ k) : (accL k D L i).getD a 0 = mkRat ((((L.take i).map (wtA k a)).sum : Nat) : Int) D := by
  simp [accL, List.getD_eq_getElem?_getD, List.getElem?_range h]
theorem accL_zero (k D : Nat) (L : List (List Int)) : accL k D L 0 = List.replicate (2 ^ k) 0 := by
  unfold accL
  refine List.eq_replicate_iff.2 ⟨by simp, fun q hq => ?_⟩
  obtain ⟨a, _, rfl⟩ := List.mem_map.1 hq
  simp
theorem accL_step {k D : Nat} (hD : D ≠ 0) {L : List (List Int)} {i : Nat} (hi : i < L.length) (hm : rmsk k (L.getD i []) < 2 ^ k) :
    (accL k D L i).set (rmsk k (L.getD i [])) ((accL k D L i).getD (rmsk k (L.getD i [])) 0 + mkRat ((wt k (L.getD i []) : Nat) : Int) D) = accL k D L (i + 1) := by
  refine List.ext_getElem (by simp [accL]) fun a h1 h2 => ?_
  have ha : a < 2 ^ k := by simpa [accL] using h2
  have e1 : (accL k D L (i + 1))[a] = (accL k D L (i + 1)).getD a 0 := by simp [List.getD_eq_getElem?_getD, h2]
  have e2 : (accL k D L i)[a]'(by rw [accL_len]; exact ha) = (accL k D L i).getD a 0 := by simp [List.getD_eq_getElem?_getD, accL_len, ha]
  rw [e1, List.getElem_set, accL_get _ _ _ _ ha, take_mapsum (wtA k a) hi []]
  by_cases e : rmsk k (L.getD i []) = a
  · rw [if_pos e, e, accL_get _ _ _ _ ha, mk_add _ _ D hD]
    congr 2
    unfold wtA
    rw [e, Nat.beq_refl]; rfl
  · rw [if_neg e, e2, accL_get _ _ _ _ ha]
    congr 2
    unfold wtA
    rw [show Nat.beq (rmsk k (L.getD i [])) a = false from by
      cases hb : Nat.beq (rmsk k (L.getD i [])) a with
      | false => rfl
      | true => exact absurd (Nat.eq_of_beq_eq_true hb) e]
    simp
theorem wtA_le (k a : Nat) (l : List Int) : wtA k a l ≤ 24 := by
  unfold wtA
  cases Nat.beq (rmsk k l) a with
  | true => exact Nat.div_le_self _ _
  | false => exact Nat.zero_le _
structure ChG where
  i : Nat
  hs : List (Value × Value)
attribute [local irreducible] Fit pt own ro vw mpc lpt vels rels mow lrc dfr
attribute [local irreducible] lmp lme mit velg relg bnd owl madeT msk popK accL zrs
theorem RowChance_tr (tv : Value) (tbl : List Int) (kk : Int) : Tr Tryz.prog 7 [tv, I kk] [vw tv (Is tbl)] [] fun v D => v = .bool true ∧ D = [] := by
  have hpk : 0 ≤ pick kk 4 ∧ pick kk 4 ≤ 3 := by unfold pick; rw [if_neg (by decide)]; omega
  obtain ⟨k, hk⟩ : ∃ k : Nat, 1 + pick kk 4 = k := ⟨(1 + pick kk 4).toNat, by omega⟩
  have hk4 : 1 ≤ k ∧ k ≤ 4 := by omega
  by_cases hz : solE (madeT tbl k) k = 0
  rotate_left
  · have hM := made_no tv tbl k hk4 hz
    refine Tr.enter env _ Tryz.func7 (by kernel_rfl) rfl Tryz.ntmps7 rfl (by repeat (first | exact has00 | refine has01 ?_)) fun w0 => ?_
    repeat' first|(refine gca ?_; first|(refine ca RowKnown_tr ?_; rintro _ _ ⟨rfl, rfl⟩)|(refine ca (Pick_tr kk 4 (by decide)) ?_; rintro _ _ ⟨rfl, rfl⟩)|(refine ca hM ?_; rintro _ _ ⟨rfl, rfl⟩))|(refine aw (m := 1 + pick kk 4) ?_; rw [hk])|refine al fun c => ?_|refine srz ?_|(refine wo ?_; first|refine oa ?_)|(refine gc ?_; first|refine ct ?_)|refine sq ?_|refine rg ?_|refine xc ?_|refine nl ?_|refine rt ?_
    exact r1 ⟨rfl, rfl⟩
  have hM := made_yes tv tbl k hk4 hz
  obtain ⟨g1, g2, g3, g4⟩ := allL_ok hk4 hz
  obtain ⟨z1, z2, z3, z4⟩ := solE_zero hz
  obtain ⟨T, hT⟩ : ∃ T : Nat, (madeT tbl k).sum = T := ⟨(madeT tbl k).sum.toNat, by omega⟩
  have hch := fun a ha => cha_wtA (a := a) z3 g3 hk4.2 (by omega) hT ha
  have hCh := fun s (d : Nat) => ChaW_tr s (madeT tbl k) k d
  have hCW : ∀ d : Nat, 1 ≤ d → d ≤ (madeT tbl k).length → chaW (madeT tbl k) k d = (rqf (mkRat ((madeT tbl k).getD (d - 1) 0) (chs k d * T)), 0) := fun d h1 h2 => by
    unfold chaW
    rw [if_pos hz, if_neg (by omega), Int.toNat_natCast, Int.toNat_natCast, show ((d : Int) - 1).toNat = d - 1 by omega, show (madeT tbl k).sum.toNat = T by omega]
  have hCW0 : ∀ d : Nat, (madeT tbl k).length < d → chaW (madeT tbl k) k d = (rqn, 3) := fun d h1 => by
    unfold chaW
    rw [if_pos hz, if_pos (by omega)]
  have hpop := fun a ha => pop_in (a := a) hk4.2 ha
  generalize (madeT tbl k).sum = tot at *
  generalize (alF (madeT tbl k)).cut = cut at *
  generalize (alF (madeT tbl k)).oth = oth at *
  obtain ⟨hE, _, _, _⟩ := rwE_ok g1
  have hle := all_le hE (k := k) (by omega)
  have hpk2 := fun l (h : l ∈ allL tot cut oth k) => row_packC g1 hk4.2 h
  rw [show tot.toNat = T by omega] at hle
  simp only [show tot.toNat = T by omega] at hpk2
  have hD1 : cut.length * (T * 24) ≤ 4 * (20 * 24) := Nat.mul_le_mul (by omega) (Nat.mul_le_mul_right 24 (by omega))
  have hD0 : cut.length * (T * 24) ≠ 0 := Nat.mul_ne_zero (by omega) (by omega)
  have hRW : rowsW tot cut oth k = (allL tot cut oth k, 0) := by unfold rowsW; rw [if_pos g1, Int.toNat_natCast, if_neg (by omega)]
  have hR := fun c o hc ho => Rows_tr tot k c o cut oth hc ho
  simp only [hRW] at hR
  have hSet := fun c o hc ho b r sv l => SetW_tr tot k c o cut oth b r sv (.inr (l, false)) (okL_row l false) hc ho
  have hMea := fun c o hc ho (d : Nat) => MeaW_tr tot k d c o cut oth hc ho
  generalize allL tot cut oth k = L at *
  rw [← g2] at hch
  obtain ⟨D, hDD⟩ : ∃ D, D = cut.length * (T * 24) := ⟨_, rfl⟩
  rw [← hDD] at hle hD1 hD0
  simp only [← hDD] at hpk2 hch
  have hN : 2 ^ k ≤ 16 := Nat.le_trans (Nat.pow_le_pow_right (by decide) hk4.2) (by decide)
  have hN1 : 2 ≤ 2 ^ k := Nat.le_trans (by decide) (Nat.pow_le_pow_right (by decide) hk4.1)
  obtain ⟨N, hNN⟩ : ∃ N, N = 2 ^ k := ⟨_, rfl⟩
  clear hRW hE hDD
  have hA0 := FAdd0_tr
  unfold FQ2 at hA0
  refine Tr.enter env _ Tryz.func7 (by kernel_rfl) rfl Tryz.ntmps7 rfl (by repeat (first | exact has00 | refine has01 ?_)) fun w0 => ?_
  repeat' first|(refine gca ?_; first|(refine ca RowKnown_tr ?_; rintro _ _ ⟨rfl, rfl⟩)|(refine ca (Pick_tr kk 4 (by decide)) ?_; rintro _ _ ⟨rfl, rfl⟩)|(refine ca hM ?_; rintro _ _ ⟨o1, cv, ov, rfl, ho1, hcv, hov, rfl⟩)|(refine ca (hR cv ov hcv hov) ?_; rintro _ _ ⟨rv1, hs, rfl, hrv, hlr, rfl⟩))|(refine aw (m := 1 + pick kk 4) ?_; rw [hk])|refine al fun c => ?_|refine srz ?_|refine lda ?_|(refine shI (c := k) ?_; rw [← hNN])|(refine mkw (sz := 3) (c := (N : Int)) (fun v hv => ?_); rw [Int.toNat_natCast, zrs_eq])|(refine wo ?_; first|(refine ao ?_; first|refine oa ?_)|refine ucv ?_|refine oa ?_)|(refine gc ?_; first|refine cf ?_)|refine sq ?_|refine rg ?_|refine xc ?_|refine nl ?_|refine sk ?_|refine bk ?_
  have hWL : ∀ i, ((L.take i).map (wt k)).sum ≤ L.length * 24 := take_mapsum_le (wt k) 24 fun l hl => by obtain ⟨S, _, _, _, h, _⟩ := hpk2 l hl; exact h
  have hAL : ∀ a i, ((L.take i).map (wtA k a)).sum ≤ L.length * 24 := fun a i => take_mapsum_le (wtA k a) 24 (fun l _ => wtA_le k a l) i
  have hFA : ∀ a i, FB (mkRat ((((L.take i).map (wtA k a)).sum : Nat) : Int) D) 1 := fun a i => FB_mk1 hD0 (by have := hAL a i; omega) (by omega)
  refine TC.im (owl_nil (e := T64) (g := wU) _) ?_
  refine TC.loop (ι := ChG) (fun g => [(12, I g.i)]) (fun g => [oww TRt 3 v N (rcs (List.replicate g.i 0) g.hs ++ zrs (N - g.i)), ofr g.hs (List.replicate g.i 0)]) (fun g => g.i ≤ N ∧ g.hs.length = g.i) (fun g => N - g.i) ⟨0, []⟩ [1, 5, 6, 7, 9, 11] ⟨Nat.zero_le _, rfl⟩ ?_ (hf := by dsimp only; rw [show rcs (List.replicate 0 (0 : Rat)) ([] : List (Value × Value)) ++ zrs (N - 0) = zrs N from rfl]; first | apply Fit.all | ((repeat (first | (apply Fit.nilN; (repeat (first | apply nrm_nil | apply nrm_cons)); try apply nrm_rfl) | (apply Fit.cons; focus ((repeat (first | apply Tk.here | apply Tk.there)); first | done | fail)))); first | done | fail))
  rintro ⟨i, hq⟩ ⟨hi, hl⟩
  dsimp only at hi hl ⊢
  by_cases hlt : i < N
  · obtain ⟨m, hm⟩ : ∃ m, N - i = m + 1 := ⟨N - i - 1, by omega⟩
    have hfill := fun vn vd => rcs_fill (qs := List.replicate i (0 : Rat)) (hs := hq) (by simpa using hl) m 0 (vn, vd)
    rw [List.length_replicate] at hfill
    rw [hm]
    clear hpk2 hch hCh hpop hSet hMea hR hM
    repeat' first|(refine gca ?_; first|(refine ca hA0 ?_; rintro _ _ ⟨vn, vd, rfl, hvn, hvd, rfl⟩))|refine lnw (N := N) (xs := rcs (List.replicate i 0) hq ++ zrs (m + 1)) ?_ (hm := has_oww (by (repeat (first | apply List.Mem.head | apply List.Mem.tail)); first | done | fail))|refine ixws (i := (i : Int)) (N := N) (xs := rcs (List.replicate i 0) hq ++ zrs (m + 1)) ?_ (hm := has_oww (by (repeat (first | apply List.Mem.head | apply List.Mem.tail)); first | done | fail))|refine sow (sz := 3) (m := 3 * i) (N := N) (xs := rcs (List.replicate i 0) hq ++ zrs (m + 1)) (vs := [.bool (decide ((0 : Rat).num < 0)), vn, vd]) (by omega) ?_ (h1 := one_cons rfl (one_cons hvn (one_cons hvd one_nil)))|(refine wo ?_; first|(refine ao ?_; first|refine aw ?_|refine oa ?_)|refine oa ?_)|(refine gc ?_; first|(refine ci (fun hB => ?_) (fun hB => ?_) <;> try (exfalso; omega)))|refine sq ?_|refine rg ?_|refine xc ?_|refine nl ?_|refine sk ?_|refine bk ?_|refine xb ?_
    refine TX.im (ofr_snoc (qs := List.replicate i 0) (by simpa using hl) 0 vn vd (by first | apply Fit.all | ((repeat (first | (apply Fit.nilN; (repeat (first | apply nrm_nil | apply nrm_cons)); try apply nrm_rfl) | (apply Fit.cons; focus ((repeat (first | apply Tk.here | apply Tk.there)); first | done | fail)))); first | done | fail))) ?_
    exact lp ⟨i + 1, hq ++ [(vn, vd)]⟩ ⟨hlt, by simp [hl]⟩ (hf := by dsimp only; rw [show N - (i + 1) = m by omega, List.replicate_succ', ← hfill vn vd]; first | apply Fit.all | ((repeat (first | (apply Fit.nilN; (repeat (first | apply nrm_nil | apply nrm_cons)); try apply nrm_rfl) | (apply Fit.cons; focus ((repeat (first | apply Tk.here | apply Tk.there)); first | done | fail)))); first | done | fail))
  obtain rfl : i = N := by omega
  rw [Nat.sub_self, zrs_zero, List.append_nil, show List.replicate i (0 : Rat) = accL k D L 0 from by rw [accL_zero, hNN]]
  repeat' first|refine lnw (N := i) (xs := rcs (accL k D L 0) hq) ?_ (hm := has_oww (by (repeat (first | apply List.Mem.head | apply List.Mem.tail)); first | done | fail))|(refine wo ?_; first|(refine ao ?_; first|refine oa ?_)|refine oa ?_)|(refine gc ?_; first|(refine ci (fun hB => ?_) (fun hB => ?_) <;> try (exfalso; omega)))|refine sq ?_|refine rg ?_|refine xc ?_|refine nl ?_|refine bk ?_|refine xe ?_
  refine TC.loop (ι := ChG) (fun g => [(13, I g.i)]) (fun g => [oww TRt 3 v i (rcs (accL k D L g.i) g.hs), ofr g.hs (accL k D L g.i)]) (fun g => g.i ≤ L.length ∧ g.hs.length = i) (fun g => L.length - g.i) ⟨0, hq⟩ [1, 5, 6, 7, 9, 11] ⟨Nat.zero_le _, hl⟩ ?_
  clear hlt hB
  generalize hNi : i = N at *
  clear hNi
  rintro ⟨i, hq⟩ ⟨hi, hl⟩
  dsimp only at hi hl ⊢
  have hal := accL_len k D L i
  rw [← hNN] at hal
  by_cases hlt : i < L.length
  · have hmem : L.getD i [] ∈ L := by rw [List.getD_eq_getElem?_getD, List.getElem?_eq_getElem hlt]; exact List.getElem_mem hlt
    obtain ⟨S, s1, s2, s3, s4, s5, s6, s7⟩ := hpk2 _ hmem
    have hg1 : hs[i]? = some (hs.getD i nS) := by rw [List.getD_eq_getElem?_getD, List.getElem?_eq_getElem (by omega)]; rfl
    have hS1 := fun b r sv => hSet cv ov hcv hov b r sv (L.getD i [])
    have hM1 := hMea cv ov hcv hov S.length
    have hst := accL_step (i := i) hD0 hlt s6
    have hrow0 := rcs_row (qs := accL k D L i) (hs := hq) (i := rmsk k (L.getD i [])) (by omega) (by omega)
    have hget := accL_get k D L i s6
    have hAdd := fun lv v1 v2 v3 v4 => FAdd2_tr ((accL k D L i).getD (rmsk k (L.getD i [])) 0) (mkRat ((wt k (L.getD i []) : Nat) : Int) D) lv v1 v2 v3 v4 (by rw [hget]; exact (hFA _ i).le (by decide)) ((FB_mk1 hD0 (by omega) (by omega)).le (by decide))
    simp only [s1] at hS1
    rw [s3] at hM1
    unfold FW at hM1
    unfold FQ2 at hAdd
    dsimp only at hM1 hS1
    have hH : ∀ F, owl TLI I hs L ∈ F → Has F (vw (hs.getD i nS) (Is (L.getD i []))) := fun F h => has_elg (g := I) (hs := hs) (ls := L) (has_owl (e := TLI) hlr h) hlt
    rw [← s5] at s6 hst hrow0 hget hAdd
    have hS16 : msk S < N := by omega
    clear hpk2 hSet hMea hWL hAL hFA hch hCh hpop s1 s3
    have hrl : (L.getD i []).length ≤ 6 := s2.2
    have hsl := s2.1
    generalize hrow : L.getD i [] = row at *
    generalize mkRat ((wt k row : Nat) : Int) D = q1 at *
    repeat' first|(refine wo ?_; first|(refine ao ?_; first|refine oa ?_)|refine oa ?_|refine ln ?_)|(refine gc ?_; first|(refine ci (fun hB => ?_) (fun hB => ?_) <;> try (exfalso; omega)))|refine sq ?_|refine rg ?_|refine xc ?_|refine nl ?_|refine sk ?_|refine bk ?_
    refine rs (fun w => w.heap[c]? = some (.cells [I tot, cv, ov].toArray TAl (0, 0)) ∧ Sl w rv1 hs) ?_ (fun w hw => ⟨pt_at (b := c) (cs := [I tot, cv, ov]) (T := TAl) (by (repeat (first | apply List.Mem.head | apply List.Mem.tail)); first | done | fail) hw, has_sl (xs := hs) hw (by first | (apply has_vw; (repeat (first | apply List.Mem.head | apply List.Mem.tail)); first | done | fail) | (apply has_own; (repeat (first | apply List.Mem.head | apply List.Mem.tail)); first | done | fail) | (apply has_ro; (repeat (first | apply List.Mem.head | apply List.Mem.tail)); first | done | fail) | apply has_nil | ((with_reducible apply has_el); (focus (first | (apply has_vels; (repeat (first | apply List.Mem.head | apply List.Mem.tail)); first | done | fail) | (apply has_rels; (repeat (first | apply List.Mem.head | apply List.Mem.tail)); first | done | fail))); omega) | (apply has_pt; (repeat (first | apply List.Mem.head | apply List.Mem.tail)); first | done | fail) | (apply has_lpt; (repeat (first | apply List.Mem.head | apply List.Mem.tail)); first | done | fail) | (apply has_vels; (repeat (first | apply List.Mem.head | apply List.Mem.tail)); first | done | fail) | (apply has_rels; (repeat (first | apply List.Mem.head | apply List.Mem.tail)); first | done | fail) | with_reducible assumption | ((with_reducible apply has_elg); (focus (first | (apply has_velg; (repeat (first | apply List.Mem.head | apply List.Mem.tail)); first | done | fail) | (apply has_relg; (repeat (first | apply List.Mem.head | apply List.Mem.tail)); first | done | fail))); omega) | (apply has_velg; (repeat (first | apply List.Mem.head | apply List.Mem.tail)); first | done | fail) | (apply has_relg; (repeat (first | apply List.Mem.head | apply List.Mem.tail)); first | done | fail) | (apply has_vwf; (repeat (first | apply List.Mem.head | apply List.Mem.tail)); first | done | fail) | (apply has_oww; (repeat (first | apply List.Mem.head | apply List.Mem.tail)); first | done | fail))⟩)
    refine tk 0 (v := .agg #[I tot, cv, ov]) (fun w h => R_loadA (E := env) (vs := [I tot, cv, ov]) rfl rfl rfl rfl h.1 rfl rfl) ?_
    refine tka 1 ?_
    refine tka 2 ?_
    refine tka 3 ?_
    refine tk 4 (v := .pointer (some (addrAt rv1 i))) (fun w h => R_idx (E := env) (i := (i : Int)) rfl rfl rfl rfl h.2 ⟨by omega, by omega⟩) ?_
    refine tk 5 (v := hs.getD i nS) (fun w h => R_load (E := env) rfl rfl rfl (h.2.cell hg1)) ?_
    refine t1 6 ?_
    refine ca (LRow_tr (hs.getD i nS) row (by omega)) ?_ (hp := has1 (hH _ (by (repeat (first | apply List.Mem.head | apply List.Mem.tail)); first | done | fail)) has0)
    rintro _ _ ⟨b, r, sv, rfl, rfl⟩
    refine nl ?_
    refine te (fun w hw => ⟨pt_at (b := c) (cs := [I tot, cv, ov]) (T := TAl) (by (repeat (first | apply List.Mem.head | apply List.Mem.tail)); first | done | fail) hw, has_sl (xs := hs) hw (by first | (apply has_vw; (repeat (first | apply List.Mem.head | apply List.Mem.tail)); first | done | fail) | (apply has_own; (repeat (first | apply List.Mem.head | apply List.Mem.tail)); first | done | fail) | (apply has_ro; (repeat (first | apply List.Mem.head | apply List.Mem.tail)); first | done | fail) | apply has_nil | ((with_reducible apply has_el); (focus (first | (apply has_vels; (repeat (first | apply List.Mem.head | apply List.Mem.tail)); first | done | fail) | (apply has_rels; (repeat (first | apply List.Mem.head | apply List.Mem.tail)); first | done | fail))); omega) | (apply has_pt; (repeat (first | apply List.Mem.head | apply List.Mem.tail)); first | done | fail) | (apply has_lpt; (repeat (first | apply List.Mem.head | apply List.Mem.tail)); first | done | fail) | (apply has_vels; (repeat (first | apply List.Mem.head | apply List.Mem.tail)); first | done | fail) | (apply has_rels; (repeat (first | apply List.Mem.head | apply List.Mem.tail)); first | done | fail) | with_reducible assumption | ((with_reducible apply has_elg); (focus (first | (apply has_velg; (repeat (first | apply List.Mem.head | apply List.Mem.tail)); first | done | fail) | (apply has_relg; (repeat (first | apply List.Mem.head | apply List.Mem.tail)); first | done | fail))); omega) | (apply has_velg; (repeat (first | apply List.Mem.head | apply List.Mem.tail)); first | done | fail) | (apply has_relg; (repeat (first | apply List.Mem.head | apply List.Mem.tail)); first | done | fail) | (apply has_vwf; (repeat (first | apply List.Mem.head | apply List.Mem.tail)); first | done | fail) | (apply has_oww; (repeat (first | apply List.Mem.head | apply List.Mem.tail)); first | done | fail))⟩) ?_
    refine t1 7 ?_
    refine ca (hS1 b r sv) ?_
    rintro _ _ ⟨so, sv2, rfl, rfl⟩
    refine nl ?_
    refine te (fun w hw => ⟨pt_at (b := c) (cs := [I tot, cv, ov]) (T := TAl) (by (repeat (first | apply List.Mem.head | apply List.Mem.tail)); first | done | fail) hw, has_sl (xs := hs) hw (by first | (apply has_vw; (repeat (first | apply List.Mem.head | apply List.Mem.tail)); first | done | fail) | (apply has_own; (repeat (first | apply List.Mem.head | apply List.Mem.tail)); first | done | fail) | (apply has_ro; (repeat (first | apply List.Mem.head | apply List.Mem.tail)); first | done | fail) | apply has_nil | ((with_reducible apply has_el); (focus (first | (apply has_vels; (repeat (first | apply List.Mem.head | apply List.Mem.tail)); first | done | fail) | (apply has_rels; (repeat (first | apply List.Mem.head | apply List.Mem.tail)); first | done | fail))); omega) | (apply has_pt; (repeat (first | apply List.Mem.head | apply List.Mem.tail)); first | done | fail) | (apply has_lpt; (repeat (first | apply List.Mem.head | apply List.Mem.tail)); first | done | fail) | (apply has_vels; (repeat (first | apply List.Mem.head | apply List.Mem.tail)); first | done | fail) | (apply has_rels; (repeat (first | apply List.Mem.head | apply List.Mem.tail)); first | done | fail) | with_reducible assumption | ((with_reducible apply has_elg); (focus (first | (apply has_velg; (repeat (first | apply List.Mem.head | apply List.Mem.tail)); first | done | fail) | (apply has_relg; (repeat (first | apply List.Mem.head | apply List.Mem.tail)); first | done | fail))); omega) | (apply has_velg; (repeat (first | apply List.Mem.head | apply List.Mem.tail)); first | done | fail) | (apply has_relg; (repeat (first | apply List.Mem.head | apply List.Mem.tail)); first | done | fail) | (apply has_vwf; (repeat (first | apply List.Mem.head | apply List.Mem.tail)); first | done | fail) | (apply has_oww; (repeat (first | apply List.Mem.head | apply List.Mem.tail)); first | done | fail))⟩) ?_
    refine tka 8 ?_
    refine tka 9 ?_
    refine tka 10 ?_
    refine tka 11 ?_
    refine tka 12 ?_
    refine t0 ?_
    skip
    repeat' first|(refine gca ?_; first|(refine ca hM1 ?_; rintro _ _ ⟨mn, md, rfl, hmn, hmd, rfl⟩))|refine al fun c16 => ?_|refine srz ?_ (hj := Nat.le_of_ble_eq_true rfl)|refine lda ?_|(refine wo ?_; first|refine oa ?_|refine lnm ?_)|refine sq ?_|refine rg ?_|refine xc ?_|refine nl ?_|refine bk ?_
    refine TC.loop (ι := Nat) (fun j => [(19, I j), (18, I (msk (S.take j)))]) (fun _ => []) (fun j => j ≤ S.length) (fun j => S.length - j) 0 [1, 5, 6, 7, 9, 11, 13, 14, 16] (Nat.zero_le _) ?_ (hs := by rw [msk_zero S]; (repeat (refine Sub.cons rfl (by first | rfl | go_num) ?_)); exact Sub.nil)
    rintro j hj
    by_cases hjl : j < S.length
    · have hin := s7 _ (mem_getD.2 ⟨j, hjl, rfl⟩)
      have hm1 := msk_take hjl
      have hm2 := msk_le S (j + 1)
      clear hM1 hS1 hAdd hst hrow0 hget
      generalize hy : S.getD j 0 = y at *
      obtain ⟨p, rfl⟩ : ∃ p : Nat, y = p := ⟨y.toNat, by omega⟩
      rw [Int.toNat_natCast] at hm1
      obtain ⟨e, he⟩ : ∃ e, e = 2 ^ p := ⟨_, rfl⟩
      obtain ⟨m0, h0⟩ : ∃ m0, m0 = msk (S.take j) := ⟨_, rfl⟩
      rw [← he, ← h0] at hm1
      rw [← h0]
      clear h0
      repeat' first|refine lie hy ?_|(refine shI (c := p) ?_; rw [← he])|(refine wo ?_; first|(refine ao ?_; first|refine aw ?_|refine oa ?_)|refine ucv ?_|refine oa ?_|refine lnm ?_|refine ixmn ?_|refine gy ?_)|(refine gc ?_; first|(refine ci (fun hB => ?_) (fun hB => ?_) <;> try (exfalso; omega)))|refine sq ?_|refine rg ?_|refine xc ?_|refine nl ?_|refine sk ?_|refine bk ?_|refine xb ?_
      exact lp (j + 1) hjl (hs := by rw [hm1, show ((m0 + e : Nat) : Int) = (m0 : Int) + (e : Int) from Int.natCast_add _ _]; (repeat (refine Sub.cons rfl (by first | rfl | go_num) ?_)); exact Sub.nil)
    obtain rfl : j = S.length := by omega
    rw [List.take_length]
    repeat' first|refine lnw (N := N) (xs := rcs (accL k D L i) hq) ?_ (hm := has_oww (by (repeat (first | apply List.Mem.head | apply List.Mem.tail)); first | done | fail))|(refine wo ?_; first|(refine ao ?_; first|refine oa ?_)|refine oa ?_|refine lnm ?_)|(refine gc ?_; first|(refine ci (fun hB => ?_) (fun hB => ?_) <;> try (exfalso; omega)))|refine sq ?_|refine rg ?_|refine xc ?_|refine nl ?_|refine sk ?_|refine xe ?_
    obtain ⟨q2, hq2⟩ : ∃ q2, q2 = (accL k D L i).getD (msk S) 0 + q1 := ⟨_, rfl⟩
    simp only [← hq2] at hAdd hst
    obtain ⟨a, ha⟩ : ∃ a, a = msk S := ⟨_, rfl⟩
    rw [← ha] at hS16 hrow0 hAdd hst ⊢
    obtain ⟨q0, hq0⟩ : ∃ q0, q0 = (accL k D L i).getD a 0 := ⟨_, rfl⟩
    rw [← hq0] at hrow0 hAdd
    have hrs := fun x y => rcs_set (qs := accL k D L i) (hs := hq) (by omega) (i := a) (by omega) q2 (x, y)
    refine rs (fun w => SlW w v N [] ∧ w.heap[c16]? = some (.cells [.bool (decide (q1.num < 0)), mn, md].toArray TRt (0, 0))) ?_ (fun w hw => ⟨oww_len (e := TRt) (sz := 3) (v := v) (N := N) (by (repeat (first | apply List.Mem.head | apply List.Mem.tail)); first | done | fail) hw, pt_at (b := c16) (cs := [.bool (decide (q1.num < 0)), mn, md]) (T := TRt) (by (repeat (first | apply List.Mem.head | apply List.Mem.tail)); first | done | fail) hw⟩)
    refine tka 0 ?_
    refine tka 1 ?_
    refine tka 2 ?_
    refine tka 3 ?_
    refine tk 4 (v := .pointer (some (adr v (3 * a)))) (fun w h => R_idxW (E := env) (i := (a : Int)) rfl rfl rfl rfl h.1 ⟨by omega, by omega⟩) ?_
    refine tk 6 (v := .agg #[.bool (decide (q1.num < 0)), mn, md]) (fun w h => R_loadA (E := env) (vs := [.bool (decide (q1.num < 0)), mn, md]) rfl rfl rfl rfl h.2 rfl rfl) ?_
    refine t1 5 ?_
    refine ldaw (N := N) (xs := rcs (accL k D L i) hq) (m := 3 * a) hrow0 ?_ (hm := has_oww (by (repeat (first | apply List.Mem.head | apply List.Mem.tail)); first | done | fail))
    refine nl ?_
    refine te (fun w hw => ⟨oww_len (e := TRt) (sz := 3) (v := v) (N := N) (by (repeat (first | apply List.Mem.head | apply List.Mem.tail)); first | done | fail) hw, pt_at (b := c16) (cs := [.bool (decide (q1.num < 0)), mn, md]) (T := TRt) (by (repeat (first | apply List.Mem.head | apply List.Mem.tail)); first | done | fail) hw⟩) ?_
    refine t1 7 ?_
    refine slws fun g2 => ?_
    refine nl ?_
    refine te (fun w hw => ⟨oww_len (e := TRt) (sz := 3) (v := v) (N := N) (by (repeat (first | apply List.Mem.head | apply List.Mem.tail)); first | done | fail) hw, pt_at (b := c16) (cs := [.bool (decide (q1.num < 0)), mn, md]) (T := TRt) (by (repeat (first | apply List.Mem.head | apply List.Mem.tail)); first | done | fail) hw⟩) ?_
    refine t1 8 ?_
    refine ca (hAdd _ (hq.getD a nS2).1 (hq.getD a nS2).2 mn md) ?_ (hp := has1 (has_oww (by (repeat (first | apply List.Mem.head | apply List.Mem.tail)); first | done | fail)) (has1 (by rw [hq0]; exact (has_fr (has_ofr (by omega) (by (repeat (first | apply List.Mem.head | apply List.Mem.tail)); first | done | fail)) (by omega) (by omega)).1) (has1 (by rw [hq0]; exact (has_fr (has_ofr (by omega) (by (repeat (first | apply List.Mem.head | apply List.Mem.tail)); first | done | fail)) (by omega) (by omega)).2) (has1 (by first | (apply has_vw; (repeat (first | apply List.Mem.head | apply List.Mem.tail)); first | done | fail) | (apply has_own; (repeat (first | apply List.Mem.head | apply List.Mem.tail)); first | done | fail) | (apply has_ro; (repeat (first | apply List.Mem.head | apply List.Mem.tail)); first | done | fail) | apply has_nil | ((with_reducible apply has_el); (focus (first | (apply has_vels; (repeat (first | apply List.Mem.head | apply List.Mem.tail)); first | done | fail) | (apply has_rels; (repeat (first | apply List.Mem.head | apply List.Mem.tail)); first | done | fail))); omega) | (apply has_pt; (repeat (first | apply List.Mem.head | apply List.Mem.tail)); first | done | fail) | (apply has_lpt; (repeat (first | apply List.Mem.head | apply List.Mem.tail)); first | done | fail) | (apply has_vels; (repeat (first | apply List.Mem.head | apply List.Mem.tail)); first | done | fail) | (apply has_rels; (repeat (first | apply List.Mem.head | apply List.Mem.tail)); first | done | fail) | with_reducible assumption | ((with_reducible apply has_elg); (focus (first | (apply has_velg; (repeat (first | apply List.Mem.head | apply List.Mem.tail)); first | done | fail) | (apply has_relg; (repeat (first | apply List.Mem.head | apply List.Mem.tail)); first | done | fail))); omega) | (apply has_velg; (repeat (first | apply List.Mem.head | apply List.Mem.tail)); first | done | fail) | (apply has_relg; (repeat (first | apply List.Mem.head | apply List.Mem.tail)); first | done | fail) | (apply has_vwf; (repeat (first | apply List.Mem.head | apply List.Mem.tail)); first | done | fail) | (apply has_oww; (repeat (first | apply List.Mem.head | apply List.Mem.tail)); first | done | fail)) (has1 (by first | (apply has_vw; (repeat (first | apply List.Mem.head | apply List.Mem.tail)); first | done | fail) | (apply has_own; (repeat (first | apply List.Mem.head | apply List.Mem.tail)); first | done | fail) | (apply has_ro; (repeat (first | apply List.Mem.head | apply List.Mem.tail)); first | done | fail) | apply has_nil | ((with_reducible apply has_el); (focus (first | (apply has_vels; (repeat (first | apply List.Mem.head | apply List.Mem.tail)); first | done | fail) | (apply has_rels; (repeat (first | apply List.Mem.head | apply List.Mem.tail)); first | done | fail))); omega) | (apply has_pt; (repeat (first | apply List.Mem.head | apply List.Mem.tail)); first | done | fail) | (apply has_lpt; (repeat (first | apply List.Mem.head | apply List.Mem.tail)); first | done | fail) | (apply has_vels; (repeat (first | apply List.Mem.head | apply List.Mem.tail)); first | done | fail) | (apply has_rels; (repeat (first | apply List.Mem.head | apply List.Mem.tail)); first | done | fail) | with_reducible assumption | ((with_reducible apply has_elg); (focus (first | (apply has_velg; (repeat (first | apply List.Mem.head | apply List.Mem.tail)); first | done | fail) | (apply has_relg; (repeat (first | apply List.Mem.head | apply List.Mem.tail)); first | done | fail))); omega) | (apply has_velg; (repeat (first | apply List.Mem.head | apply List.Mem.tail)); first | done | fail) | (apply has_relg; (repeat (first | apply List.Mem.head | apply List.Mem.tail)); first | done | fail) | (apply has_vwf; (repeat (first | apply List.Mem.head | apply List.Mem.tail)); first | done | fail) | (apply has_oww; (repeat (first | apply List.Mem.head | apply List.Mem.tail)); first | done | fail)) has0)))))
    rintro _ _ ⟨vn2, vd2, rfl, hvn2, hvd2, rfl⟩
    refine nl ?_
    refine te (fun w hw => ⟨oww_len (e := TRt) (sz := 3) (v := v) (N := N) (by (repeat (first | apply List.Mem.head | apply List.Mem.tail)); first | done | fail) hw, pt_at (b := c16) (cs := [.bool (decide (q1.num < 0)), mn, md]) (T := TRt) (by (repeat (first | apply List.Mem.head | apply List.Mem.tail)); first | done | fail) hw⟩) ?_
    refine tka 9 ?_
    refine tka 10 ?_
    refine tka 11 ?_
    refine tk 12 (v := .pointer (some (adr v (3 * a)))) (fun w h => R_idxW (E := env) (i := (a : Int)) rfl rfl rfl rfl h.1 ⟨by omega, by omega⟩) ?_
    refine t1 13 ?_
    refine sow (sz := 3) (m := 3 * a) (N := N) (xs := rcs (accL k D L i) hq) (vs := [.bool (decide (q2.num < 0)), vn2, vd2]) (by omega) ?_ (h1 := one_cons rfl (one_cons hvn2 (one_cons hvd2 one_nil)))
    refine nl ?_
    refine te (fun w hw => ⟨oww_len (e := TRt) (sz := 3) (v := v) (N := N) (by (repeat (first | apply List.Mem.head | apply List.Mem.tail)); first | done | fail) hw, pt_at (b := c16) (cs := [.bool (decide (q1.num < 0)), mn, md]) (T := TRt) (by (repeat (first | apply List.Mem.head | apply List.Mem.tail)); first | done | fail) hw⟩) ?_
    refine t0 ?_
    repeat' first|(refine wo ?_; first|(refine ao ?_; first|refine aw ?_)|refine oa ?_)|refine rg ?_|refine xc ?_|refine nl ?_|refine xb ?_
    refine TX.im (ofr_set (hs := hq) (qs := accL k D L i) (by omega) (i := a) (by omega) q2 vn2 vd2 (by first | apply Fit.all | ((repeat (first | (apply Fit.nilN; (repeat (first | apply nrm_nil | apply nrm_cons)); try apply nrm_rfl) | (apply Fit.cons; focus ((repeat (first | apply Tk.here | apply Tk.there)); first | done | fail)))); first | done | fail))) ?_
    exact lp ⟨i + 1, hq.set a (vn2, vd2)⟩ ⟨hlt, by simp [hl]⟩ (hf := by dsimp only; rw [← hst, ← hrs vn2 vd2]; first | apply Fit.all | ((repeat (first | (apply Fit.nilN; (repeat (first | apply nrm_nil | apply nrm_cons)); try apply nrm_rfl) | (apply Fit.cons; focus ((repeat (first | apply Tk.here | apply Tk.there)); first | done | fail)))); first | done | fail))
  · obtain rfl : i = L.length := by omega
    repeat' first|refine lnw (N := N) (xs := rcs (accL k D L L.length) hq) ?_ (hm := has_oww (by (repeat (first | apply List.Mem.head | apply List.Mem.tail)); first | done | fail))|(refine wo ?_; first|(refine ao ?_; first|refine oa ?_)|refine oa ?_|refine ln ?_)|(refine gc ?_; first|(refine ci (fun hB => ?_) (fun hB => ?_) <;> try (exfalso; omega)))|refine sq ?_|refine rg ?_|refine xc ?_|refine nl ?_|refine bk ?_|refine xe ?_
    have hQ := fun a (ha : a < N) => accL_get k D L L.length (a := a) (by omega)
    simp only [List.take_length] at hQ
    clear hpk2 hSet hMea hWL hAL hFA hle
    generalize accL k D L L.length = Q at *
    refine TC.loop (ι := Nat) (fun a => [(20, I a)]) (fun _ => []) (fun a => 1 ≤ a ∧ a ≤ N) (fun a => N - a) 1 [1, 5, 6, 11] ⟨Nat.le_refl _, by omega⟩ ?_
    rintro a ⟨ha1, ha2⟩
    by_cases hta : a < N
    rotate_left
    · obtain rfl : a = N := by omega
      repeat' first|refine lnw (N := a) (xs := rcs Q hq) ?_ (hm := has_oww (by (repeat (first | apply List.Mem.head | apply List.Mem.tail)); first | done | fail))|(refine wo ?_; first|(refine ao ?_; first|refine oa ?_)|refine oa ?_)|(refine gc ?_; first|(refine ci (fun hB => ?_) (fun hB => ?_) <;> try (exfalso; omega)))|refine sq ?_|refine rg ?_|refine xc ?_|refine nl ?_|refine xe ?_|refine rt ?_
      exact r1 ⟨rfl, rfl⟩
    have hq1 := (hQ a hta).trans (hch a ⟨ha1, by omega⟩)
    obtain ⟨p1, p2, _⟩ := hpop a (by omega)
    have p3 := p2 ha1
    clear hQ hch hpop p2
    repeat' first|refine lnw (N := N) (xs := rcs Q hq) ?_ (hm := has_oww (by (repeat (first | apply List.Mem.head | apply List.Mem.tail)); first | done | fail))|(refine wo ?_; first|(refine ao ?_; first|refine oa ?_)|refine oa ?_)|(refine gc ?_; first|(refine ci (fun hB => ?_) (fun hB => ?_) <;> try (exfalso; omega)))|refine sq ?_|refine rg ?_|refine xc ?_|refine nl ?_|refine sk ?_|refine bk ?_
    refine TC.loop (ι := Nat) (fun j => [(22, I j), (21, I (popK j a))]) (fun _ => []) (fun j => j ≤ k) (fun j => k - j) 0 [1, 5, 6, 11, 20] (Nat.zero_le _) ?_ (hs := by rw [popK_zero a]; (repeat (refine Sub.cons rfl (by first | rfl | go_num) ?_)); exact Sub.nil)
    rintro j hj
    by_cases hjk : j < k
    · have hps := popK_succ j a
      have hpl := popK_le a j
      obtain ⟨e, he⟩ : ∃ e, e = a / 2 ^ j := ⟨_, rfl⟩
      have hea : e ≤ a := by rw [he]; exact Nat.div_le_self _ _
      have hsh : (a : Int) / 2 ^ ((j : Int).toNat) = (e : Int) := by rw [he, Int.toNat_natCast]; push_cast; rfl
      obtain ⟨p0, h0⟩ : ∃ p0, p0 = popK j a := ⟨_, rfl⟩
      rw [← h0] at hpl hps ⊢
      rw [← he] at hps
      clear h0 he hq1 hCh hCW hCW0 hA0
      repeat' first|(refine shr (c := (j : Int)) ?_; rw [hsh])|(refine wo ?_; first|(refine ao ?_; first|refine aw ?_|refine oa ?_|refine amod ?_)|refine ucv ?_|refine oa ?_)|(refine gc ?_; first|(refine ci (fun hB => ?_) (fun hB => ?_) <;> try (exfalso; omega)))|refine sq ?_|refine rg ?_|refine xc ?_|refine nl ?_|refine sk ?_|refine bk ?_|refine xb ?_
      exact lp (j + 1) hjk (hs := by rw [hps, show ((p0 + e % 2 : Nat) : Int) = (p0 : Int) + (e : Int) % 2 by omega]; (repeat (refine Sub.cons rfl (by first | rfl | go_num) ?_)); exact Sub.nil)
    rw [show j = k by omega]
    clear hjk hj
    obtain ⟨d, hd⟩ : ∃ d, d = popK k a := ⟨_, rfl⟩
    rw [← hd] at hq1 p1 p3 ⊢
    have hrowa := rcs_row (qs := Q) (hs := hq) (i := a) (by omega) (by omega)
    have hfr : ∀ F, ofr hq Q ∈ F → Has F (vw (hq.getD a nS2).1 (Us (dg (Q.getD a 0).num.natAbs))) ∧ Has F (vw (hq.getD a nS2).2 (Us (dg (Q.getD a 0).den))) := fun F h => has_fr (has_ofr (by omega) h) (by omega) (by omega)
    have hC1 := fun s => hCh s d
    clear hCh hd
    by_cases hdl : d ≤ (madeT tbl k).length
    · rw [if_pos (by omega)] at hq1
      rw [hCW d p3 hdl] at hC1
      unfold FW at hC1
      dsimp only at hC1
      rw [hq1] at hrowa hfr
      clear hCW hCW0 hA0 hq1
      generalize mkRat ((madeT tbl k).getD (d - 1) 0) (chs k d * T) = qc at *
      have hSR := fun n1 d1 n2 d2 => SameRatio_tr (rqf qc) (rqf qc) n1 d1 n2 d2
      simp only [decide_true] at hSR
      repeat' first|(refine gca ?_; first|(refine ca (hC1 _) ?_; rintro _ _ ⟨n1, d1, rfl, hn1, hd1, rfl⟩))|refine al fun c23 => ?_|refine srz ?_|refine qlda ?_|refine qixws (i := (a : Int)) (N := N) (xs := rcs Q hq) ?_ (hm := has_oww (by (repeat (first | apply List.Mem.head | apply List.Mem.tail)); first | done | fail))|refine qldaw (N := N) (xs := rcs Q hq) (m := 3 * a) hrowa ?_ (hm := has_oww (by (repeat (first | apply List.Mem.head | apply List.Mem.tail)); first | done | fail))|refine qca (hSR n1 d1 (hq.getD a nS2).1 (hq.getD a nS2).2) (v := .bool true) (fun _ _ h => h) ?_ (hp := has1 (by first | (apply has_vw; (repeat (first | apply List.Mem.head | apply List.Mem.tail)); first | done | fail) | (apply has_own; (repeat (first | apply List.Mem.head | apply List.Mem.tail)); first | done | fail) | (apply has_ro; (repeat (first | apply List.Mem.head | apply List.Mem.tail)); first | done | fail) | apply has_nil | ((with_reducible apply has_el); (focus (first | (apply has_vels; (repeat (first | apply List.Mem.head | apply List.Mem.tail)); first | done | fail) | (apply has_rels; (repeat (first | apply List.Mem.head | apply List.Mem.tail)); first | done | fail))); omega) | (apply has_pt; (repeat (first | apply List.Mem.head | apply List.Mem.tail)); first | done | fail) | (apply has_lpt; (repeat (first | apply List.Mem.head | apply List.Mem.tail)); first | done | fail) | (apply has_vels; (repeat (first | apply List.Mem.head | apply List.Mem.tail)); first | done | fail) | (apply has_rels; (repeat (first | apply List.Mem.head | apply List.Mem.tail)); first | done | fail) | with_reducible assumption | ((with_reducible apply has_elg); (focus (first | (apply has_velg; (repeat (first | apply List.Mem.head | apply List.Mem.tail)); first | done | fail) | (apply has_relg; (repeat (first | apply List.Mem.head | apply List.Mem.tail)); first | done | fail))); omega) | (apply has_velg; (repeat (first | apply List.Mem.head | apply List.Mem.tail)); first | done | fail) | (apply has_relg; (repeat (first | apply List.Mem.head | apply List.Mem.tail)); first | done | fail) | (apply has_vwf; (repeat (first | apply List.Mem.head | apply List.Mem.tail)); first | done | fail) | (apply has_oww; (repeat (first | apply List.Mem.head | apply List.Mem.tail)); first | done | fail)) (has1 (by first | (apply has_vw; (repeat (first | apply List.Mem.head | apply List.Mem.tail)); first | done | fail) | (apply has_own; (repeat (first | apply List.Mem.head | apply List.Mem.tail)); first | done | fail) | (apply has_ro; (repeat (first | apply List.Mem.head | apply List.Mem.tail)); first | done | fail) | apply has_nil | ((with_reducible apply has_el); (focus (first | (apply has_vels; (repeat (first | apply List.Mem.head | apply List.Mem.tail)); first | done | fail) | (apply has_rels; (repeat (first | apply List.Mem.head | apply List.Mem.tail)); first | done | fail))); omega) | (apply has_pt; (repeat (first | apply List.Mem.head | apply List.Mem.tail)); first | done | fail) | (apply has_lpt; (repeat (first | apply List.Mem.head | apply List.Mem.tail)); first | done | fail) | (apply has_vels; (repeat (first | apply List.Mem.head | apply List.Mem.tail)); first | done | fail) | (apply has_rels; (repeat (first | apply List.Mem.head | apply List.Mem.tail)); first | done | fail) | with_reducible assumption | ((with_reducible apply has_elg); (focus (first | (apply has_velg; (repeat (first | apply List.Mem.head | apply List.Mem.tail)); first | done | fail) | (apply has_relg; (repeat (first | apply List.Mem.head | apply List.Mem.tail)); first | done | fail))); omega) | (apply has_velg; (repeat (first | apply List.Mem.head | apply List.Mem.tail)); first | done | fail) | (apply has_relg; (repeat (first | apply List.Mem.head | apply List.Mem.tail)); first | done | fail) | (apply has_vwf; (repeat (first | apply List.Mem.head | apply List.Mem.tail)); first | done | fail) | (apply has_oww; (repeat (first | apply List.Mem.head | apply List.Mem.tail)); first | done | fail)) (has1 (hfr _ (by (repeat (first | apply List.Mem.head | apply List.Mem.tail)); first | done | fail)).1 (has1 (hfr _ (by (repeat (first | apply List.Mem.head | apply List.Mem.tail)); first | done | fail)).2 has0))))|(refine wo ?_; first|(refine ao ?_; first|refine aw ?_|refine oa ?_)|refine oa ?_|refine lnm ?_)|(refine gc ?_; first|refine cf ?_|(refine ci (fun hB => ?_) (fun hB => ?_) <;> try (exfalso; omega)))|refine sq ?_|refine rg ?_|refine xc ?_|refine nl ?_|refine sk ?_|refine xe ?_|refine xb ?_|refine rq ?_|refine nq ?_|(refine wq ?_; first|(refine qao ?_; first|refine qa ?_)|refine qa ?_|refine qgy ?_)
      exact lp (a + 1) ⟨by omega, hta⟩
    · rw [if_neg (by omega)] at hq1
      rw [hCW0 d (by omega)] at hC1
      unfold FW at hC1
      dsimp only at hC1
      rw [hq1] at hrowa hfr
      clear hCW hCW0 hq1
      have hSR := fun n1 d1 n2 d2 => SameRatio_tr (rqf 0) (rqf 0) n1 d1 n2 d2
      simp only [decide_true] at hSR
      generalize (0 : Rat) = qc at *
      repeat' first|(refine gca ?_; first|(refine ca (hC1 _) ?_; rintro _ _ ⟨n1, d1, rfl, hn1, hd1, rfl⟩)|(refine ca hA0 ?_; rintro _ _ ⟨n3, d3, rfl, hn3, hd3, rfl⟩))|refine al fun c23 => ?_|refine srz ?_|refine srz ?_ (hj := Nat.le_of_ble_eq_true rfl)|refine qlda ?_|refine qixws (i := (a : Int)) (N := N) (xs := rcs Q hq) ?_ (hm := has_oww (by (repeat (first | apply List.Mem.head | apply List.Mem.tail)); first | done | fail))|refine qldaw (N := N) (xs := rcs Q hq) (m := 3 * a) hrowa ?_ (hm := has_oww (by (repeat (first | apply List.Mem.head | apply List.Mem.tail)); first | done | fail))|refine qca (hSR n3 d3 (hq.getD a nS2).1 (hq.getD a nS2).2) (v := .bool true) (fun _ _ h => h) ?_ (hp := has1 (by first | (apply has_vw; (repeat (first | apply List.Mem.head | apply List.Mem.tail)); first | done | fail) | (apply has_own; (repeat (first | apply List.Mem.head | apply List.Mem.tail)); first | done | fail) | (apply has_ro; (repeat (first | apply List.Mem.head | apply List.Mem.tail)); first | done | fail) | apply has_nil | ((with_reducible apply has_el); (focus (first | (apply has_vels; (repeat (first | apply List.Mem.head | apply List.Mem.tail)); first | done | fail) | (apply has_rels; (repeat (first | apply List.Mem.head | apply List.Mem.tail)); first | done | fail))); omega) | (apply has_pt; (repeat (first | apply List.Mem.head | apply List.Mem.tail)); first | done | fail) | (apply has_lpt; (repeat (first | apply List.Mem.head | apply List.Mem.tail)); first | done | fail) | (apply has_vels; (repeat (first | apply List.Mem.head | apply List.Mem.tail)); first | done | fail) | (apply has_rels; (repeat (first | apply List.Mem.head | apply List.Mem.tail)); first | done | fail) | with_reducible assumption | ((with_reducible apply has_elg); (focus (first | (apply has_velg; (repeat (first | apply List.Mem.head | apply List.Mem.tail)); first | done | fail) | (apply has_relg; (repeat (first | apply List.Mem.head | apply List.Mem.tail)); first | done | fail))); omega) | (apply has_velg; (repeat (first | apply List.Mem.head | apply List.Mem.tail)); first | done | fail) | (apply has_relg; (repeat (first | apply List.Mem.head | apply List.Mem.tail)); first | done | fail) | (apply has_vwf; (repeat (first | apply List.Mem.head | apply List.Mem.tail)); first | done | fail) | (apply has_oww; (repeat (first | apply List.Mem.head | apply List.Mem.tail)); first | done | fail)) (has1 (by first | (apply has_vw; (repeat (first | apply List.Mem.head | apply List.Mem.tail)); first | done | fail) | (apply has_own; (repeat (first | apply List.Mem.head | apply List.Mem.tail)); first | done | fail) | (apply has_ro; (repeat (first | apply List.Mem.head | apply List.Mem.tail)); first | done | fail) | apply has_nil | ((with_reducible apply has_el); (focus (first | (apply has_vels; (repeat (first | apply List.Mem.head | apply List.Mem.tail)); first | done | fail) | (apply has_rels; (repeat (first | apply List.Mem.head | apply List.Mem.tail)); first | done | fail))); omega) | (apply has_pt; (repeat (first | apply List.Mem.head | apply List.Mem.tail)); first | done | fail) | (apply has_lpt; (repeat (first | apply List.Mem.head | apply List.Mem.tail)); first | done | fail) | (apply has_vels; (repeat (first | apply List.Mem.head | apply List.Mem.tail)); first | done | fail) | (apply has_rels; (repeat (first | apply List.Mem.head | apply List.Mem.tail)); first | done | fail) | with_reducible assumption | ((with_reducible apply has_elg); (focus (first | (apply has_velg; (repeat (first | apply List.Mem.head | apply List.Mem.tail)); first | done | fail) | (apply has_relg; (repeat (first | apply List.Mem.head | apply List.Mem.tail)); first | done | fail))); omega) | (apply has_velg; (repeat (first | apply List.Mem.head | apply List.Mem.tail)); first | done | fail) | (apply has_relg; (repeat (first | apply List.Mem.head | apply List.Mem.tail)); first | done | fail) | (apply has_vwf; (repeat (first | apply List.Mem.head | apply List.Mem.tail)); first | done | fail) | (apply has_oww; (repeat (first | apply List.Mem.head | apply List.Mem.tail)); first | done | fail)) (has1 (hfr _ (by (repeat (first | apply List.Mem.head | apply List.Mem.tail)); first | done | fail)).1 (has1 (hfr _ (by (repeat (first | apply List.Mem.head | apply List.Mem.tail)); first | done | fail)).2 has0))))|(refine wo ?_; first|(refine ao ?_; first|refine aw ?_|refine oa ?_)|refine oa ?_|refine lnm ?_)|(refine gc ?_; first|refine cf ?_|(refine ci (fun hB => ?_) (fun hB => ?_) <;> try (exfalso; omega)))|refine sq ?_|refine rg ?_|refine xc ?_|refine nl ?_|refine sk ?_|refine xe ?_|refine xb ?_|refine rq ?_|refine nq ?_|(refine wq ?_; first|(refine qao ?_; first|refine qa ?_)|refine qa ?_|refine qgy ?_)
      exact lp (a + 1) ⟨by omega, hta⟩
end Go.Art
