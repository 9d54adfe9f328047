/- The alias of a table: the plain law. Conditions: none. -/
import Derived.Test.YthgghnaioddkcaaHq
set_option linter.unusedSimpArgs false
set_option linter.unusedVariables false
namespace Go.Art
open Go

/-- A list's numbers, rising. -/
def Rep (h S : List Int) : Prop := Heap h ∧ h.Perm S ∧ S.Pairwise (· ≤ ·)
theorem Rep.head {h S : List Int} {a : Int} (r : Rep h (a :: S)) : h.getD 0 0 = a := by
  obtain ⟨h1, h2, h3⟩ := r
  obtain ⟨h4, h5⟩ := List.pairwise_cons.1 h3
  have ha : a ∈ h := h2.mem_iff.2 (by simp)
  obtain ⟨j, hj, e⟩ := mem_getD.1 ha
  have hl := h1.head j hj
  have h0 : h.getD 0 0 ∈ a :: S := h2.mem_iff.1 (mem_getD.2 ⟨0, by omega, rfl⟩)
  rcases List.mem_cons.1 h0 with h0 | h0
  · exact h0
  · have := h4 _ h0; omega
theorem Rep.pop {h h' S : List Int} {a : Int} (r : Rep h (a :: S)) (hh : Heap h') (hp : h.Perm (h.getD 0 0 :: h')) : Rep h' S := by
  have e := r.head
  obtain ⟨h1, h2, h3⟩ := r
  rw [e] at hp
  exact ⟨hh, List.Perm.cons_inv (hp.symm.trans h2), (List.pairwise_cons.1 h3).2⟩
theorem Rep.push {h h' S : List Int} (r : Rep h S) (x : Int) (hh : Heap h') (hp : h'.Perm (x :: h)) : Rep h' (srt (x :: S)) :=
  ⟨hh, (hp.trans (List.Perm.cons x r.2.1)).trans (srt_perm _).symm, srt_sorted _⟩
theorem Rep.nil : Rep [] [] := ⟨fun j _ h => by simp at h, List.Perm.refl _, .nil⟩
theorem Rep.len {h S : List Int} (r : Rep h S) : h.length = S.length := r.2.1.length_eq

structure AlS where
  rest : List Int
  cut : List Int
  oth : List Int
  B : List Int
  A : List Int
/-- One round: i is filled up by j. -/
def alStep (all : Int) (u : AlS) (i j : Int) (B A : List Int) : AlS :=
  let ri := u.rest.getD i.toNat 0
  let r := u.rest.getD j.toNat 0 - (all - ri)
  ⟨u.rest.set j.toNat r, u.cut.set i.toNat ri, u.oth.set i.toNat j, if r > all then B else if r < all then srt (j :: B) else B, if r > all then j :: A else A⟩
def alRun (all : Int) : Nat → AlS → AlS
  | 0, u => u
  | f + 1, u => match u.B, u.A with
    | i :: B, j :: A => alRun all f (alStep all u i j B A)
    | _, _ => u
/-- The columns are laid out, the first i of them. -/
def alIn (t : List Int) (all : Int) : Nat → AlS
  | 0 => ⟨List.replicate t.length 0, List.replicate t.length 0, List.replicate t.length 0, [], []⟩
  | i + 1 => let u := alIn t all i
    let r := t.getD i 0 * t.length
    ⟨u.rest.set i r, u.cut.set i all, u.oth.set i i, if r < all then srt ((i : Int) :: u.B) else u.B, if r < all then u.A else if r > all then srt ((i : Int) :: u.A) else u.A⟩
/-- What stands between two rounds. -/
structure AlI (t : List Int) (all : Int) (u : AlS) : Prop where
  lr : u.rest.length = t.length
  lc : u.cut.length = t.length
  lo : u.oth.length = t.length
  nd : (u.B ++ u.A).Nodup
  B : ∀ i ∈ u.B, (0 ≤ i ∧ i < t.length) ∧ 0 ≤ u.rest.getD i.toNat 0 ∧ u.rest.getD i.toNat 0 < all
  A : ∀ j ∈ u.A, (0 ≤ j ∧ j < t.length) ∧ all < u.rest.getD j.toNat 0 ∧ u.rest.getD j.toNat 0 ≤ 1099511627776 ∧ 0 < t.getD j.toNat 0
  sum : (u.B.map fun i => all - u.rest.getD i.toNat 0).sum = (u.A.map fun j => u.rest.getD j.toNat 0 - all).sum
  cut : ∀ c : Nat, c < t.length → 0 ≤ u.cut.getD c 0 ∧ u.cut.getD c 0 ≤ all
  oth : ∀ c : Nat, c < t.length → (0 ≤ u.oth.getD c 0 ∧ u.oth.getD c 0 < t.length) ∧ (u.cut.getD c 0 = all ∨ 0 < t.getD (u.oth.getD c 0).toNat 0)
  zero : ∀ c : Nat, c < t.length → ¬ 0 < t.getD c 0 → u.rest.getD c 0 = 0 ∧ ((c : Int) ∈ u.B ∨ u.cut.getD c 0 = 0)
theorem sum_pos {l : List Int} {f : Int → Int} (h : ∀ x ∈ l, 0 < f x) (hl : l ≠ []) : 0 < (l.map f).sum := by
  induction l with
  | nil => exact absurd rfl hl
  | cons a r ih =>
    have h1 := h a (by simp)
    simp only [List.map_cons, List.sum_cons]
    by_cases hr : r = []
    · subst hr; simp; omega
    · have := ih (fun x hx => h x (by simp [hx])) hr; omega
theorem AlI.more {t : List Int} {all : Int} {u : AlS} (h : AlI t all u) (hB : u.B ≠ []) : u.A ≠ [] := fun hA => by
  have h1 := sum_pos (l := u.B) (f := fun i => all - u.rest.getD i.toNat 0) (fun i hi => by have := (h.B i hi).2; omega) hB
  have h2 := h.sum
  rw [hA] at h2
  simp only [List.map_nil, List.sum_nil] at h2
  omega
theorem getD_setI (l : List Int) (i j : Int) (x : Int) (hi : 0 ≤ i ∧ i < l.length) (hj : 0 ≤ j) : (l.set i.toNat x).getD j.toNat 0 = if j = i then x else l.getD j.toNat 0 := by
  rw [getD_set _ _ _ _ (by omega)]
  by_cases e : j = i
  · subst e; rw [if_pos rfl, if_pos rfl]
  · rw [if_neg e, if_neg (by omega)]
theorem map_sum_congr {l : List Int} {f g : Int → Int} (h : ∀ x ∈ l, f x = g x) : (l.map f).sum = (l.map g).sum := by rw [List.map_congr_left h]
theorem perm_sum {l m : List Int} (h : l.Perm m) : l.sum = m.sum := by
  induction h with
  | nil => rfl
  | cons x _ ih => simp [ih]
  | swap x y l => simp only [List.sum_cons]; omega
  | trans _ _ a b => exact a.trans b
theorem srt_sum (x : Int) (B : List Int) (f : Int → Int) : ((srt (x :: B)).map f).sum = f x + (B.map f).sum := by
  rw [perm_sum ((srt_perm (x :: B)).map f)]; rfl
theorem AlI.step {t : List Int} {all : Int} {u : AlS} {i j : Int} {B A : List Int} (h : AlI t all u) (ha : 0 < all ∧ all ≤ 1099511627776) (hB : u.B = i :: B) (hA : u.A = j :: A) : AlI t all (alStep all u i j B A) := by
  have hbi := h.B i (by rw [hB]; simp)
  have haj := h.A j (by rw [hA]; simp)
  have hnd := h.nd
  rw [hB, hA] at hnd
  have hsum := h.sum
  rw [hB, hA] at hsum
  simp only [List.map_cons, List.sum_cons] at hsum
  have hlr := h.lr
  have hlc := h.lc
  have hlo := h.lo
  obtain ⟨n1, n2, n3⟩ := List.nodup_append.1 hnd
  obtain ⟨hiB, nB⟩ := List.nodup_cons.1 n1
  obtain ⟨hjA, nA⟩ := List.nodup_cons.1 n2
  have hij : i ≠ j := n3 i (by simp) j (by simp)
  have hiA : i ∉ A := fun hm => n3 i (by simp) i (by simp [hm]) rfl
  have hjB : j ∉ B := fun hm => n3 j (by simp [hm]) j (by simp) rfl
  have hBA : ∀ x ∈ B, ∀ y ∈ A, x ≠ y := fun x hx y hy => n3 x (by simp [hx]) y (by simp [hy])
  have hBm : ∀ x, x ∈ u.B ↔ x = i ∨ x ∈ B := fun x => by rw [hB, List.mem_cons]
  have hAm : ∀ x, x ∈ u.A ↔ x = j ∨ x ∈ A := fun x => by rw [hA, List.mem_cons]
  generalize hri : u.rest.getD i.toNat 0 = ri at *
  generalize hrj : u.rest.getD j.toNat 0 = rj at *
  obtain ⟨⟨i0, i1⟩, i2, i3⟩ := hbi
  obtain ⟨⟨j0, j1⟩, j2, j3, j4⟩ := haj
  have hr : ∀ x : Int, 0 ≤ x → (u.rest.set j.toNat (rj - (all - ri))).getD x.toNat 0 = if x = j then rj - (all - ri) else u.rest.getD x.toNat 0 := fun x hx => getD_setI _ _ _ _ (by omega) hx
  have hrB : ∀ x ∈ B, (u.rest.set j.toNat (rj - (all - ri))).getD x.toNat 0 = u.rest.getD x.toNat 0 := fun x hx => by rw [hr x (h.B x ((hBm x).2 (.inr hx))).1.1, if_neg (show ¬ x = j from fun e => hjB (by rw [← e]; exact hx))]
  have hrA : ∀ x ∈ A, (u.rest.set j.toNat (rj - (all - ri))).getD x.toNat 0 = u.rest.getD x.toNat 0 := fun x hx => by rw [hr x (h.A x ((hAm x).2 (.inr hx))).1.1, if_neg (show ¬ x = j from fun e => hjA (by rw [← e]; exact hx))]
  have hrjj := hr j j0
  rw [if_pos rfl] at hrjj
  have hcs : ∀ c : Nat, c < t.length → (u.cut.set i.toNat ri).getD c 0 = if (c : Int) = i then ri else u.cut.getD c 0 := fun c hc => by
    have := getD_setI u.cut i c ri (by omega) (by omega)
    simpa using this
  have hos : ∀ c : Nat, c < t.length → (u.oth.set i.toNat j).getD c 0 = if (c : Int) = i then j else u.oth.getD c 0 := fun c hc => by
    have := getD_setI u.oth i c j (by omega) (by omega)
    simpa using this
  have hsB := map_sum_congr (l := B) (f := fun x => all - (u.rest.set j.toNat (rj - (all - ri))).getD x.toNat 0) (g := fun x => all - u.rest.getD x.toNat 0) (fun x hx => by rw [hrB x hx])
  have hsA := map_sum_congr (l := A) (f := fun x => (u.rest.set j.toNat (rj - (all - ri))).getD x.toNat 0 - all) (g := fun x => u.rest.getD x.toNat 0 - all) (fun x hx => by rw [hrA x hx])
  have hcut : ∀ c : Nat, c < t.length → 0 ≤ (u.cut.set i.toNat ri).getD c 0 ∧ (u.cut.set i.toNat ri).getD c 0 ≤ all := fun c hc => by
    rw [hcs c hc]; split
    · omega
    · exact h.cut c hc
  have hoth : ∀ c : Nat, c < t.length → (0 ≤ (u.oth.set i.toNat j).getD c 0 ∧ (u.oth.set i.toNat j).getD c 0 < t.length) ∧ ((u.cut.set i.toNat ri).getD c 0 = all ∨ 0 < t.getD ((u.oth.set i.toNat j).getD c 0).toNat 0) := fun c hc => by
    rw [hos c hc, hcs c hc]; split
    · exact ⟨⟨j0, j1⟩, .inr j4⟩
    · exact h.oth c hc
  have hzero : ∀ c : Nat, c < t.length → ¬ 0 < t.getD c 0 → (u.rest.set j.toNat (rj - (all - ri))).getD c 0 = 0 ∧ ((c : Int) ∈ B ∨ (u.cut.set i.toNat ri).getD c 0 = 0) := fun c hc hp => by
    obtain ⟨z1, z2⟩ := h.zero c hc hp
    have hcj : (c : Int) ≠ j := fun e => by rw [← e] at j4; exact hp (by simpa using j4)
    have e1 := hr c (by omega)
    rw [if_neg hcj] at e1
    rw [Int.toNat_natCast] at e1
    refine ⟨e1.trans z1, ?_⟩
    rw [hcs c hc]
    by_cases hci : (c : Int) = i
    · rw [if_pos hci]; right
      rw [← hri, ← hci, Int.toNat_natCast]; exact z1
    · rw [if_neg hci]
      rcases z2 with z2 | z2
      · exact .inl (((hBm _).1 z2).resolve_left hci)
      · exact .inr z2
  have hBk : ∀ x ∈ B, (0 ≤ x ∧ x < t.length) ∧ 0 ≤ (u.rest.set j.toNat (rj - (all - ri))).getD x.toNat 0 ∧ (u.rest.set j.toNat (rj - (all - ri))).getD x.toNat 0 < all := fun x hx => by rw [hrB x hx]; exact h.B x ((hBm x).2 (.inr hx))
  have hAk : ∀ x ∈ A, (0 ≤ x ∧ x < t.length) ∧ all < (u.rest.set j.toNat (rj - (all - ri))).getD x.toNat 0 ∧ (u.rest.set j.toNat (rj - (all - ri))).getD x.toNat 0 ≤ 1099511627776 ∧ 0 < t.getD x.toNat 0 := fun x hx => by rw [hrA x hx]; exact h.A x ((hAm x).2 (.inr hx))
  unfold alStep
  rw [hri, hrj]
  dsimp only
  by_cases c1 : rj - (all - ri) > all
  · rw [if_pos c1, if_pos c1]
    refine ⟨by simp [hlr], by simp [hlc], by simp [hlo], ?_, hBk, fun x hx => ?_, ?_, hcut, hoth, hzero⟩
    · refine List.nodup_append.2 ⟨nB, List.nodup_cons.2 ⟨hjA, nA⟩, fun a ha b hb => ?_⟩
      rcases List.mem_cons.1 hb with rfl | hb
      · exact fun e => hjB (e ▸ ha)
      · exact hBA a ha b hb
    · rcases List.mem_cons.1 hx with rfl | hx
      · dsimp only; rw [hrjj]; exact ⟨⟨j0, j1⟩, by omega, by omega, j4⟩
      · exact hAk x hx
    · dsimp only
      rw [List.map_cons, List.sum_cons, hsB, hsA, hrjj]; omega
  · rw [if_neg c1, if_neg c1]
    by_cases c2 : rj - (all - ri) < all
    · rw [if_pos c2]
      have hsm : ∀ x, x ∈ srt (j :: B) ↔ x = j ∨ x ∈ B := fun x => by rw [(srt_perm _).mem_iff, List.mem_cons]
      refine ⟨by simp [hlr], by simp [hlc], by simp [hlo], ?_, fun x hx => ?_, hAk, ?_, hcut, hoth, fun c hc hp => ⟨(hzero c hc hp).1, (hzero c hc hp).2.imp (fun hm => (hsm _).2 (.inr hm)) id⟩⟩
      · refine List.nodup_append.2 ⟨(srt_perm _).nodup_iff.2 (List.nodup_cons.2 ⟨hjB, nB⟩), nA, fun a ha b hb => ?_⟩
        rcases (hsm a).1 ha with rfl | ha
        · exact fun e => hjA (e ▸ hb)
        · exact hBA a ha b hb
      · rcases (hsm x).1 hx with rfl | hx
        · dsimp only; rw [hrjj]; exact ⟨⟨j0, j1⟩, by omega, by omega⟩
        · exact hBk x hx
      · dsimp only
        rw [srt_sum, hsB, hsA, hrjj]; omega
    · rw [if_neg c2]
      refine ⟨by simp [hlr], by simp [hlc], by simp [hlo], ?_, hBk, hAk, ?_, hcut, hoth, hzero⟩
      · exact List.nodup_append.2 ⟨nB, nA, hBA⟩
      · dsimp only
        rw [hsB, hsA]; omega
/-- What stands between two columns' laying out. -/
structure AlJ (t : List Int) (all : Int) (n : Nat) (u : AlS) : Prop where
  lr : u.rest.length = t.length
  lc : u.cut.length = t.length
  lo : u.oth.length = t.length
  nd : (u.B ++ u.A).Nodup
  B : ∀ i ∈ u.B, (0 ≤ i ∧ i < n) ∧ 0 ≤ u.rest.getD i.toNat 0 ∧ u.rest.getD i.toNat 0 < all
  A : ∀ j ∈ u.A, (0 ≤ j ∧ j < n) ∧ all < u.rest.getD j.toNat 0 ∧ u.rest.getD j.toNat 0 ≤ 1099511627776 ∧ 0 < t.getD j.toNat 0
  sum : (u.B.map fun i => all - u.rest.getD i.toNat 0).sum - (u.A.map fun j => u.rest.getD j.toNat 0 - all).sum = n * all - t.length * (t.take n).sum
  cut : ∀ c : Nat, c < n → u.cut.getD c 0 = all
  oth : ∀ c : Nat, c < n → u.oth.getD c 0 = c
  zero : ∀ c : Nat, c < n → ¬ 0 < t.getD c 0 → u.rest.getD c 0 = 0 ∧ (c : Int) ∈ u.B
theorem AlJ.start (t : List Int) (all : Int) : AlJ t all 0 (alIn t all 0) := ⟨by simp [alIn], by simp [alIn], by simp [alIn], by simp [alIn], by simp [alIn], by simp [alIn], by simp [alIn], fun c h => by omega, fun c h => by omega, fun c h => by omega⟩
theorem AlJ.step {t : List Int} {all : Int} {n : Nat} (hw : ∀ w ∈ t, 0 ≤ w ∧ w ≤ 16777215) (hl : t.length ≤ 65536) (ha : 0 < all) (hn : n < t.length) (h : AlJ t all n (alIn t all n)) : AlJ t all (n + 1) (alIn t all (n + 1)) := by
  have hb := hw _ (mem_getD.2 ⟨n, hn, rfl⟩)
  have hts : (t.take (n + 1)).sum = (t.take n).sum + t.getD n 0 := by rw [take_succ' hn 0, List.sum_append]; simp
  unfold alIn
  generalize alIn t all n = u at *
  obtain ⟨h1, h2, h3, h4, h5, h6, h7, h8, h9, h10⟩ := h
  have hr0 : 0 ≤ t.getD n 0 * t.length := Int.mul_nonneg hb.1 (by omega)
  have hr1 : t.getD n 0 * t.length ≤ 16777215 * 65536 := Int.mul_le_mul hb.2 (by omega) (by omega) (by omega)
  have hr2 : t.getD n 0 * t.length = t.length * t.getD n 0 := Int.mul_comm _ _
  have hr3 : ¬ 0 < t.getD n 0 → t.getD n 0 * t.length = 0 := fun hz => by rw [show t.getD n 0 = 0 by omega, Int.zero_mul]
  have hS : ((n + 1 : Nat) : Int) * all - t.length * (t.take (n + 1)).sum = n * all + all - (t.length * (t.take n).sum + t.getD n 0 * (t.length : Int)) := by
    rw [hts, Int.mul_add, ← hr2, show ((n + 1 : Nat) : Int) = (n : Int) + 1 by omega, Int.add_mul, Int.one_mul]
  generalize hr : t.getD n 0 * (t.length : Int) = r at *
  dsimp only
  have G : ∀ x : Int, 0 ≤ x → (u.rest.set n r).getD x.toNat 0 = if x = n then r else u.rest.getD x.toNat 0 := fun x hx => by
    have := getD_setI u.rest n x r (by omega) hx
    rwa [Int.toNat_natCast] at this
  have GB : ∀ x ∈ u.B, (u.rest.set n r).getD x.toNat 0 = u.rest.getD x.toNat 0 := fun x hx => by rw [G x (h5 x hx).1.1, if_neg (by have := (h5 x hx).1; omega)]
  have GA : ∀ x ∈ u.A, (u.rest.set n r).getD x.toNat 0 = u.rest.getD x.toNat 0 := fun x hx => by rw [G x (h6 x hx).1.1, if_neg (by have := (h6 x hx).1; omega)]
  have Gn := G n (by omega)
  rw [if_pos rfl] at Gn
  have hnB : (n : Int) ∉ u.B := fun hm => by have := (h5 _ hm).1; omega
  have hnA : (n : Int) ∉ u.A := fun hm => by have := (h6 _ hm).1; omega
  have hsB := map_sum_congr (l := u.B) (f := fun x => all - (u.rest.set n r).getD x.toNat 0) (g := fun x => all - u.rest.getD x.toNat 0) (fun x hx => by rw [GB x hx])
  have hsA := map_sum_congr (l := u.A) (f := fun x => (u.rest.set n r).getD x.toNat 0 - all) (g := fun x => u.rest.getD x.toNat 0 - all) (fun x hx => by rw [GA x hx])
  have hBk : ∀ x ∈ u.B, (0 ≤ x ∧ x < (n + 1 : Nat)) ∧ 0 ≤ (u.rest.set n r).getD x.toNat 0 ∧ (u.rest.set n r).getD x.toNat 0 < all := fun x hx => by
    rw [GB x hx]; have := h5 x hx; exact ⟨by omega, this.2⟩
  have hAk : ∀ x ∈ u.A, (0 ≤ x ∧ x < (n + 1 : Nat)) ∧ all < (u.rest.set n r).getD x.toNat 0 ∧ (u.rest.set n r).getD x.toNat 0 ≤ 1099511627776 ∧ 0 < t.getD x.toNat 0 := fun x hx => by
    rw [GA x hx]; have := h6 x hx; exact ⟨by omega, this.2⟩
  have hcut : ∀ c : Nat, c < n + 1 → (u.cut.set n all).getD c 0 = all := fun c hc => by
    rw [getD_set _ _ _ _ (by omega)]; split
    · rfl
    · exact h8 c (by omega)
  have hoth : ∀ c : Nat, c < n + 1 → (u.oth.set n (n : Int)).getD c 0 = c := fun c hc => by
    rw [getD_set _ _ _ _ (by omega)]; split
    · omega
    · exact h9 c (by omega)
  have hz : ∀ c : Nat, c < n → ¬ 0 < t.getD c 0 → (u.rest.set n r).getD c 0 = 0 ∧ (c : Int) ∈ u.B := fun c hc hp => by
    obtain ⟨z1, z2⟩ := h10 c hc hp
    rw [getD_set _ _ _ _ (by omega), if_neg (by omega)]; exact ⟨z1, z2⟩
  obtain ⟨n1, n2, n3⟩ := List.nodup_append.1 h4
  by_cases c1 : r < all
  · rw [if_pos c1, if_pos c1]
    have hsm : ∀ x, x ∈ srt ((n : Int) :: u.B) ↔ x = n ∨ x ∈ u.B := fun x => by rw [(srt_perm _).mem_iff, List.mem_cons]
    refine ⟨by simp [h1], by simp [h2], by simp [h3], ?_, fun x hx => ?_, hAk, ?_, hcut, hoth, fun c hc hp => ?_⟩
    · refine List.nodup_append.2 ⟨(srt_perm _).nodup_iff.2 (List.nodup_cons.2 ⟨hnB, n1⟩), n2, fun a ha' b hb' => ?_⟩
      rcases (hsm a).1 ha' with rfl | ha'
      · exact fun e => hnA (by rw [e]; exact hb')
      · exact n3 a ha' b hb'
    · rcases (hsm x).1 hx with rfl | hx
      · dsimp only; rw [Gn]; exact ⟨by omega, by omega, by omega⟩
      · exact hBk x hx
    · dsimp only; rw [srt_sum, hsB, hsA, Gn, hS]; omega
    · by_cases e : c = n
      · subst e
        rw [Int.toNat_natCast] at Gn
        exact ⟨Gn.trans (hr3 hp), (hsm _).2 (.inl rfl)⟩
      · exact ⟨(hz c (by omega) hp).1, (hsm _).2 (.inr (hz c (by omega) hp).2)⟩
  · rw [if_neg c1, if_neg c1]
    have hp1 : 0 < t.getD n 0 := Classical.byContradiction fun hp => by have := hr3 hp; omega
    have hzk : ∀ c : Nat, c < n + 1 → ¬ 0 < t.getD c 0 → (u.rest.set n r).getD c 0 = 0 ∧ (c : Int) ∈ u.B := fun c hc hp => by
      by_cases e : c = n
      · subst e; exact absurd hp1 hp
      · exact hz c (by omega) hp
    by_cases c2 : r > all
    · rw [if_pos c2]
      have hsm : ∀ x, x ∈ srt ((n : Int) :: u.A) ↔ x = n ∨ x ∈ u.A := fun x => by rw [(srt_perm _).mem_iff, List.mem_cons]
      refine ⟨by simp [h1], by simp [h2], by simp [h3], ?_, hBk, fun x hx => ?_, ?_, hcut, hoth, hzk⟩
      · refine List.nodup_append.2 ⟨n1, (srt_perm _).nodup_iff.2 (List.nodup_cons.2 ⟨hnA, n2⟩), fun a ha' b hb' => ?_⟩
        rcases (hsm b).1 hb' with rfl | hb'
        · exact fun e => hnB (by rw [← e]; exact ha')
        · exact n3 a ha' b hb'
      · rcases (hsm x).1 hx with rfl | hx
        · dsimp only; rw [Gn, Int.toNat_natCast]; exact ⟨by omega, by omega, by omega, hp1⟩
        · exact hAk x hx
      · dsimp only; rw [srt_sum, hsB, hsA, Gn, hS]; omega
    · rw [if_neg c2]
      refine ⟨by simp [h1], by simp [h2], by simp [h3], h4, hBk, hAk, ?_, hcut, hoth, hzk⟩
      dsimp only; rw [hsB, hsA, hS]; omega
theorem AlJ.all {t : List Int} {all : Int} (hw : ∀ w ∈ t, 0 ≤ w ∧ w ≤ 16777215) (hl : t.length ≤ 65536) (ha : 0 < all) : ∀ n : Nat, n ≤ t.length → AlJ t all n (alIn t all n)
  | 0, _ => AlJ.start t all
  | n + 1, h => AlJ.step hw hl ha h (AlJ.all hw hl ha n (by omega))
theorem AlJ.done {t : List Int} {u : AlS} (ha : 0 < t.sum) (h : AlJ t t.sum t.length u) : AlI t t.sum u := by
  refine ⟨h.lr, h.lc, h.lo, h.nd, h.B, h.A, ?_, fun c hc => ?_, fun c hc => ?_, fun c hc hp => ?_⟩
  · have := h.sum
    rw [List.take_length] at this
    omega
  · rw [h.cut c hc]; omega
  · rw [h.cut c hc, h.oth c hc]; exact ⟨by omega, .inl rfl⟩
  · exact ⟨(h.zero c hc hp).1, .inl (h.zero c hc hp).2⟩
def alMu (u : AlS) : Nat := u.B.length + 2 * u.A.length
theorem alStep_mu {all : Int} {u : AlS} {i j : Int} {B A : List Int} (hB : u.B = i :: B) (hA : u.A = j :: A) : alMu (alStep all u i j B A) < alMu u := by
  unfold alMu alStep
  dsimp only
  rw [hB, hA]
  split
  · simp only [List.length_cons]; omega
  · split
    · rw [srt_length]; simp only [List.length_cons]; omega
    · simp only [List.length_cons]; omega
theorem alRun_more {all : Int} (f : Nat) : ∀ (g : Nat) (u : AlS), alMu u ≤ f → alMu u ≤ g → alRun all f u = alRun all g u := by
  have key : ∀ (f : Nat) (u : AlS), alMu u = 0 → alRun all f u = u := fun f u h => by
    cases f with
    | zero => rfl
    | succ f =>
      unfold alRun
      have : u.B = [] := List.eq_nil_of_length_eq_zero (by unfold alMu at h; omega)
      rw [this]
  induction f with
  | zero => intro g u h1 _; rw [key 0 u (by omega), key g u (by omega)]
  | succ f ih =>
    intro g u h1 h2
    cases g with
    | zero => rw [key (f + 1) u (by omega), key 0 u (by omega)]
    | succ g =>
      unfold alRun
      split
      · rename_i i B j A hB hA
        have := alStep_mu (all := all) hB hA
        exact ih g _ (by omega) (by omega)
      · rfl
/-- The rounds, to their end. -/
def alEnd (all : Int) (u : AlS) : AlS := alRun all (alMu u) u
theorem alEnd_stop {all : Int} {u : AlS} (h : u.B = []) : alEnd all u = u := by
  unfold alEnd
  cases alMu u with
  | zero => rfl
  | succ f => unfold alRun; rw [h]
theorem alEnd_step {all : Int} {u : AlS} {i j : Int} {B A : List Int} (hB : u.B = i :: B) (hA : u.A = j :: A) : alEnd all u = alEnd all (alStep all u i j B A) := by
  have hm := alStep_mu (all := all) hB hA
  unfold alEnd
  obtain ⟨k, hk⟩ : ∃ k, alMu u = k + 1 := ⟨alMu u - 1, by omega⟩
  rw [hk]
  conv => lhs; unfold alRun
  rw [hB, hA]
  exact alRun_more _ _ _ (by omega) (Nat.le_refl _)
theorem AlI.end {t : List Int} {all : Int} (ha : 0 < all ∧ all ≤ 1099511627776) (m : Nat) : ∀ u, alMu u ≤ m → AlI t all u → AlI t all (alEnd all u) ∧ (alEnd all u).B = [] := by
  induction m with
  | zero =>
    intro u hm h
    have hB : u.B = [] := List.eq_nil_of_length_eq_zero (by unfold alMu at hm; omega)
    rw [alEnd_stop hB]; exact ⟨h, hB⟩
  | succ m ih =>
    intro u hm h
    cases hB : u.B with
    | nil => rw [alEnd_stop hB]; exact ⟨h, hB⟩
    | cons i B =>
      cases hA : u.A with
      | nil => exact absurd hA (h.more (by rw [hB]; simp))
      | cons j A =>
        have := alStep_mu (all := all) hB hA
        rw [alEnd_step hB hA]
        exact ih _ (by omega) (h.step ha hB hA)
/-- The alias of a table. -/
def alF (t : List Int) : AlS := alEnd t.sum (alIn t t.sum t.length)
theorem alF_ok {t : List Int} (hw : ∀ w ∈ t, 0 ≤ w ∧ w ≤ 16777215) (hl : 1 ≤ t.length ∧ t.length ≤ 65536) (ha : 0 < t.sum) : alE t.sum (alF t).cut (alF t).oth = 0 ∧ (alF t).cut.length = t.length ∧ ∀ c l : Int, 0 ≤ c ∧ c < t.length → 0 ≤ l ∧ l < t.sum → 0 < t.getD (alPick t.sum (alF t).cut (alF t).oth c l).toNat 0 := by
  have hs := sum_bound hw
  have hall : 0 < t.sum ∧ t.sum ≤ 1099511627776 := by omega
  obtain ⟨hI, hB⟩ := AlI.end hall _ _ (Nat.le_refl _) ((AlJ.all hw hl.2 ha t.length (Nat.le_refl _)).done ha)
  change AlI t t.sum (alF t) at hI
  change (alF t).B = [] at hB
  generalize alF t = u at *
  refine ⟨?_, hI.lc, fun c l hc hl' => ?_⟩
  · unfold alE
    rw [if_neg (by rw [hI.lc, hI.lo]; omega), if_neg]
    rw [Bool.or_eq_true, List.any_eq_true, List.any_eq_true]
    rintro (⟨x, hx, hb⟩ | ⟨x, hx, hb⟩)
    · obtain ⟨c, hc, rfl⟩ := mem_getD.1 hx
      have := hI.cut c (by rw [← hI.lc]; exact hc)
      have hb := of_decide_eq_true hb
      omega
    · obtain ⟨c, hc, rfl⟩ := mem_getD.1 hx
      have := (hI.oth c (by rw [← hI.lo]; exact hc)).1
      have hb := of_decide_eq_true hb
      rw [hI.lc] at hb
      omega
  · have h1 := hI.oth c.toNat (by omega)
    have h2 := hI.zero c.toNat (by omega)
    unfold alPick
    split
    · rename_i hlt
      refine Classical.byContradiction fun hn => ?_
      have := (h2 hn).2
      rw [hB] at this
      rcases this with h | h
      · cases h
      · omega
    · rename_i hlt
      rcases h1.2 with h | h
      · omega
      · exact h
end Go.Art
