/- Which symbols sets leave unknown: the program's walk, third part. Conditions: none. -/
import Derived.Test.YtoapghakfcdflaaStopG
set_option linter.unusedSimpArgs false
set_option linter.unusedVariables false
namespace Go.Art
open Go Go.Proofs Go.RowKit
attribute [local irreducible] Fit pt own ro vw mpc lpt vels rels mow lrc dfr

structure UG where
  G : Int → Option Value
  many : List Int
  q : List Int
  qv : Value
structure UF where
  i : Nat
  G : Int → Option Value
  g : Int → List Int
  many : List Int
abbrev TQ' : TypeId := 111
abbrev TM' : TypeId := 97

set_option maxHeartbeats 2000000 in
theorem unknown_tr (k : Int) (s : Value) (hs : List Value) (ls : List (List Int)) (hE : stopE k ls = 0) (hn : ls.length ≤ 4096) :
    Tr Try.prog 74 [I k, s] [vw s hs, vels hs ls] [] fun v D => ∃ b G g, v = mp b ∧ D = [mow 3 b G g none] ∧ (∀ x, left G x = true ↔ (0 ≤ x ∧ x < k) ∧ ¬ Kn ls x) := by
  obtain ⟨hk1, hk2, hsets⟩ := stopE_zero hE
  refine Tr.enter env _ Try.func74 (by kernel_rfl) rfl Try.ntmps74 rfl (by repeat (first | exact has00 | refine has01 ?_)) fun w0 => ?_
  refine TC.els (hs := hs) (ls := ls) (fun hl => ?_)
  refine TC.one (v := s) (xs := hs) fun hsv => ?_
  repeat' first|refine bx1 fun bs => ?_|refine mmo 3 (fun _ => []) fun b => ?_|refine al fun bl => ?_|(refine wo ?_; first|(refine ao ?_; first|refine aw ?_|refine aw6 ?_|refine oa ?_|refine adiv ?_|refine amod ?_|refine shr1 ?_|refine shr ?_|refine umod ?_|refine isl ?_|refine ipe ?_|refine ipn ?_|refine ibe ?_)|refine acw ?_|refine ucv ?_|refine anw ?_|refine oa ?_|refine ld ?_|refine ldl ?_|refine lnm ?_|refine ixmn ?_|refine ixm ?_|refine li ?_|refine lv ?_|refine ln ?_|refine ixn ?_|refine ix ?_|refine le ?_|refine sr ?_|refine soi ?_|refine scm ?_|refine sclm ?_|refine schm ?_|refine gy ?_|refine gn ?_|refine gnn ?_|refine gu ?_|(refine gsi (fun hB => ?_) (fun hB => ?_) <;> try (exfalso; omega))|(refine gsn (fun hB => ?_) (fun hB => ?_) <;> try (exfalso; omega))|(refine gs (fun hB => ?_) (fun hB => ?_) <;> try (exfalso; omega)))|(refine gc ?_; first|refine ct ?_|refine cf ?_|(refine ci (fun hB => ?_) (fun hB => ?_) <;> try (exfalso; omega))|(refine cn (fun hB => ?_) (fun hB => ?_) <;> try (exfalso; omega))|(refine cb (fun hB => ?_) (fun hB => ?_) <;> try (exfalso; omega)))|refine sq ?_|refine rg ?_|refine xc ?_|refine nl ?_|refine sk ?_|refine bk ?_|refine xe ?_|refine rt ?_|refine xb ?_
  refine TC.loop (ι := Nat × (Int → Option Value)) (fun i => [(23, I i.1)]) (fun i => [mow 3 b i.2 (fun _ => []) none]) (fun i => (i.1 : Int) ≤ k ∧ ∀ x, i.2 x = if 0 ≤ x ∧ x < i.1 then some nS else none) (fun i => (k - i.1).toNat) (0, fun _ => none) [3, 4, 5, 22] ⟨by simp; omega, fun x => by rw [if_neg (by omega)]⟩ ?_
  · rintro ⟨i, G⟩ ⟨h1, h2⟩
    dsimp only at h1 h2 ⊢
    by_cases hi : (i : Int) < k
    · repeat' first|(refine wo ?_; first|(refine ao ?_; first|refine aw ?_|refine aw6 ?_|refine oa ?_|refine adiv ?_|refine amod ?_|refine shr1 ?_|refine shr ?_|refine umod ?_|refine isl ?_|refine ipe ?_|refine ipn ?_|refine ibe ?_)|refine acw ?_|refine ucv ?_|refine anw ?_|refine oa ?_|refine ld ?_|refine ldl ?_|refine lnm ?_|refine ixmn ?_|refine ixm ?_|refine li ?_|refine lv ?_|refine ln ?_|refine ixn ?_|refine ix ?_|refine le ?_|refine sr ?_|refine soi ?_|refine scm ?_|refine sclm ?_|refine schm ?_|refine gy ?_|refine gn ?_|refine gnn ?_|refine gu ?_|(refine gsi (fun hB => ?_) (fun hB => ?_) <;> try (exfalso; omega))|(refine gsn (fun hB => ?_) (fun hB => ?_) <;> try (exfalso; omega))|(refine gs (fun hB => ?_) (fun hB => ?_) <;> try (exfalso; omega)))|(refine gc ?_; first|refine ct ?_|refine cf ?_|(refine ci (fun hB => ?_) (fun hB => ?_) <;> try (exfalso; omega))|(refine cn (fun hB => ?_) (fun hB => ?_) <;> try (exfalso; omega))|(refine cb (fun hB => ?_) (fun hB => ?_) <;> try (exfalso; omega)))|refine sq ?_|refine rg ?_|refine xc ?_|refine nl ?_|refine sk ?_|refine bk ?_|refine xe ?_|refine rt ?_|refine xb ?_
      refine TO.im (own_nil 3 _) ?_
      refine mou (v := nS) (l := []) (G := G) (k := (i : Int)) ?_ (.inr ⟨rfl, by rw [h2, if_neg (by omega)]⟩)
      rw [show setK (fun _ : Int => ([] : List Int)) (i : Int) [] = fun _ => [] from by funext x; unfold setK; split <;> rfl]
      repeat' first|(refine wo ?_; first|(refine ao ?_; first|refine aw ?_|refine aw6 ?_|refine oa ?_|refine adiv ?_|refine amod ?_|refine shr1 ?_|refine shr ?_|refine umod ?_|refine isl ?_|refine ipe ?_|refine ipn ?_|refine ibe ?_)|refine acw ?_|refine ucv ?_|refine anw ?_|refine oa ?_|refine ld ?_|refine ldl ?_|refine lnm ?_|refine ixmn ?_|refine ixm ?_|refine li ?_|refine lv ?_|refine ln ?_|refine ixn ?_|refine ix ?_|refine le ?_|refine sr ?_|refine soi ?_|refine scm ?_|refine sclm ?_|refine schm ?_|refine gy ?_|refine gn ?_|refine gnn ?_|refine gu ?_|(refine gsi (fun hB => ?_) (fun hB => ?_) <;> try (exfalso; omega))|(refine gsn (fun hB => ?_) (fun hB => ?_) <;> try (exfalso; omega))|(refine gs (fun hB => ?_) (fun hB => ?_) <;> try (exfalso; omega)))|(refine gc ?_; first|refine ct ?_|refine cf ?_|(refine ci (fun hB => ?_) (fun hB => ?_) <;> try (exfalso; omega))|(refine cn (fun hB => ?_) (fun hB => ?_) <;> try (exfalso; omega))|(refine cb (fun hB => ?_) (fun hB => ?_) <;> try (exfalso; omega)))|refine sq ?_|refine rg ?_|refine xc ?_|refine nl ?_|refine sk ?_|refine bk ?_|refine xe ?_|refine rt ?_|refine xb ?_
      refine lp (i + 1, setK G i (some nS)) ⟨by dsimp only; omega, fun x => ?_⟩
      dsimp only
      by_cases e : x = i
      · rw [e, setK_eq, if_pos (by omega)]
      · rw [setK_ne _ _ e, h2]
        by_cases e2 : 0 ≤ x ∧ x < (i : Int)
        · rw [if_pos e2, if_pos (by omega)]
        · rw [if_neg e2, if_neg (by omega)]
    · have hik : (i : Int) = k := by omega
      rw [hik] at h2
      have hl0 : ∀ x, left G x = true ↔ 0 ≤ x ∧ x < k := fun x => by
        unfold left; rw [h2]
        by_cases e : 0 ≤ x ∧ x < k
        · rw [if_pos e]; simp [e]
        · rw [if_neg e]; simp [e]
      clear h2
      repeat' first|refine mki fun mv0 => ?_|(refine wo ?_; first|(refine ao ?_; first|refine aw ?_|refine aw6 ?_|refine oa ?_|refine adiv ?_|refine amod ?_|refine shr1 ?_|refine shr ?_|refine umod ?_|refine isl ?_|refine ipe ?_|refine ipn ?_|refine ibe ?_)|refine acw ?_|refine ucv ?_|refine anw ?_|refine oa ?_|refine ld ?_|refine ldl ?_|refine lnm ?_|refine ixmn ?_|refine ixm ?_|refine li ?_|refine lv ?_|refine ln ?_|refine ixn ?_|refine ix ?_|refine le ?_|refine sr ?_|refine soi ?_|refine scm ?_|refine sclm ?_|refine schm ?_|refine gy ?_|refine gn ?_|refine gnn ?_|refine gu ?_|(refine gsi (fun hB => ?_) (fun hB => ?_) <;> try (exfalso; omega))|(refine gsn (fun hB => ?_) (fun hB => ?_) <;> try (exfalso; omega))|(refine gs (fun hB => ?_) (fun hB => ?_) <;> try (exfalso; omega)))|(refine gc ?_; first|refine ct ?_|refine cf ?_|(refine ci (fun hB => ?_) (fun hB => ?_) <;> try (exfalso; omega))|(refine cn (fun hB => ?_) (fun hB => ?_) <;> try (exfalso; omega))|(refine cb (fun hB => ?_) (fun hB => ?_) <;> try (exfalso; omega)))|refine sq ?_|refine rg ?_|refine xc ?_|refine nl ?_|refine sk ?_|refine bk ?_|refine xe ?_|refine rt ?_|refine xb ?_
      refine al fun bm => ?_
      refine TO.one (v := mv0) (xs := Is (List.replicate ((hs.length : Nat) : Int).toNat 0)) fun hmv => ?_
      repeat' first|(refine wo ?_; first|(refine ao ?_; first|refine aw ?_|refine aw6 ?_|refine oa ?_|refine adiv ?_|refine amod ?_|refine shr1 ?_|refine shr ?_|refine umod ?_|refine isl ?_|refine ipe ?_|refine ipn ?_|refine ibe ?_)|refine acw ?_|refine ucv ?_|refine anw ?_|refine oa ?_|refine ld ?_|refine ldl ?_|refine lnm ?_|refine ixmn ?_|refine ixm ?_|refine li ?_|refine lv ?_|refine ln ?_|refine ixn ?_|refine ix ?_|refine le ?_|refine sr ?_|refine soi ?_|refine scm ?_|refine sclm ?_|refine schm ?_|refine gy ?_|refine gn ?_|refine gnn ?_|refine gu ?_|(refine gsi (fun hB => ?_) (fun hB => ?_) <;> try (exfalso; omega))|(refine gsn (fun hB => ?_) (fun hB => ?_) <;> try (exfalso; omega))|(refine gs (fun hB => ?_) (fun hB => ?_) <;> try (exfalso; omega)))|(refine gc ?_; first|refine ct ?_|refine cf ?_|(refine ci (fun hB => ?_) (fun hB => ?_) <;> try (exfalso; omega))|(refine cn (fun hB => ?_) (fun hB => ?_) <;> try (exfalso; omega))|(refine cb (fun hB => ?_) (fun hB => ?_) <;> try (exfalso; omega)))|refine sq ?_|refine rg ?_|refine xc ?_|refine nl ?_|refine sk ?_|refine bk ?_|refine xe ?_|refine rt ?_|refine xb ?_
      refine al fun bq => ?_
      repeat' first|(refine wo ?_; first|(refine ao ?_; first|refine aw ?_|refine aw6 ?_|refine oa ?_|refine adiv ?_|refine amod ?_|refine shr1 ?_|refine shr ?_|refine umod ?_|refine isl ?_|refine ipe ?_|refine ipn ?_|refine ibe ?_)|refine acw ?_|refine ucv ?_|refine anw ?_|refine oa ?_|refine ld ?_|refine ldl ?_|refine lnm ?_|refine ixmn ?_|refine ixm ?_|refine li ?_|refine lv ?_|refine ln ?_|refine ixn ?_|refine ix ?_|refine le ?_|refine sr ?_|refine soi ?_|refine scm ?_|refine sclm ?_|refine schm ?_|refine gy ?_|refine gn ?_|refine gnn ?_|refine gu ?_|(refine gsi (fun hB => ?_) (fun hB => ?_) <;> try (exfalso; omega))|(refine gsn (fun hB => ?_) (fun hB => ?_) <;> try (exfalso; omega))|(refine gs (fun hB => ?_) (fun hB => ?_) <;> try (exfalso; omega)))|(refine gc ?_; first|refine ct ?_|refine cf ?_|(refine ci (fun hB => ?_) (fun hB => ?_) <;> try (exfalso; omega))|(refine cn (fun hB => ?_) (fun hB => ?_) <;> try (exfalso; omega))|(refine cb (fun hB => ?_) (fun hB => ?_) <;> try (exfalso; omega)))|refine sq ?_|refine rg ?_|refine xc ?_|refine nl ?_|refine sk ?_|refine bk ?_|refine xe ?_|refine rt ?_|refine xb ?_
      refine TC.loop (ι := UF) (fun u => [(36, I u.i)]) (fun u => [mow 3 b u.G u.g none, own 3 mv0 (Is u.many)])
        (fun u => u.i ≤ ls.length ∧ (∀ x, left u.G x = true ↔ 0 ≤ x ∧ x < k) ∧ (∀ x, left u.G x = true → u.g x = idx ls x u.i) ∧ u.many.length = ls.length ∧ ∀ j, j < u.i → u.many.getD j 0 = (ls.getD j []).length)
        (fun u => ls.length - u.i) ⟨0, G, fun _ => [], List.replicate ((hs.length : Nat) : Int).toNat 0⟩ [0, 3, 5, 7, 8, 9, 34, 35] ⟨by simp, hl0, fun x _ => rfl, by simp [hl], fun j h => by simp at h⟩ ?_
      · clear hl0 h1 hi hik
        rintro ⟨i, G, g, many⟩ ⟨h1, h2, h3, h4, h5⟩
        dsimp only at h1 h2 h3 h4 h5 ⊢
        by_cases hi : i < ls.length
        · have hset := hsets _ (getD_mem hi)
          have hnd := isSet_nodup hset
          have hin := (isSet_iff.1 hset).2.2
          have hlk := isSet_len hset
          repeat' first|(refine wo ?_; first|(refine ao ?_; first|refine aw ?_|refine aw6 ?_|refine oa ?_|refine adiv ?_|refine amod ?_|refine shr1 ?_|refine shr ?_|refine umod ?_|refine isl ?_|refine ipe ?_|refine ipn ?_|refine ibe ?_)|refine acw ?_|refine ucv ?_|refine anw ?_|refine oa ?_|refine ld ?_|refine ldl ?_|refine lnm ?_|refine ixmn ?_|refine ixm ?_|refine li ?_|refine lv ?_|refine ln ?_|refine ixn ?_|refine ix ?_|refine le ?_|refine sr ?_|refine soi ?_|refine scm ?_|refine sclm ?_|refine schm ?_|refine gy ?_|refine gn ?_|refine gnn ?_|refine gu ?_|(refine gsi (fun hB => ?_) (fun hB => ?_) <;> try (exfalso; omega))|(refine gsn (fun hB => ?_) (fun hB => ?_) <;> try (exfalso; omega))|(refine gs (fun hB => ?_) (fun hB => ?_) <;> try (exfalso; omega)))|(refine gc ?_; first|refine ct ?_|refine cf ?_|(refine ci (fun hB => ?_) (fun hB => ?_) <;> try (exfalso; omega))|(refine cn (fun hB => ?_) (fun hB => ?_) <;> try (exfalso; omega))|(refine cb (fun hB => ?_) (fun hB => ?_) <;> try (exfalso; omega)))|refine sq ?_|refine rg ?_|refine xc ?_|refine nl ?_|refine sk ?_|refine bk ?_|refine xe ?_|refine rt ?_|refine xb ?_
          generalize hL : ls.getD i [] = L at *
          refine TC.loop (ι := Nat × (Int → Option Value) × (Int → List Int)) (fun u => [(48, I u.1)]) (fun u => [mow 3 b u.2.1 u.2.2 none])
            (fun u => u.1 ≤ L.length ∧ (∀ x, left u.2.1 x = true ↔ 0 ≤ x ∧ x < k) ∧ ∀ x, left u.2.1 x = true → u.2.2 x = idx ls x i ++ if x ∈ L.take u.1 then [(i : Int)] else [])
            (fun u => L.length - u.1) (0, G, g) [0, 3, 5, 7, 8, 9, 10, 34, 35, 36, 46, 47] ⟨by simp, h2, fun x hx => (h3 x hx).trans (by simp)⟩ ?_
          · clear h2 h3
            rintro ⟨m, G, g⟩ ⟨h6, h2, h3⟩
            dsimp only at h6 h2 h3 ⊢
            subst hL
            by_cases hm : m < (ls.getD i []).length
            · have hx0 := hin _ (mem_getD.2 ⟨m, hm, rfl⟩)
              have hmt := not_mem_take (isSet_sorted hset).2 hm
              have hts := take_succ' hm 0
              generalize hx : (ls.getD i []).getD m 0 = x at *
              have hgx := h3 x ((h2 x).2 hx0)
              rw [if_neg hmt, List.append_nil] at hgx
              obtain ⟨v, hv⟩ : ∃ v, G x = some v := Option.isSome_iff_exists.1 ((h2 x).2 hx0)
              repeat' first|refine lie hx ?_|(refine wo ?_; first|(refine ao ?_; first|refine aw ?_|refine aw6 ?_|refine oa ?_|refine adiv ?_|refine amod ?_|refine shr1 ?_|refine shr ?_|refine umod ?_|refine isl ?_|refine ipe ?_|refine ipn ?_|refine ibe ?_)|refine acw ?_|refine ucv ?_|refine anw ?_|refine oa ?_|refine ld ?_|refine ldl ?_|refine lnm ?_|refine ixmn ?_|refine ixm ?_|refine li ?_|refine lv ?_|refine ln ?_|refine ixn ?_|refine ix ?_|refine le ?_|refine sr ?_|refine soi ?_|refine scm ?_|refine sclm ?_|refine schm ?_|refine gy ?_|refine gn ?_|refine gnn ?_|refine gu ?_|(refine gsi (fun hB => ?_) (fun hB => ?_) <;> try (exfalso; omega))|(refine gsn (fun hB => ?_) (fun hB => ?_) <;> try (exfalso; omega))|(refine gs (fun hB => ?_) (fun hB => ?_) <;> try (exfalso; omega)))|(refine gc ?_; first|refine ct ?_|refine cf ?_|(refine ci (fun hB => ?_) (fun hB => ?_) <;> try (exfalso; omega))|(refine cn (fun hB => ?_) (fun hB => ?_) <;> try (exfalso; omega))|(refine cb (fun hB => ?_) (fun hB => ?_) <;> try (exfalso; omega)))|refine sq ?_|refine rg ?_|refine xc ?_|refine nl ?_|refine sk ?_|refine bk ?_|refine xe ?_|refine rt ?_|refine xb ?_
              refine TC.im (Im.trans (Tk.here) (mow_out _ b G g hv _)) ?_
              have hgl := idx_len ls x i
              refine rs (fun w => w.heap[bl]? = some (.cells #[mp b] TM' (0, 0))) ?_ (fun w hw => pt_at (by simp) hw)
              refine tkl 0 (cs := [mp b]) (fun w h => h) ?_
              refine tka 1 ?_
              refine tkl 2 (cs := [mp b]) (fun w h => h) ?_
              refine tka 3 ?_
              refine tka 6 ?_
              refine t2 4 7 ?_ ?_
              refine mo ?_ (ones_some hv)
              repeat' first|(refine wo ?_; first|(refine ao ?_; first|refine aw ?_|refine aw6 ?_|refine oa ?_|refine adiv ?_|refine amod ?_|refine shr1 ?_|refine shr ?_|refine umod ?_|refine isl ?_|refine ipe ?_|refine ipn ?_|refine ibe ?_)|refine acw ?_|refine ucv ?_|refine anw ?_|refine oa ?_|refine ld ?_|refine ldl ?_|refine lnm ?_|refine ixmn ?_|refine ixm ?_|refine li ?_|refine lv ?_|refine ln ?_|refine ixn ?_|refine ix ?_|refine le ?_|refine sr ?_|refine soi ?_|refine scm ?_|refine sclm ?_|refine schm ?_|refine gy ?_|refine gn ?_|refine gnn ?_|refine gu ?_|(refine gsi (fun hB => ?_) (fun hB => ?_) <;> try (exfalso; omega))|(refine gsn (fun hB => ?_) (fun hB => ?_) <;> try (exfalso; omega))|(refine gs (fun hB => ?_) (fun hB => ?_) <;> try (exfalso; omega)))|(refine gc ?_; first|refine ct ?_|refine cf ?_|(refine ci (fun hB => ?_) (fun hB => ?_) <;> try (exfalso; omega))|(refine cn (fun hB => ?_) (fun hB => ?_) <;> try (exfalso; omega))|(refine cb (fun hB => ?_) (fun hB => ?_) <;> try (exfalso; omega)))|refine sq ?_|refine rg ?_|refine xc ?_|refine nl ?_|refine sk ?_|refine bk ?_|refine xe ?_|refine rt ?_|refine xb ?_
              refine te (fun w hw => pt_at (by simp) hw) ?_
              refine tk 5 (fun w h => R_field (E := env) (cs := [v]) rfl rfl rfl rfl rfl rfl) ?_
              refine t1 7 ?_
              refine slii [(i : Int)] fun v1 => ?_
              repeat' first|(refine wo ?_; first|(refine ao ?_; first|refine aw ?_|refine aw6 ?_|refine oa ?_|refine adiv ?_|refine amod ?_|refine shr1 ?_|refine shr ?_|refine umod ?_|refine isl ?_|refine ipe ?_|refine ipn ?_|refine ibe ?_)|refine acw ?_|refine ucv ?_|refine anw ?_|refine oa ?_|refine ld ?_|refine ldl ?_|refine lnm ?_|refine ixmn ?_|refine ixm ?_|refine li ?_|refine lv ?_|refine ln ?_|refine ixn ?_|refine ix ?_|refine le ?_|refine sr ?_|refine soi ?_|refine scm ?_|refine sclm ?_|refine schm ?_|refine gy ?_|refine gn ?_|refine gnn ?_|refine gu ?_|(refine gsi (fun hB => ?_) (fun hB => ?_) <;> try (exfalso; omega))|(refine gsn (fun hB => ?_) (fun hB => ?_) <;> try (exfalso; omega))|(refine gs (fun hB => ?_) (fun hB => ?_) <;> try (exfalso; omega)))|(refine gc ?_; first|refine ct ?_|refine cf ?_|(refine ci (fun hB => ?_) (fun hB => ?_) <;> try (exfalso; omega))|(refine cn (fun hB => ?_) (fun hB => ?_) <;> try (exfalso; omega))|(refine cb (fun hB => ?_) (fun hB => ?_) <;> try (exfalso; omega)))|refine sq ?_|refine rg ?_|refine xc ?_|refine nl ?_|refine sk ?_|refine bk ?_|refine xe ?_|refine rt ?_|refine xb ?_
              refine te (fun w hw => pt_at (by simp) hw) ?_
              refine t1 8 ?_
              rotate_left
              refine slii [(i : Int)] fun v1 => ?_
              repeat' first|(refine wo ?_; first|(refine ao ?_; first|refine aw ?_|refine aw6 ?_|refine oa ?_|refine adiv ?_|refine amod ?_|refine shr1 ?_|refine shr ?_|refine umod ?_|refine isl ?_|refine ipe ?_|refine ipn ?_|refine ibe ?_)|refine acw ?_|refine ucv ?_|refine anw ?_|refine oa ?_|refine ld ?_|refine ldl ?_|refine lnm ?_|refine ixmn ?_|refine ixm ?_|refine li ?_|refine lv ?_|refine ln ?_|refine ixn ?_|refine ix ?_|refine le ?_|refine sr ?_|refine soi ?_|refine scm ?_|refine sclm ?_|refine schm ?_|refine gy ?_|refine gn ?_|refine gnn ?_|refine gu ?_|(refine gsi (fun hB => ?_) (fun hB => ?_) <;> try (exfalso; omega))|(refine gsn (fun hB => ?_) (fun hB => ?_) <;> try (exfalso; omega))|(refine gs (fun hB => ?_) (fun hB => ?_) <;> try (exfalso; omega)))|(refine gc ?_; first|refine ct ?_|refine cf ?_|(refine ci (fun hB => ?_) (fun hB => ?_) <;> try (exfalso; omega))|(refine cn (fun hB => ?_) (fun hB => ?_) <;> try (exfalso; omega))|(refine cb (fun hB => ?_) (fun hB => ?_) <;> try (exfalso; omega)))|refine sq ?_|refine rg ?_|refine xc ?_|refine nl ?_|refine sk ?_|refine bk ?_|refine xe ?_|refine rt ?_|refine xb ?_
              refine te (fun w hw => pt_at (by simp) hw) ?_
              refine t1 4 ?_
              refine mo ?_ (ones_some hv)
              repeat' first|(refine wo ?_; first|(refine ao ?_; first|refine aw ?_|refine aw6 ?_|refine oa ?_|refine adiv ?_|refine amod ?_|refine shr1 ?_|refine shr ?_|refine umod ?_|refine isl ?_|refine ipe ?_|refine ipn ?_|refine ibe ?_)|refine acw ?_|refine ucv ?_|refine anw ?_|refine oa ?_|refine ld ?_|refine ldl ?_|refine lnm ?_|refine ixmn ?_|refine ixm ?_|refine li ?_|refine lv ?_|refine ln ?_|refine ixn ?_|refine ix ?_|refine le ?_|refine sr ?_|refine soi ?_|refine scm ?_|refine sclm ?_|refine schm ?_|refine gy ?_|refine gn ?_|refine gnn ?_|refine gu ?_|(refine gsi (fun hB => ?_) (fun hB => ?_) <;> try (exfalso; omega))|(refine gsn (fun hB => ?_) (fun hB => ?_) <;> try (exfalso; omega))|(refine gs (fun hB => ?_) (fun hB => ?_) <;> try (exfalso; omega)))|(refine gc ?_; first|refine ct ?_|refine cf ?_|(refine ci (fun hB => ?_) (fun hB => ?_) <;> try (exfalso; omega))|(refine cn (fun hB => ?_) (fun hB => ?_) <;> try (exfalso; omega))|(refine cb (fun hB => ?_) (fun hB => ?_) <;> try (exfalso; omega)))|refine sq ?_|refine rg ?_|refine xc ?_|refine nl ?_|refine sk ?_|refine bk ?_|refine xe ?_|refine rt ?_|refine xb ?_
              refine te (fun w hw => pt_at (by simp) hw) ?_
              refine tk 5 (fun w h => R_field (E := env) (cs := [v]) rfl rfl rfl rfl rfl rfl) ?_
              refine t1 8 ?_
              all_goals
                refine api (v := v) (l := g x) (news := [(i : Int)]) (hl := by rw [hgx]; simp only [List.length_cons, List.length_nil]; omega) fun v2 => ?_
                refine TO.one (v := v2) (xs := Is (g x ++ [(i : Int)])) fun hv2 => ?_
                repeat' first|(refine wo ?_; first|(refine ao ?_; first|refine aw ?_|refine aw6 ?_|refine oa ?_|refine adiv ?_|refine amod ?_|refine shr1 ?_|refine shr ?_|refine umod ?_|refine isl ?_|refine ipe ?_|refine ipn ?_|refine ibe ?_)|refine acw ?_|refine ucv ?_|refine anw ?_|refine oa ?_|refine ld ?_|refine ldl ?_|refine lnm ?_|refine ixmn ?_|refine ixm ?_|refine li ?_|refine lv ?_|refine ln ?_|refine ixn ?_|refine ix ?_|refine le ?_|refine sr ?_|refine soi ?_|refine scm ?_|refine sclm ?_|refine schm ?_|refine gy ?_|refine gn ?_|refine gnn ?_|refine gu ?_|(refine gsi (fun hB => ?_) (fun hB => ?_) <;> try (exfalso; omega))|(refine gsn (fun hB => ?_) (fun hB => ?_) <;> try (exfalso; omega))|(refine gs (fun hB => ?_) (fun hB => ?_) <;> try (exfalso; omega)))|(refine gc ?_; first|refine ct ?_|refine cf ?_|(refine ci (fun hB => ?_) (fun hB => ?_) <;> try (exfalso; omega))|(refine cn (fun hB => ?_) (fun hB => ?_) <;> try (exfalso; omega))|(refine cb (fun hB => ?_) (fun hB => ?_) <;> try (exfalso; omega)))|refine sq ?_|refine rg ?_|refine xc ?_|refine nl ?_|refine sk ?_|refine bk ?_|refine xe ?_|refine rt ?_|refine xb ?_
                refine te (fun w hw => pt_at (by simp) hw) ?_
                refine tk 9 (fun w h => R_buildC (E := env) (vs := [(0, v2)]) (cs := [v2]) (by simp [hv2]) rfl rfl rfl rfl rfl) ?_
                refine t1 10 ?_
                refine mou (v := v2) (l := g x ++ [(i : Int)]) (G := G) (k := x) ?_ (.inl rfl)
                repeat' first|(refine wo ?_; first|(refine ao ?_; first|refine aw ?_|refine aw6 ?_|refine oa ?_|refine adiv ?_|refine amod ?_|refine shr1 ?_|refine shr ?_|refine umod ?_|refine isl ?_|refine ipe ?_|refine ipn ?_|refine ibe ?_)|refine acw ?_|refine ucv ?_|refine anw ?_|refine oa ?_|refine ld ?_|refine ldl ?_|refine lnm ?_|refine ixmn ?_|refine ixm ?_|refine li ?_|refine lv ?_|refine ln ?_|refine ixn ?_|refine ix ?_|refine le ?_|refine sr ?_|refine soi ?_|refine scm ?_|refine sclm ?_|refine schm ?_|refine gy ?_|refine gn ?_|refine gnn ?_|refine gu ?_|(refine gsi (fun hB => ?_) (fun hB => ?_) <;> try (exfalso; omega))|(refine gsn (fun hB => ?_) (fun hB => ?_) <;> try (exfalso; omega))|(refine gs (fun hB => ?_) (fun hB => ?_) <;> try (exfalso; omega)))|(refine gc ?_; first|refine ct ?_|refine cf ?_|(refine ci (fun hB => ?_) (fun hB => ?_) <;> try (exfalso; omega))|(refine cn (fun hB => ?_) (fun hB => ?_) <;> try (exfalso; omega))|(refine cb (fun hB => ?_) (fun hB => ?_) <;> try (exfalso; omega)))|refine sq ?_|refine rg ?_|refine xc ?_|refine nl ?_|refine sk ?_|refine bk ?_|refine xe ?_|refine rt ?_|refine xb ?_
                refine te (fun w hw => pt_at (by simp) hw) ?_
                refine t0 ?_
                repeat' first|(refine wo ?_; first|(refine ao ?_; first|refine aw ?_|refine aw6 ?_|refine oa ?_|refine adiv ?_|refine amod ?_|refine shr1 ?_|refine shr ?_|refine umod ?_|refine isl ?_|refine ipe ?_|refine ipn ?_|refine ibe ?_)|refine acw ?_|refine ucv ?_|refine anw ?_|refine oa ?_|refine ld ?_|refine ldl ?_|refine lnm ?_|refine ixmn ?_|refine ixm ?_|refine li ?_|refine lv ?_|refine ln ?_|refine ixn ?_|refine ix ?_|refine le ?_|refine sr ?_|refine soi ?_|refine scm ?_|refine sclm ?_|refine schm ?_|refine gy ?_|refine gn ?_|refine gnn ?_|refine gu ?_|(refine gsi (fun hB => ?_) (fun hB => ?_) <;> try (exfalso; omega))|(refine gsn (fun hB => ?_) (fun hB => ?_) <;> try (exfalso; omega))|(refine gs (fun hB => ?_) (fun hB => ?_) <;> try (exfalso; omega)))|(refine gc ?_; first|refine ct ?_|refine cf ?_|(refine ci (fun hB => ?_) (fun hB => ?_) <;> try (exfalso; omega))|(refine cn (fun hB => ?_) (fun hB => ?_) <;> try (exfalso; omega))|(refine cb (fun hB => ?_) (fun hB => ?_) <;> try (exfalso; omega)))|refine sq ?_|refine rg ?_|refine xc ?_|refine nl ?_|refine sk ?_|refine bk ?_|refine xe ?_|refine rt ?_|refine xb ?_
                refine lp (m + 1, setK G x (some v2), setK g x (g x ++ [(i : Int)])) ⟨by dsimp only; omega, fun y => ?_, fun y hy => ?_⟩
                · dsimp only; rw [left_set G x v2 ((h2 x).2 hx0)]; exact h2 y
                · dsimp only at hy ⊢
                  rw [left_set G x v2 ((h2 x).2 hx0)] at hy
                  rw [hts]
                  by_cases e : y = x
                  · rw [e, setK_eq, hgx, if_pos (by simp)]
                  · rw [setK_ne _ _ e, h3 y hy]
                    have : (y ∈ (ls.getD i []).take m ++ [x]) ↔ y ∈ (ls.getD i []).take m := by simp [e]
                    simp only [this]
            · obtain rfl : m = (ls.getD i []).length := by omega
              rw [List.take_length] at h3
              repeat' first|(refine wo ?_; first|(refine ao ?_; first|refine aw ?_|refine aw6 ?_|refine oa ?_|refine adiv ?_|refine amod ?_|refine shr1 ?_|refine shr ?_|refine umod ?_|refine isl ?_|refine ipe ?_|refine ipn ?_|refine ibe ?_)|refine acw ?_|refine ucv ?_|refine anw ?_|refine oa ?_|refine ld ?_|refine ldl ?_|refine lnm ?_|refine ixmn ?_|refine ixm ?_|refine li ?_|refine lv ?_|refine ln ?_|refine ixn ?_|refine ix ?_|refine le ?_|refine sr ?_|refine soi ?_|refine scm ?_|refine sclm ?_|refine schm ?_|refine gy ?_|refine gn ?_|refine gnn ?_|refine gu ?_|(refine gsi (fun hB => ?_) (fun hB => ?_) <;> try (exfalso; omega))|(refine gsn (fun hB => ?_) (fun hB => ?_) <;> try (exfalso; omega))|(refine gs (fun hB => ?_) (fun hB => ?_) <;> try (exfalso; omega)))|(refine gc ?_; first|refine ct ?_|refine cf ?_|(refine ci (fun hB => ?_) (fun hB => ?_) <;> try (exfalso; omega))|(refine cn (fun hB => ?_) (fun hB => ?_) <;> try (exfalso; omega))|(refine cb (fun hB => ?_) (fun hB => ?_) <;> try (exfalso; omega)))|refine sq ?_|refine rg ?_|refine xc ?_|refine nl ?_|refine sk ?_|refine bk ?_|refine xe ?_|refine rt ?_|refine xb ?_
              refine lp ⟨i + 1, G, g, many.set i (ls.getD i []).length⟩ ⟨by dsimp only; omega, h2, fun y hy => ?_, by simp [h4], fun j hj => ?_⟩
              · dsimp only; rw [h3 y hy, idx_succ]
              · dsimp only at hj ⊢
                rw [getD_set _ _ _ _ (by omega)]
                by_cases e : i = j
                · rw [if_pos e, e]
                · rw [if_neg e]; exact h5 j (by omega)
        · obtain rfl : i = ls.length := by omega
          have hcl : ∀ j, j < ls.length → cnt (left G) (ls.getD j []) = (ls.getD j []).length := fun j hj => by
            unfold cnt
            rw [List.filter_eq_self.2 fun y hy => (h2 y).2 ((isSet_iff.1 (hsets _ (getD_mem hj))).2.2 y hy)]
          have hU : UInv k ls G g many [] := by
            refine ⟨fun x hx => (h2 x).1 hx, h3, fun x h0 hk hx => ?_, h4, by simp, ?_⟩
            · rw [(h2 x).2 ⟨h0, hk⟩] at hx; cases hx
            · have : cnt (left G) (belowI k) ≤ k.toNat := by unfold cnt; rw [← belowI_len k]; exact List.length_filter_le _ _
              have := Nat.mul_le_mul_right (ls.length + 1) this
              rw [Nat.add_mul]; simp only [List.length_nil]; omega
          have hsz : (k.toNat + 1) * (ls.length + 1) ≤ 65537 * 4097 := Nat.mul_le_mul (by omega) (by omega)
          have hcm : ∀ j, j < ls.length → many.getD j 0 = cnt (left G) (ls.getD j []) := fun j hj => by rw [h5 j hj, hcl j hj]
          have hc0 : cnt (left G) (belowI k) * (ls.length + 1) ≤ k.toNat * (ls.length + 1) := Nat.mul_le_mul_right _ (by unfold cnt; rw [← belowI_len k]; exact List.length_filter_le _ _)
          rw [Nat.add_mul, Nat.one_mul] at hsz
          clear hcl h5
          refine TC.im (own_nil 3 _) ?_
          repeat' first|(refine wo ?_; first|(refine ao ?_; first|refine aw ?_|refine aw6 ?_|refine oa ?_|refine adiv ?_|refine amod ?_|refine shr1 ?_|refine shr ?_|refine umod ?_|refine isl ?_|refine ipe ?_|refine ipn ?_|refine ibe ?_)|refine acw ?_|refine ucv ?_|refine anw ?_|refine oa ?_|refine ld ?_|refine ldl ?_|refine lnm ?_|refine ixmn ?_|refine ixm ?_|refine li ?_|refine lv ?_|refine ln ?_|refine ixn ?_|refine ix ?_|refine le ?_|refine sr ?_|refine soi ?_|refine scm ?_|refine sclm ?_|refine schm ?_|refine gy ?_|refine gn ?_|refine gnn ?_|refine gu ?_|(refine gsi (fun hB => ?_) (fun hB => ?_) <;> try (exfalso; omega))|(refine gsn (fun hB => ?_) (fun hB => ?_) <;> try (exfalso; omega))|(refine gs (fun hB => ?_) (fun hB => ?_) <;> try (exfalso; omega)))|(refine gc ?_; first|refine ct ?_|refine cf ?_|(refine ci (fun hB => ?_) (fun hB => ?_) <;> try (exfalso; omega))|(refine cn (fun hB => ?_) (fun hB => ?_) <;> try (exfalso; omega))|(refine cb (fun hB => ?_) (fun hB => ?_) <;> try (exfalso; omega)))|refine sq ?_|refine rg ?_|refine xc ?_|refine nl ?_|refine sk ?_|refine bk ?_|refine xe ?_|refine rt ?_|refine xb ?_
          refine TC.loop (ι := Nat × List Int × Value) (fun u => [(66, I u.1)]) (fun u => [pt bq [u.2.2] TQ', own 3 u.2.2 (Is u.2.1)])
            (fun u => u.1 ≤ ls.length ∧ UInv k ls G g many u.2.1 ∧ (∀ j, j < u.1 → Fine1 ls G many u.2.1 j) ∧ u.2.1.length + cnt (left G) (belowI k) * (ls.length + 1) + (ls.length - u.1) + 1 ≤ (k.toNat + 1) * (ls.length + 1))
            (fun u => ls.length - u.1) (0, [], nS) [3, 5, 7, 8, 9, 65] ⟨by simp, hU, fun j h => by simp at h, by rw [Nat.add_mul]; simp only [List.length_nil]; omega⟩ ?_
          clear hU
          rintro ⟨i, q, qv⟩ ⟨h6, hU, hF, hB⟩
          dsimp only at h6 hU hF hB ⊢
          by_cases hi : i < ls.length
          · have hlk := isSet_len (hsets _ (getD_mem hi))
            obtain ⟨l1, l2, l3, l4⟩ := lone_inv (B := ls.length - i) hU hsets hi (hcm i hi) (by omega)
            have hq2 : q.length + (ls.getD i []).length ≤ 1099511627776 := by rw [Nat.add_mul, Nat.one_mul] at hB; omega
            repeat' first|(refine cav (vs := [I i]) (cap := #[ptr bm, ptr bs, ptr bl, ptr bq]) (lone_tr i bm bs bl bq b mv0 s qv many q hs ls G g hi h4 hq2) ?_; rintro _ _ ⟨rfl, qw, rfl⟩)|(refine wo ?_; first|(refine ao ?_; first|refine aw ?_|refine aw6 ?_|refine oa ?_|refine adiv ?_|refine amod ?_|refine shr1 ?_|refine shr ?_|refine umod ?_|refine isl ?_|refine ipe ?_|refine ipn ?_|refine ibe ?_)|refine acw ?_|refine ucv ?_|refine anw ?_|refine oa ?_|refine ld ?_|refine ldl ?_|refine lnm ?_|refine ixmn ?_|refine ixm ?_|refine li ?_|refine lv ?_|refine ln ?_|refine ixn ?_|refine ix ?_|refine le ?_|refine sr ?_|refine soi ?_|refine scm ?_|refine sclm ?_|refine schm ?_|refine gy ?_|refine gn ?_|refine gnn ?_|refine gu ?_|(refine gsi (fun hB => ?_) (fun hB => ?_) <;> try (exfalso; omega))|(refine gsn (fun hB => ?_) (fun hB => ?_) <;> try (exfalso; omega))|(refine gs (fun hB => ?_) (fun hB => ?_) <;> try (exfalso; omega)))|(refine gc ?_; first|refine ct ?_|refine cf ?_|(refine ci (fun hB => ?_) (fun hB => ?_) <;> try (exfalso; omega))|(refine cn (fun hB => ?_) (fun hB => ?_) <;> try (exfalso; omega))|(refine cb (fun hB => ?_) (fun hB => ?_) <;> try (exfalso; omega)))|refine sq ?_|refine rg ?_|refine xc ?_|refine nl ?_|refine sk ?_|refine bk ?_|refine xe ?_|refine rt ?_|refine xb ?_
            refine lp (i + 1, q ++ loneL many G ls i, qw) ⟨by dsimp only; omega, l1, fun j hj => ?_, by dsimp only; omega⟩
            by_cases e : j = i
            · rw [e]; exact l2
            · have := hF j (by dsimp only at hj; omega)
              exact ⟨this.1, fun hc y hy hl => l3 y (this.2 hc y hy hl)⟩
          · obtain rfl : i = ls.length := by omega
            clear hB hcm h2 h3 hc0
            repeat' first|(refine wo ?_; first|(refine ao ?_; first|refine aw ?_|refine aw6 ?_|refine oa ?_|refine adiv ?_|refine amod ?_|refine shr1 ?_|refine shr ?_|refine umod ?_|refine isl ?_|refine ipe ?_|refine ipn ?_|refine ibe ?_)|refine acw ?_|refine ucv ?_|refine anw ?_|refine oa ?_|refine ld ?_|refine ldl ?_|refine lnm ?_|refine ixmn ?_|refine ixm ?_|refine li ?_|refine lv ?_|refine ln ?_|refine ixn ?_|refine ix ?_|refine le ?_|refine sr ?_|refine soi ?_|refine scm ?_|refine sclm ?_|refine schm ?_|refine gy ?_|refine gn ?_|refine gnn ?_|refine gu ?_|(refine gsi (fun hB => ?_) (fun hB => ?_) <;> try (exfalso; omega))|(refine gsn (fun hB => ?_) (fun hB => ?_) <;> try (exfalso; omega))|(refine gs (fun hB => ?_) (fun hB => ?_) <;> try (exfalso; omega)))|(refine gc ?_; first|refine ct ?_|refine cf ?_|(refine ci (fun hB => ?_) (fun hB => ?_) <;> try (exfalso; omega))|(refine cn (fun hB => ?_) (fun hB => ?_) <;> try (exfalso; omega))|(refine cb (fun hB => ?_) (fun hB => ?_) <;> try (exfalso; omega)))|refine sq ?_|refine rg ?_|refine xc ?_|refine nl ?_|refine sk ?_|refine bk ?_|refine xe ?_|refine rt ?_|refine xb ?_
            refine TC.loop (ι := UG) (fun _ => []) (fun u => [mow 3 b u.G g none, own 3 mv0 (Is u.many), pt bq [u.qv] TQ', own 3 u.qv (Is u.q)])
              (fun u => UInv k ls u.G g u.many u.q ∧ ∀ j, j < ls.length → Fine1 ls u.G u.many u.q j) (fun u => cnt (left u.G) (belowI k) * (ls.length + 1) + u.q.length) ⟨G, many, q, qv⟩ [3, 5, 7, 8, 9] ⟨hU, hF⟩ ?_
            clear hU hF h4 h6 h1
            rintro ⟨G, many, q, qv⟩ ⟨hU, hF⟩
            dsimp only at hU hF ⊢
            cases q with
            | nil =>
              repeat' first|(refine wo ?_; first|(refine ao ?_; first|refine aw ?_|refine aw6 ?_|refine oa ?_|refine adiv ?_|refine amod ?_|refine shr1 ?_|refine shr ?_|refine umod ?_|refine isl ?_|refine ipe ?_|refine ipn ?_|refine ibe ?_)|refine acw ?_|refine ucv ?_|refine anw ?_|refine oa ?_|refine ld ?_|refine ldl ?_|refine lnm ?_|refine ixmn ?_|refine ixm ?_|refine li ?_|refine lv ?_|refine ln ?_|refine ixn ?_|refine ix ?_|refine le ?_|refine sr ?_|refine soi ?_|refine scm ?_|refine sclm ?_|refine schm ?_|refine gy ?_|refine gn ?_|refine gnn ?_|refine gu ?_|(refine gsi (fun hB => ?_) (fun hB => ?_) <;> try (exfalso; omega))|(refine gsn (fun hB => ?_) (fun hB => ?_) <;> try (exfalso; omega))|(refine gs (fun hB => ?_) (fun hB => ?_) <;> try (exfalso; omega)))|(refine gc ?_; first|refine ct ?_|refine cf ?_|(refine ci (fun hB => ?_) (fun hB => ?_) <;> try (exfalso; omega))|(refine cn (fun hB => ?_) (fun hB => ?_) <;> try (exfalso; omega))|(refine cb (fun hB => ?_) (fun hB => ?_) <;> try (exfalso; omega)))|refine sq ?_|refine rg ?_|refine xc ?_|refine nl ?_|refine sk ?_|refine bk ?_|refine xe ?_|refine rt ?_|refine xb ?_
              refine r1 ⟨b, G, g, rfl, rfl, fun x => ?_⟩
              constructor
              · intro hx; have hd := hU.dom x hx; exact ⟨hd, (hU.end hsets hF x hd.1 hd.2).1 hx⟩
              · rintro ⟨hd, hx⟩; exact (hU.end hsets hF x hd.1 hd.2).2 hx
            | cons x r =>
              have hlen : 0 < (x :: r).length := by simp
              refine TC.fact (mow_one (T := 3) (b := b) (G := G) (f := g) (o := none) (by simp)) fun hGo => ?_
              repeat' first|(refine gca ?_; first|(refine ca (next_tr bq qv x r) ?_; rintro _ _ ⟨rfl, qw, rfl⟩))|(refine wo ?_; first|(refine ao ?_; first|refine aw ?_|refine aw6 ?_|refine oa ?_|refine adiv ?_|refine amod ?_|refine shr1 ?_|refine shr ?_|refine umod ?_|refine isl ?_|refine ipe ?_|refine ipn ?_|refine ibe ?_)|refine acw ?_|refine ucv ?_|refine anw ?_|refine oa ?_|refine ld ?_|refine ldl ?_|refine lnm ?_|refine ixmn ?_|refine ixm ?_|refine li ?_|refine lv ?_|refine ln ?_|refine ixn ?_|refine ix ?_|refine le ?_|refine sr ?_|refine soi ?_|refine scm ?_|refine sclm ?_|refine schm ?_|refine gy ?_|refine gn ?_|refine gnn ?_|refine gu ?_|(refine gsi (fun hB => ?_) (fun hB => ?_) <;> try (exfalso; omega))|(refine gsn (fun hB => ?_) (fun hB => ?_) <;> try (exfalso; omega))|(refine gs (fun hB => ?_) (fun hB => ?_) <;> try (exfalso; omega)))|(refine gc ?_; first|refine ct ?_|refine cf ?_|(refine ci (fun hB => ?_) (fun hB => ?_) <;> try (exfalso; omega))|(refine cn (fun hB => ?_) (fun hB => ?_) <;> try (exfalso; omega))|(refine cb (fun hB => ?_) (fun hB => ?_) <;> try (exfalso; omega)))|refine sq ?_|refine rg ?_|refine xc ?_|refine nl ?_|refine sk ?_|refine bk ?_|refine xe ?_|refine rt ?_|refine xb ?_
              cases hG : G x with
              | none =>
                have hlx : left G x = false := by unfold left; rw [hG]; rfl
                have hG1 := ones_none hG
                repeat' first|refine moN ?_ hG1|refine al fun bw => ?_|refine sra ?_|(refine wo ?_; first|(refine ao ?_; first|refine aw ?_|refine aw6 ?_|refine oa ?_|refine adiv ?_|refine amod ?_|refine shr1 ?_|refine shr ?_|refine umod ?_|refine isl ?_|refine ipe ?_|refine ipn ?_|refine ibe ?_)|refine acw ?_|refine ucv ?_|refine anw ?_|refine oa ?_|refine ld ?_|refine ldl ?_|refine lnm ?_|refine ixmn ?_|refine ixm ?_|refine li ?_|refine lv ?_|refine ln ?_|refine ixn ?_|refine ix ?_|refine le ?_|refine sr ?_|refine soi ?_|refine scm ?_|refine sclm ?_|refine schm ?_|refine gy ?_|refine gn ?_|refine gnn ?_|refine gu ?_|(refine gsi (fun hB => ?_) (fun hB => ?_) <;> try (exfalso; omega))|(refine gsn (fun hB => ?_) (fun hB => ?_) <;> try (exfalso; omega))|(refine gs (fun hB => ?_) (fun hB => ?_) <;> try (exfalso; omega)))|(refine gc ?_; first|refine ct ?_|refine cf ?_|(refine ci (fun hB => ?_) (fun hB => ?_) <;> try (exfalso; omega))|(refine cn (fun hB => ?_) (fun hB => ?_) <;> try (exfalso; omega))|(refine cb (fun hB => ?_) (fun hB => ?_) <;> try (exfalso; omega)))|refine sq ?_|refine rg ?_|refine xc ?_|refine nl ?_|refine sk ?_|refine bk ?_|refine xe ?_|refine rt ?_|refine xb ?_
                refine lp ⟨G, many, r, qw⟩ ⟨⟨hU.dom, hU.sets, hU.gone, hU.len, fun y hy => hU.que y (by simp [hy]), ?_⟩, fun j hj => ⟨(hF j hj).1, fun hc y hy hly => ?_⟩⟩ (hlt := by dsimp only; simp only [List.length_cons]; omega)
                · have := hU.size; dsimp only at this ⊢; simp only [List.length_cons] at this; omega
                · have h1 := (hF j hj).2 hc y hy hly
                  rcases List.mem_cons.1 h1 with rfl | h1
                  · rw [hlx] at hly; cases hly
                  · exact h1
              | some v =>
                have hlx : left G x = true := by unfold left; rw [hG]; rfl
                have hG1 := ones_some hG
                have hvo := hGo _ _ nofun hG
                have hV := VInv.start hU hsets hF hlx
                have hgx := hU.sets x hlx
                repeat' first|refine moS ?_ hG1|refine al fun bw => ?_|refine sra ?_|(refine wo ?_; first|(refine ao ?_; first|refine aw ?_|refine aw6 ?_|refine oa ?_|refine adiv ?_|refine amod ?_|refine shr1 ?_|refine shr ?_|refine umod ?_|refine isl ?_|refine ipe ?_|refine ipn ?_|refine ibe ?_)|refine acw ?_|refine ucv ?_|refine anw ?_|refine oa ?_|refine ld ?_|refine ldl ?_|refine lnm ?_|refine ixmn ?_|refine ixm ?_|refine li ?_|refine lv ?_|refine ln ?_|refine ixn ?_|refine ix ?_|refine le ?_|refine sr ?_|refine soi ?_|refine scm ?_|refine sclm ?_|refine schm ?_|refine gy ?_|refine gn ?_|refine gnn ?_|refine gu ?_|(refine gsi (fun hB => ?_) (fun hB => ?_) <;> try (exfalso; omega))|(refine gsn (fun hB => ?_) (fun hB => ?_) <;> try (exfalso; omega))|(refine gs (fun hB => ?_) (fun hB => ?_) <;> try (exfalso; omega)))|(refine gc ?_; first|refine ct ?_|refine cf ?_|(refine ci (fun hB => ?_) (fun hB => ?_) <;> try (exfalso; omega))|(refine cn (fun hB => ?_) (fun hB => ?_) <;> try (exfalso; omega))|(refine cb (fun hB => ?_) (fun hB => ?_) <;> try (exfalso; omega)))|refine sq ?_|refine rg ?_|refine xc ?_|refine nl ?_|refine sk ?_|refine bk ?_|refine xe ?_|refine rt ?_|refine xb ?_
                refine TO.im (Im.trans (by (repeat (first | apply Tk.here | apply Tk.there)); first | done | fail) (mow_out _ b G g hG _)) ?_
                refine mod ?_
                rw [hgx]
                repeat' first|(refine wo ?_; first|(refine ao ?_; first|refine aw ?_|refine aw6 ?_|refine oa ?_|refine adiv ?_|refine amod ?_|refine shr1 ?_|refine shr ?_|refine umod ?_|refine isl ?_|refine ipe ?_|refine ipn ?_|refine ibe ?_)|refine acw ?_|refine ucv ?_|refine anw ?_|refine oa ?_|refine ld ?_|refine ldl ?_|refine lnm ?_|refine ixmn ?_|refine ixm ?_|refine li ?_|refine lv ?_|refine ln ?_|refine ixn ?_|refine ix ?_|refine le ?_|refine sr ?_|refine soi ?_|refine scm ?_|refine sclm ?_|refine schm ?_|refine gy ?_|refine gn ?_|refine gnn ?_|refine gu ?_|(refine gsi (fun hB => ?_) (fun hB => ?_) <;> try (exfalso; omega))|(refine gsn (fun hB => ?_) (fun hB => ?_) <;> try (exfalso; omega))|(refine gs (fun hB => ?_) (fun hB => ?_) <;> try (exfalso; omega)))|(refine gc ?_; first|refine ct ?_|refine cf ?_|(refine ci (fun hB => ?_) (fun hB => ?_) <;> try (exfalso; omega))|(refine cn (fun hB => ?_) (fun hB => ?_) <;> try (exfalso; omega))|(refine cb (fun hB => ?_) (fun hB => ?_) <;> try (exfalso; omega)))|refine sq ?_|refine rg ?_|refine xc ?_|refine nl ?_|refine sk ?_|refine bk ?_|refine xe ?_|refine rt ?_|refine xb ?_
                refine TC.loop (ι := Nat × List Int × List Int × Value) (fun u => [(90, I u.1)]) (fun u => [own 3 mv0 (Is u.2.1), pt bq [u.2.2.2] TQ', own 3 u.2.2.2 (Is u.2.2.1)])
                  (fun u => u.1 ≤ (idx ls x ls.length).length ∧ VInv k ls (setK G x none) g x (idx ls x ls.length) u.2.1 u.2.2.1 r u.1) (fun u => (idx ls x ls.length).length - u.1) (0, many, r, qw) [3, 5, 7, 8, 9, 88, 89] ⟨Nat.zero_le _, hV⟩ ?_
                clear hV
                rintro ⟨j, many, q, qv⟩ ⟨h6, hV⟩
                dsimp only at h6 hV ⊢
                by_cases hj : j < (idx ls x ls.length).length
                · obtain ⟨i, he, hil, hxi⟩ := mem_idx.1 (mem_getD.2 ⟨j, hj, rfl⟩)
                  obtain ⟨-, hV'⟩ := hV.step hsets hj he
                  have hlk := isSet_len (hsets _ (getD_mem hil))
                  have hml := hV.inv.len
                  have hwl := idx_len ls x ls.length
                  have hmb := hV.many i hil
                  have hcl : cnt (left (setK G x none)) (ls.getD i []) ≤ (ls.getD i []).length := List.length_filter_le _ _
                  have hmb2 : 0 ≤ many.getD i 0 ∧ many.getD i 0 ≤ 70000 := by split at hmb <;> omega
                  have hq2 : q.length + (ls.getD i []).length ≤ 1099511627776 := by have := hV.bud; rw [Nat.add_mul, Nat.one_mul] at this; omega
                  clear hmb hcl
                  repeat' first|refine lie he ?_|(refine cav (vs := [I i]) (cap := #[ptr bm, ptr bs, ptr bl, ptr bq]) (lone_tr i bm bs bl bq b mv0 s qv (many.set i (many.getD i 0 - 1)) q hs ls (setK G x none) g hil (by simpa using hml) hq2) ?_; rintro _ _ ⟨rfl, qw, rfl⟩)|(refine wo ?_; first|(refine ao ?_; first|refine aw ?_|refine aw6 ?_|refine oa ?_|refine adiv ?_|refine amod ?_|refine shr1 ?_|refine shr ?_|refine umod ?_|refine isl ?_|refine ipe ?_|refine ipn ?_|refine ibe ?_)|refine acw ?_|refine ucv ?_|refine anw ?_|refine oa ?_|refine ld ?_|refine ldl ?_|refine lnm ?_|refine ixmn ?_|refine ixm ?_|refine li ?_|refine lv ?_|refine ln ?_|refine ixn ?_|refine ix ?_|refine le ?_|refine sr ?_|refine soi ?_|refine scm ?_|refine sclm ?_|refine schm ?_|refine gy ?_|refine gn ?_|refine gnn ?_|refine gu ?_|(refine gsi (fun hB => ?_) (fun hB => ?_) <;> try (exfalso; omega))|(refine gsn (fun hB => ?_) (fun hB => ?_) <;> try (exfalso; omega))|(refine gs (fun hB => ?_) (fun hB => ?_) <;> try (exfalso; omega)))|(refine gc ?_; first|refine ct ?_|refine cf ?_|(refine ci (fun hB => ?_) (fun hB => ?_) <;> try (exfalso; omega))|(refine cn (fun hB => ?_) (fun hB => ?_) <;> try (exfalso; omega))|(refine cb (fun hB => ?_) (fun hB => ?_) <;> try (exfalso; omega)))|refine sq ?_|refine rg ?_|refine xc ?_|refine nl ?_|refine sk ?_|refine bk ?_|refine xe ?_|refine rt ?_|refine xb ?_
                  exact lp (j + 1, _, _, qw) ⟨by dsimp only; omega, hV'⟩
                · obtain rfl : j = (idx ls x ls.length).length := by omega
                  obtain ⟨e1, e2⟩ := hV.end
                  have e3 := hV.qlen
                  have e4 := idx_len ls x ls.length
                  have e5 := cnt_drop hlx (left_del G x) (fun y hy => left_del_ne G hy) (l := belowI k) ((belowI_sorted k).imp fun h e => by omega)
                  rw [if_pos (mem_belowI.2 (hU.dom x hlx))] at e5
                  clear hV
                  repeat' first|(refine wo ?_; first|(refine ao ?_; first|refine aw ?_|refine aw6 ?_|refine oa ?_|refine adiv ?_|refine amod ?_|refine shr1 ?_|refine shr ?_|refine umod ?_|refine isl ?_|refine ipe ?_|refine ipn ?_|refine ibe ?_)|refine acw ?_|refine ucv ?_|refine anw ?_|refine oa ?_|refine ld ?_|refine ldl ?_|refine lnm ?_|refine ixmn ?_|refine ixm ?_|refine li ?_|refine lv ?_|refine ln ?_|refine ixn ?_|refine ix ?_|refine le ?_|refine sr ?_|refine soi ?_|refine scm ?_|refine sclm ?_|refine schm ?_|refine gy ?_|refine gn ?_|refine gnn ?_|refine gu ?_|(refine gsi (fun hB => ?_) (fun hB => ?_) <;> try (exfalso; omega))|(refine gsn (fun hB => ?_) (fun hB => ?_) <;> try (exfalso; omega))|(refine gs (fun hB => ?_) (fun hB => ?_) <;> try (exfalso; omega)))|(refine gc ?_; first|refine ct ?_|refine cf ?_|(refine ci (fun hB => ?_) (fun hB => ?_) <;> try (exfalso; omega))|(refine cn (fun hB => ?_) (fun hB => ?_) <;> try (exfalso; omega))|(refine cb (fun hB => ?_) (fun hB => ?_) <;> try (exfalso; omega)))|refine sq ?_|refine rg ?_|refine xc ?_|refine nl ?_|refine sk ?_|refine bk ?_|refine xe ?_|refine rt ?_|refine xb ?_
                  refine lp ⟨setK G x none, many, q, qv⟩ ⟨e1, e2⟩ (hlt := by dsimp only; rw [e5, Nat.add_mul, Nat.one_mul]; simp only [List.length_cons]; omega)
end Go.Art
