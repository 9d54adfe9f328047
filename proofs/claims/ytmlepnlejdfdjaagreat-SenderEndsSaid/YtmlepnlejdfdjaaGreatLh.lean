/- Texts put together: Cu Sy Tu Ch Wd Ev Fz Sa Sc Tk. Conditions: none. -/
import Derived.Test.YtmlepnlejdfdjaaGreatLg
set_option linter.unusedSimpArgs false
set_option linter.unusedVariables false
namespace Go.Art
open Go Go.Proofs Go.RowKit
attribute [local irreducible] Fit pt own ro vw mpc lpt vels rels mow lrc dfr
attribute [local irreducible] lmp lme mit velg relg
theorem chP_nil {m : List Int} {S j : Nat} (h : m.length ≤ j * S) : chP m S j = padL [] S := by unfold chP; rw [List.drop_eq_nil_of_le h, List.take_nil]
structure CuG where
  j : Nat
  o : Value
  hs : List Value
abbrev TBB : TypeId := 40
theorem Cut_tr (b : Value) (m : List Int) (k S : Nat) (hk : 1 ≤ k ∧ k ≤ 65536) (hS : 1 ≤ S ∧ S ≤ 65535) (hm : (m.length : Int) ≤ (k : Int) * (S : Int)) : Tr Tryz.prog 64 [b, I k, I S] [vw b (By m)] []
    fun v D => ∃ o hs, v = tup2 o (I 0) ∧ o.oneCell' = true ∧ hs.length = k ∧ D = [own TyV o hs, relg y8 hs (chL m S k)] := by
  have hml := By_len m
  have hp : 0 ≤ (k : Int) * (S : Int) ∧ (k : Int) * (S : Int) ≤ 4294901760 := by
    constructor
    · exact Int.mul_nonneg (by omega) (by omega)
    · have : k * S ≤ 65536 * 65535 := Nat.mul_le_mul hk.2 hS.2
      rw [← Int.natCast_mul]; omega
  have hmn : m.length ≤ k * S := by rw [← Int.natCast_mul] at hm; omega
  refine Tr.enterM env _ Tryz.func64 (by kernel_rfl) rfl Tryz.ntmps64 rfl (by (repeat (first | exact has00 | refine has01 ?_)); first | done | fail) fun w0 => ?_
  refine TC.one (v := b) (xs := By m) fun h1b => ?_
  repeat' first|(refine gca ?_; first|(refine ca (may_tr _ _) ?_; rintro _ _ ⟨rfl, rfl⟩; rw [decide_eq_true (show (1 ≤ (k : Int) ∧ (k : Int) ≤ 65536) ∧ 1 ≤ (S : Int) ∧ (S : Int) ≤ 65535 by omega)])|(refine ca (Chunk_tr b S (by omega) h1b) ?_; rintro _ _ ⟨c1, c2, rfl, rfl⟩))|refine bdz ?_|refine al fun p => ?_|refine srz ?_|refine lda ?_|refine ln (xs := By m) ?_|(refine wo ?_; first|(refine ao ?_; first|refine aw ?_|refine oa ?_)|refine oa ?_)|(refine gc ?_; first|refine cf ?_|(refine ci (fun hB => ?_) (fun hB => ?_) <;> try (exfalso; omega)))|refine sq ?_|refine rg ?_|refine xc ?_|refine nl ?_|refine sk ?_|refine bk ?_|refine xb ?_
  rename_i p8
  refine TC.im (B := [pt c1 [b] TB, pt c2 [I S] 3, pt p [nS] TBB, pt p8 [I k, I S] TSz, vw b (By m)]) (Im.refl _) ?_
  refine TC.im (relg_nil (g := y8) _) ?_
  refine TC.im (own_nil TyV _) ?_
  refine TC.range [lpt c1 [b] TB, lpt c2 [I S] 3, vw b (By m)] [pt p8 [I k, I S] TSz, pt p [nS] TBB, own TyV nS [], relg y8 [] (chL m S 0)]
    (fun l rec Dm pend B' => pend = none ∧ ∃ j o hs, m.length ≤ j * S ∧ j ≤ k ∧ hs.length = j ∧ o.oneCell' = true ∧ B' = [dfr Dm, pt p8 [I k, I S] TSz, pt p [o] TBB, own TyV o hs, relg y8 hs (chL m S j)]) ?_ ?_
  · intro rec l Dm hrec
    refine (Chunk1_tr l Dm c1 c2 p8 p k S rec b m hS (by omega) ?_).mono ?_
    · intro j o hs h hhl ho hj
      have hjk : j < k := Nat.lt_of_mul_lt_mul_right (Nat.lt_of_lt_of_le hj hmn)
      refine Ty.intro env hrec (by (repeat (first | exact has00 | refine has01 ?_)); first | done | fail) fun w1 => ?_
      repeat' first|refine xbeg ?_|(refine wo ?_; first|refine oa ?_)|refine rg ?_|refine nl ?_|refine bk ?_
      refine rs (fun _ => True) ?_ (fun _ _ => trivial)
      refine t3 0 1 2 ?_ ?_ ?_
      · refine ld ?_
        refine nl ?_
        refine te (fun _ _ => trivial) ?_
        refine t2 1 2 ?_ ?_
        · refine lda (cs := [I k, I S]) (vs := [I k, I S]) ?_
          refine nl ?_
          refine te (fun _ _ => trivial) ?_
          refine t1 2 ?_
          refine oa ?_
          refine nl ?_
          refine te (fun _ _ => trivial) ?_
          refine t1 3 ?_
          refine ca (padded_tr h ((m.drop (j * S)).take S) k S (by rw [List.length_take]; omega) (by omega)) ?_
          rintro c _ ⟨hc1, rfl⟩
          refine nl ?_
          refine te (fun _ _ => trivial) ?_
          refine t1 4 ?_
          refine sli (vs := [c]) (fun v1 => ?_) (h1 := one_cons hc1 one_nil)
          refine nl ?_
          refine te (fun _ _ => trivial) ?_
          refine t1 5 ?_
          refine ap (xs := hs) (news := [c]) (fun o2 => ?_) (h1 := one_cons hc1 one_nil)
          refine TO.one (v := o2) (xs := hs ++ [c]) fun ho2 => ?_
          refine nl ?_
          refine te (fun _ _ => trivial) ?_
          refine t1 6 ?_
          refine sr ?_
          refine nl ?_
          refine te (fun _ _ => trivial) ?_
          refine t0 ?_
          refine TX.im (snoc_own (g := y8) (e := TyB) (hs := hs) (ls := chL m S j) (v := c) (l := chP m S j) (by rw [hhl, chL_len]) (by first | apply Fit.all | ((repeat (first | (apply Fit.nilN; (repeat (first | apply nrm_nil | apply nrm_cons)); try apply nrm_rfl) | (apply Fit.cons; focus ((repeat (first | apply Tk.here | apply Tk.there)); first | done | fail)))); first | done | fail))) ?_
          rw [← chL_succ]
          repeat' first|refine xb ?_
          exact yn ⟨rfl, o2, hs ++ [c], by simp [hhl], ho2, rfl⟩
        · refine oa ?_
          refine nl ?_
          refine te (fun _ _ => trivial) ?_
          refine t1 1 ?_
          refine lda (cs := [I k, I S]) (vs := [I k, I S]) ?_
          refine nl ?_
          refine te (fun _ _ => trivial) ?_
          refine t1 3 ?_
          refine ca (padded_tr h ((m.drop (j * S)).take S) k S (by rw [List.length_take]; omega) (by omega)) ?_
          rintro c _ ⟨hc1, rfl⟩
          refine nl ?_
          refine te (fun _ _ => trivial) ?_
          refine t1 4 ?_
          refine sli (vs := [c]) (fun v1 => ?_) (h1 := one_cons hc1 one_nil)
          refine nl ?_
          refine te (fun _ _ => trivial) ?_
          refine t1 5 ?_
          refine ap (xs := hs) (news := [c]) (fun o2 => ?_) (h1 := one_cons hc1 one_nil)
          refine TO.one (v := o2) (xs := hs ++ [c]) fun ho2 => ?_
          refine nl ?_
          refine te (fun _ _ => trivial) ?_
          refine t1 6 ?_
          refine sr ?_
          refine nl ?_
          refine te (fun _ _ => trivial) ?_
          refine t0 ?_
          refine TX.im (snoc_own (g := y8) (e := TyB) (hs := hs) (ls := chL m S j) (v := c) (l := chP m S j) (by rw [hhl, chL_len]) (by first | apply Fit.all | ((repeat (first | (apply Fit.nilN; (repeat (first | apply nrm_nil | apply nrm_cons)); try apply nrm_rfl) | (apply Fit.cons; focus ((repeat (first | apply Tk.here | apply Tk.there)); first | done | fail)))); first | done | fail))) ?_
          rw [← chL_succ]
          repeat' first|refine xb ?_
          exact yn ⟨rfl, o2, hs ++ [c], by simp [hhl], ho2, rfl⟩
      · refine lda (cs := [I k, I S]) (vs := [I k, I S]) ?_
        refine nl ?_
        refine te (fun _ _ => trivial) ?_
        refine t2 0 2 ?_ ?_
        · refine ld ?_
          refine nl ?_
          refine te (fun _ _ => trivial) ?_
          refine t1 2 ?_
          refine oa ?_
          refine nl ?_
          refine te (fun _ _ => trivial) ?_
          refine t1 3 ?_
          refine ca (padded_tr h ((m.drop (j * S)).take S) k S (by rw [List.length_take]; omega) (by omega)) ?_
          rintro c _ ⟨hc1, rfl⟩
          refine nl ?_
          refine te (fun _ _ => trivial) ?_
          refine t1 4 ?_
          refine sli (vs := [c]) (fun v1 => ?_) (h1 := one_cons hc1 one_nil)
          refine nl ?_
          refine te (fun _ _ => trivial) ?_
          refine t1 5 ?_
          refine ap (xs := hs) (news := [c]) (fun o2 => ?_) (h1 := one_cons hc1 one_nil)
          refine TO.one (v := o2) (xs := hs ++ [c]) fun ho2 => ?_
          refine nl ?_
          refine te (fun _ _ => trivial) ?_
          refine t1 6 ?_
          refine sr ?_
          refine nl ?_
          refine te (fun _ _ => trivial) ?_
          refine t0 ?_
          refine TX.im (snoc_own (g := y8) (e := TyB) (hs := hs) (ls := chL m S j) (v := c) (l := chP m S j) (by rw [hhl, chL_len]) (by first | apply Fit.all | ((repeat (first | (apply Fit.nilN; (repeat (first | apply nrm_nil | apply nrm_cons)); try apply nrm_rfl) | (apply Fit.cons; focus ((repeat (first | apply Tk.here | apply Tk.there)); first | done | fail)))); first | done | fail))) ?_
          rw [← chL_succ]
          repeat' first|refine xb ?_
          exact yn ⟨rfl, o2, hs ++ [c], by simp [hhl], ho2, rfl⟩
        · refine oa ?_
          refine nl ?_
          refine te (fun _ _ => trivial) ?_
          refine t2 0 3 ?_ ?_
          · refine ld ?_
            refine nl ?_
            refine te (fun _ _ => trivial) ?_
            refine t1 3 ?_
            refine ca (padded_tr h ((m.drop (j * S)).take S) k S (by rw [List.length_take]; omega) (by omega)) ?_
            rintro c _ ⟨hc1, rfl⟩
            refine nl ?_
            refine te (fun _ _ => trivial) ?_
            refine t1 4 ?_
            refine sli (vs := [c]) (fun v1 => ?_) (h1 := one_cons hc1 one_nil)
            refine nl ?_
            refine te (fun _ _ => trivial) ?_
            refine t1 5 ?_
            refine ap (xs := hs) (news := [c]) (fun o2 => ?_) (h1 := one_cons hc1 one_nil)
            refine TO.one (v := o2) (xs := hs ++ [c]) fun ho2 => ?_
            refine nl ?_
            refine te (fun _ _ => trivial) ?_
            refine t1 6 ?_
            refine sr ?_
            refine nl ?_
            refine te (fun _ _ => trivial) ?_
            refine t0 ?_
            refine TX.im (snoc_own (g := y8) (e := TyB) (hs := hs) (ls := chL m S j) (v := c) (l := chP m S j) (by rw [hhl, chL_len]) (by first | apply Fit.all | ((repeat (first | (apply Fit.nilN; (repeat (first | apply nrm_nil | apply nrm_cons)); try apply nrm_rfl) | (apply Fit.cons; focus ((repeat (first | apply Tk.here | apply Tk.there)); first | done | fail)))); first | done | fail))) ?_
            rw [← chL_succ]
            repeat' first|refine xb ?_
            exact yn ⟨rfl, o2, hs ++ [c], by simp [hhl], ho2, rfl⟩
          · refine ca (padded_tr h ((m.drop (j * S)).take S) k S (by rw [List.length_take]; omega) (by omega)) ?_
            rintro c _ ⟨hc1, rfl⟩
            refine nl ?_
            refine te (fun _ _ => trivial) ?_
            refine t2 0 4 ?_ ?_
            · refine ld ?_
              refine nl ?_
              refine te (fun _ _ => trivial) ?_
              refine t1 4 ?_
              refine sli (vs := [c]) (fun v1 => ?_) (h1 := one_cons hc1 one_nil)
              refine nl ?_
              refine te (fun _ _ => trivial) ?_
              refine t1 5 ?_
              refine ap (xs := hs) (news := [c]) (fun o2 => ?_) (h1 := one_cons hc1 one_nil)
              refine TO.one (v := o2) (xs := hs ++ [c]) fun ho2 => ?_
              refine nl ?_
              refine te (fun _ _ => trivial) ?_
              refine t1 6 ?_
              refine sr ?_
              refine nl ?_
              refine te (fun _ _ => trivial) ?_
              refine t0 ?_
              refine TX.im (snoc_own (g := y8) (e := TyB) (hs := hs) (ls := chL m S j) (v := c) (l := chP m S j) (by rw [hhl, chL_len]) (by first | apply Fit.all | ((repeat (first | (apply Fit.nilN; (repeat (first | apply nrm_nil | apply nrm_cons)); try apply nrm_rfl) | (apply Fit.cons; focus ((repeat (first | apply Tk.here | apply Tk.there)); first | done | fail)))); first | done | fail))) ?_
              rw [← chL_succ]
              repeat' first|refine xb ?_
              exact yn ⟨rfl, o2, hs ++ [c], by simp [hhl], ho2, rfl⟩
            · refine sli (vs := [c]) (fun v1 => ?_) (h1 := one_cons hc1 one_nil)
              refine nl ?_
              refine te (fun _ _ => trivial) ?_
              refine t1 0 ?_
              refine ld ?_
              refine nl ?_
              refine te (fun _ _ => trivial) ?_
              refine t1 5 ?_
              refine ap (xs := hs) (news := [c]) (fun o2 => ?_) (h1 := one_cons hc1 one_nil)
              refine TO.one (v := o2) (xs := hs ++ [c]) fun ho2 => ?_
              refine nl ?_
              refine te (fun _ _ => trivial) ?_
              refine t1 6 ?_
              refine sr ?_
              refine nl ?_
              refine te (fun _ _ => trivial) ?_
              refine t0 ?_
              refine TX.im (snoc_own (g := y8) (e := TyB) (hs := hs) (ls := chL m S j) (v := c) (l := chP m S j) (by rw [hhl, chL_len]) (by first | apply Fit.all | ((repeat (first | (apply Fit.nilN; (repeat (first | apply nrm_nil | apply nrm_cons)); try apply nrm_rfl) | (apply Fit.cons; focus ((repeat (first | apply Tk.here | apply Tk.there)); first | done | fail)))); first | done | fail))) ?_
              rw [← chL_succ]
              repeat' first|refine xb ?_
              exact yn ⟨rfl, o2, hs ++ [c], by simp [hhl], ho2, rfl⟩
      · refine oa ?_
        refine nl ?_
        refine te (fun _ _ => trivial) ?_
        refine t2 0 1 ?_ ?_
        · refine ld ?_
          refine nl ?_
          refine te (fun _ _ => trivial) ?_
          refine t1 1 ?_
          refine lda (cs := [I k, I S]) (vs := [I k, I S]) ?_
          refine nl ?_
          refine te (fun _ _ => trivial) ?_
          refine t1 3 ?_
          refine ca (padded_tr h ((m.drop (j * S)).take S) k S (by rw [List.length_take]; omega) (by omega)) ?_
          rintro c _ ⟨hc1, rfl⟩
          refine nl ?_
          refine te (fun _ _ => trivial) ?_
          refine t1 4 ?_
          refine sli (vs := [c]) (fun v1 => ?_) (h1 := one_cons hc1 one_nil)
          refine nl ?_
          refine te (fun _ _ => trivial) ?_
          refine t1 5 ?_
          refine ap (xs := hs) (news := [c]) (fun o2 => ?_) (h1 := one_cons hc1 one_nil)
          refine TO.one (v := o2) (xs := hs ++ [c]) fun ho2 => ?_
          refine nl ?_
          refine te (fun _ _ => trivial) ?_
          refine t1 6 ?_
          refine sr ?_
          refine nl ?_
          refine te (fun _ _ => trivial) ?_
          refine t0 ?_
          refine TX.im (snoc_own (g := y8) (e := TyB) (hs := hs) (ls := chL m S j) (v := c) (l := chP m S j) (by rw [hhl, chL_len]) (by first | apply Fit.all | ((repeat (first | (apply Fit.nilN; (repeat (first | apply nrm_nil | apply nrm_cons)); try apply nrm_rfl) | (apply Fit.cons; focus ((repeat (first | apply Tk.here | apply Tk.there)); first | done | fail)))); first | done | fail))) ?_
          rw [← chL_succ]
          repeat' first|refine xb ?_
          exact yn ⟨rfl, o2, hs ++ [c], by simp [hhl], ho2, rfl⟩
        · refine lda (cs := [I k, I S]) (vs := [I k, I S]) ?_
          refine nl ?_
          refine te (fun _ _ => trivial) ?_
          refine t2 0 3 ?_ ?_
          · refine ld ?_
            refine nl ?_
            refine te (fun _ _ => trivial) ?_
            refine t1 3 ?_
            refine ca (padded_tr h ((m.drop (j * S)).take S) k S (by rw [List.length_take]; omega) (by omega)) ?_
            rintro c _ ⟨hc1, rfl⟩
            refine nl ?_
            refine te (fun _ _ => trivial) ?_
            refine t1 4 ?_
            refine sli (vs := [c]) (fun v1 => ?_) (h1 := one_cons hc1 one_nil)
            refine nl ?_
            refine te (fun _ _ => trivial) ?_
            refine t1 5 ?_
            refine ap (xs := hs) (news := [c]) (fun o2 => ?_) (h1 := one_cons hc1 one_nil)
            refine TO.one (v := o2) (xs := hs ++ [c]) fun ho2 => ?_
            refine nl ?_
            refine te (fun _ _ => trivial) ?_
            refine t1 6 ?_
            refine sr ?_
            refine nl ?_
            refine te (fun _ _ => trivial) ?_
            refine t0 ?_
            refine TX.im (snoc_own (g := y8) (e := TyB) (hs := hs) (ls := chL m S j) (v := c) (l := chP m S j) (by rw [hhl, chL_len]) (by first | apply Fit.all | ((repeat (first | (apply Fit.nilN; (repeat (first | apply nrm_nil | apply nrm_cons)); try apply nrm_rfl) | (apply Fit.cons; focus ((repeat (first | apply Tk.here | apply Tk.there)); first | done | fail)))); first | done | fail))) ?_
            rw [← chL_succ]
            repeat' first|refine xb ?_
            exact yn ⟨rfl, o2, hs ++ [c], by simp [hhl], ho2, rfl⟩
          · refine ca (padded_tr h ((m.drop (j * S)).take S) k S (by rw [List.length_take]; omega) (by omega)) ?_
            rintro c _ ⟨hc1, rfl⟩
            refine nl ?_
            refine te (fun _ _ => trivial) ?_
            refine t2 0 4 ?_ ?_
            · refine ld ?_
              refine nl ?_
              refine te (fun _ _ => trivial) ?_
              refine t1 4 ?_
              refine sli (vs := [c]) (fun v1 => ?_) (h1 := one_cons hc1 one_nil)
              refine nl ?_
              refine te (fun _ _ => trivial) ?_
              refine t1 5 ?_
              refine ap (xs := hs) (news := [c]) (fun o2 => ?_) (h1 := one_cons hc1 one_nil)
              refine TO.one (v := o2) (xs := hs ++ [c]) fun ho2 => ?_
              refine nl ?_
              refine te (fun _ _ => trivial) ?_
              refine t1 6 ?_
              refine sr ?_
              refine nl ?_
              refine te (fun _ _ => trivial) ?_
              refine t0 ?_
              refine TX.im (snoc_own (g := y8) (e := TyB) (hs := hs) (ls := chL m S j) (v := c) (l := chP m S j) (by rw [hhl, chL_len]) (by first | apply Fit.all | ((repeat (first | (apply Fit.nilN; (repeat (first | apply nrm_nil | apply nrm_cons)); try apply nrm_rfl) | (apply Fit.cons; focus ((repeat (first | apply Tk.here | apply Tk.there)); first | done | fail)))); first | done | fail))) ?_
              rw [← chL_succ]
              repeat' first|refine xb ?_
              exact yn ⟨rfl, o2, hs ++ [c], by simp [hhl], ho2, rfl⟩
            · refine sli (vs := [c]) (fun v1 => ?_) (h1 := one_cons hc1 one_nil)
              refine nl ?_
              refine te (fun _ _ => trivial) ?_
              refine t1 0 ?_
              refine ld ?_
              refine nl ?_
              refine te (fun _ _ => trivial) ?_
              refine t1 5 ?_
              refine ap (xs := hs) (news := [c]) (fun o2 => ?_) (h1 := one_cons hc1 one_nil)
              refine TO.one (v := o2) (xs := hs ++ [c]) fun ho2 => ?_
              refine nl ?_
              refine te (fun _ _ => trivial) ?_
              refine t1 6 ?_
              refine sr ?_
              refine nl ?_
              refine te (fun _ _ => trivial) ?_
              refine t0 ?_
              refine TX.im (snoc_own (g := y8) (e := TyB) (hs := hs) (ls := chL m S j) (v := c) (l := chP m S j) (by rw [hhl, chL_len]) (by first | apply Fit.all | ((repeat (first | (apply Fit.nilN; (repeat (first | apply nrm_nil | apply nrm_cons)); try apply nrm_rfl) | (apply Fit.cons; focus ((repeat (first | apply Tk.here | apply Tk.there)); first | done | fail)))); first | done | fail))) ?_
              rw [← chL_succ]
              repeat' first|refine xb ?_
              exact yn ⟨rfl, o2, hs ++ [c], by simp [hhl], ho2, rfl⟩
    · rintro v B ⟨j, o, hs, g1, g2, g3, g4, rfl⟩
      refine ⟨.ready, none, _, rfl, by decide, rfl, j, o, hs, g1, ?_, g3, g4, rfl⟩
      rcases g2 with rfl | g2
      · omega
      · have := Nat.lt_of_mul_lt_mul_right (Nat.lt_of_lt_of_le g2 hmn)
        omega
  · rintro l rec Dm pend B' ⟨rfl, j, o, hs, g1, g2, g3, g4, rfl⟩
    show TX env _ _ _ _ _ _
    repeat' first|refine sq ?_|refine xc ?_|refine bk ?_|refine xb ?_
    refine TC.loop (ι := CuG) (fun _ => []) (fun g => [pt p [g.o] TBB, own TyV g.o g.hs, relg y8 g.hs (chL m S g.j)]) (fun g => (g.j ≤ k ∧ m.length ≤ g.j * S) ∧ g.hs.length = g.j ∧ g.o.oneCell' = true) (fun g => k - g.j) ⟨j, o, hs⟩ [0, 1, 2, 6, 7, 8, 9] ⟨⟨g2, g1⟩, g3, g4⟩ ?_ (hf := by dsimp only; first | apply Fit.all | ((repeat (first | (apply Fit.nilN; (repeat (first | apply nrm_nil | apply nrm_cons)); try apply nrm_rfl) | (apply Fit.cons; focus ((repeat (first | apply Tk.here | apply Tk.there)); first | done | fail)))); first | done | fail))
    clear g1 g2 g3 g4 o hs j
    rintro ⟨j, o, hs⟩ ⟨⟨g1, g0⟩, hhl, ho⟩
    dsimp only at g1 g0 hhl ho ⊢
    have hpz := chP_nil g0
    have g9 : m.length ≤ (j + 1) * S := Nat.le_trans g0 (Nat.mul_le_mul_right _ (by omega))
    by_cases hi : j < k
    · repeat' first|refine ln (xs := hs) ?_|(refine wo ?_; first|(refine ao ?_; first|refine oa ?_)|refine oa ?_|refine ld ?_)|(refine gc ?_; first|(refine ci (fun hB => ?_) (fun hB => ?_) <;> try (exfalso; omega)))|refine sq ?_|refine rg ?_|refine xc ?_|refine nl ?_|refine sk ?_|refine bk ?_
      refine rs (fun w => w.heap[p8]? = some (.cells [I k, I S].toArray TSz (0, 0))) ?_ (fun w hw => pt_at (by (repeat (first | apply List.Mem.head | apply List.Mem.tail)); first | done | fail) hw)
      refine tk 1 (v := .agg #[I k, I S]) (hi := rfl) (fun w h => by exact R_loadA (E := env) (cs := [I k, I S]) (vs := [I k, I S]) rfl rfl rfl rfl h rfl rfl) ?_
      refine t2 0 2 ?_ ?_
      · refine ld ?_
        refine nl ?_
        refine te (fun w hw => pt_at (by (repeat (first | apply List.Mem.head | apply List.Mem.tail)); first | done | fail) hw) ?_
        refine t1 2 ?_
        refine ca (padded_tr nS [] k S (by simp) (by omega)) ?_
        rintro c _ ⟨hc1, rfl⟩
        refine nl ?_
        refine te (fun w hw => pt_at (by (repeat (first | apply List.Mem.head | apply List.Mem.tail)); first | done | fail) hw) ?_
        refine t1 3 ?_
        refine sli (vs := [c]) (fun v1 => ?_) (h1 := one_cons hc1 one_nil)
        refine nl ?_
        refine te (fun w hw => pt_at (by (repeat (first | apply List.Mem.head | apply List.Mem.tail)); first | done | fail) hw) ?_
        refine t1 4 ?_
        refine ap (xs := hs) (news := [c]) (fun o2 => ?_) (h1 := one_cons hc1 one_nil)
        refine TO.one (v := o2) (xs := hs ++ [c]) fun ho2 => ?_
        refine nl ?_
        refine te (fun w hw => pt_at (by (repeat (first | apply List.Mem.head | apply List.Mem.tail)); first | done | fail) hw) ?_
        refine t1 5 ?_
        refine sr ?_
        refine nl ?_
        refine te (fun w hw => pt_at (by (repeat (first | apply List.Mem.head | apply List.Mem.tail)); first | done | fail) hw) ?_
        refine t0 ?_
        refine TX.im (snoc_own (g := y8) (e := TyB) (hs := hs) (ls := chL m S j) (v := c) (l := chP m S j) (by rw [hhl, chL_len]) (by rw [hpz]; first | apply Fit.all | ((repeat (first | (apply Fit.nilN; (repeat (first | apply nrm_nil | apply nrm_cons)); try apply nrm_rfl) | (apply Fit.cons; focus ((repeat (first | apply Tk.here | apply Tk.there)); first | done | fail)))); first | done | fail))) ?_
        rw [← chL_succ]
        repeat' first|refine xb ?_
        exact lp ⟨j + 1, o2, hs ++ [c]⟩ ⟨⟨by dsimp only; omega, g9⟩, by dsimp only; simp [hhl], ho2⟩ (by dsimp only; omega) (hs := by (repeat (refine Sub.cons rfl (by first | rfl | go_num) ?_)); exact Sub.nil) (hf := by dsimp only; first | apply Fit.all | ((repeat (first | (apply Fit.nilN; (repeat (first | apply nrm_nil | apply nrm_cons)); try apply nrm_rfl) | (apply Fit.cons; focus ((repeat (first | apply Tk.here | apply Tk.there)); first | done | fail)))); first | done | fail))
      · refine ca (padded_tr nS [] k S (by simp) (by omega)) ?_
        rintro c _ ⟨hc1, rfl⟩
        refine nl ?_
        refine te (fun w hw => pt_at (by (repeat (first | apply List.Mem.head | apply List.Mem.tail)); first | done | fail) hw) ?_
        refine t2 0 3 ?_ ?_
        · refine ld ?_
          refine nl ?_
          refine te (fun w hw => pt_at (by (repeat (first | apply List.Mem.head | apply List.Mem.tail)); first | done | fail) hw) ?_
          refine t1 3 ?_
          refine sli (vs := [c]) (fun v1 => ?_) (h1 := one_cons hc1 one_nil)
          refine nl ?_
          refine te (fun w hw => pt_at (by (repeat (first | apply List.Mem.head | apply List.Mem.tail)); first | done | fail) hw) ?_
          refine t1 4 ?_
          refine ap (xs := hs) (news := [c]) (fun o2 => ?_) (h1 := one_cons hc1 one_nil)
          refine TO.one (v := o2) (xs := hs ++ [c]) fun ho2 => ?_
          refine nl ?_
          refine te (fun w hw => pt_at (by (repeat (first | apply List.Mem.head | apply List.Mem.tail)); first | done | fail) hw) ?_
          refine t1 5 ?_
          refine sr ?_
          refine nl ?_
          refine te (fun w hw => pt_at (by (repeat (first | apply List.Mem.head | apply List.Mem.tail)); first | done | fail) hw) ?_
          refine t0 ?_
          refine TX.im (snoc_own (g := y8) (e := TyB) (hs := hs) (ls := chL m S j) (v := c) (l := chP m S j) (by rw [hhl, chL_len]) (by rw [hpz]; first | apply Fit.all | ((repeat (first | (apply Fit.nilN; (repeat (first | apply nrm_nil | apply nrm_cons)); try apply nrm_rfl) | (apply Fit.cons; focus ((repeat (first | apply Tk.here | apply Tk.there)); first | done | fail)))); first | done | fail))) ?_
          rw [← chL_succ]
          repeat' first|refine xb ?_
          exact lp ⟨j + 1, o2, hs ++ [c]⟩ ⟨⟨by dsimp only; omega, g9⟩, by dsimp only; simp [hhl], ho2⟩ (by dsimp only; omega) (hs := by (repeat (refine Sub.cons rfl (by first | rfl | go_num) ?_)); exact Sub.nil) (hf := by dsimp only; first | apply Fit.all | ((repeat (first | (apply Fit.nilN; (repeat (first | apply nrm_nil | apply nrm_cons)); try apply nrm_rfl) | (apply Fit.cons; focus ((repeat (first | apply Tk.here | apply Tk.there)); first | done | fail)))); first | done | fail))
        · refine sli (vs := [c]) (fun v1 => ?_) (h1 := one_cons hc1 one_nil)
          refine nl ?_
          refine te (fun w hw => pt_at (by (repeat (first | apply List.Mem.head | apply List.Mem.tail)); first | done | fail) hw) ?_
          refine t1 0 ?_
          refine ld ?_
          refine nl ?_
          refine te (fun w hw => pt_at (by (repeat (first | apply List.Mem.head | apply List.Mem.tail)); first | done | fail) hw) ?_
          refine t1 4 ?_
          refine ap (xs := hs) (news := [c]) (fun o2 => ?_) (h1 := one_cons hc1 one_nil)
          refine TO.one (v := o2) (xs := hs ++ [c]) fun ho2 => ?_
          refine nl ?_
          refine te (fun w hw => pt_at (by (repeat (first | apply List.Mem.head | apply List.Mem.tail)); first | done | fail) hw) ?_
          refine t1 5 ?_
          refine sr ?_
          refine nl ?_
          refine te (fun w hw => pt_at (by (repeat (first | apply List.Mem.head | apply List.Mem.tail)); first | done | fail) hw) ?_
          refine t0 ?_
          refine TX.im (snoc_own (g := y8) (e := TyB) (hs := hs) (ls := chL m S j) (v := c) (l := chP m S j) (by rw [hhl, chL_len]) (by rw [hpz]; first | apply Fit.all | ((repeat (first | (apply Fit.nilN; (repeat (first | apply nrm_nil | apply nrm_cons)); try apply nrm_rfl) | (apply Fit.cons; focus ((repeat (first | apply Tk.here | apply Tk.there)); first | done | fail)))); first | done | fail))) ?_
          rw [← chL_succ]
          repeat' first|refine xb ?_
          exact lp ⟨j + 1, o2, hs ++ [c]⟩ ⟨⟨by dsimp only; omega, g9⟩, by dsimp only; simp [hhl], ho2⟩ (by dsimp only; omega) (hs := by (repeat (refine Sub.cons rfl (by first | rfl | go_num) ?_)); exact Sub.nil) (hf := by dsimp only; first | apply Fit.all | ((repeat (first | (apply Fit.nilN; (repeat (first | apply nrm_nil | apply nrm_cons)); try apply nrm_rfl) | (apply Fit.cons; focus ((repeat (first | apply Tk.here | apply Tk.there)); first | done | fail)))); first | done | fail))
    · obtain rfl : j = k := by omega
      repeat' first|refine ln (xs := hs) ?_|(refine wo ?_; first|(refine ao ?_; first|refine oa ?_)|refine oa ?_|refine ld ?_)|(refine gc ?_; first|(refine ci (fun hB => ?_) (fun hB => ?_) <;> try (exfalso; omega)))|refine sq ?_|refine rg ?_|refine xc ?_|refine nl ?_|refine xe ?_|refine rt ?_
      exact m2 ⟨o, hs, rfl, ho, hhl, rfl⟩
end Go.Art
set_option linter.unusedSimpArgs false
set_option linter.unusedVariables false
namespace Go.Art
open Go Go.Proofs Go.RowKit
attribute [local irreducible] Fit pt own ro vw mpc lpt vels rels mow lrc dfr
attribute [local irreducible] lmp lme mit velg relg
/-- A block's bytes; its symbols. -/
def MfS.piece (m : MfS) (d : List Int) (n : Int) : List Int := (d.drop (n * m.full).toNat).take (minI m.full (m.size - n * m.full)).toNat
def MfS.syms (m : MfS) (d : List Int) (n : Int) : List (List Int) := chL (m.piece d n) m.sym.toNat m.k.toNat
theorem Symbols_tr (m : MfS) (tv dv : Value) (d : List Int) (n : Int) (hv : tv.oneCell' = true) (hok : m.ok) (hd : (d.length : Int) = m.size) (hn : 0 ≤ n ∧ n < m.blocks) :
    Tr Tryz.prog 31 [.agg #[I m.size, I m.sym, I m.k, I m.seed, tv], dv, I n] [vw tv (Is m.t), vw dv (By d)] []
      fun v D => ∃ o hs, v = tup2 o (I 0) ∧ o.oneCell' = true ∧ hs.length = m.k.toNat ∧ D = [own TyV o hs, relg y8 hs (m.syms d n)] := by
  have hC := MCheck_tr m tv hv
  have hP := Part_tr m tv n hv
  have hdl := By_len d
  have h0 : mfE m = 0 := if_pos hok
  have hpart : m.part n = ((n * m.full, minI m.full (m.size - n * m.full)), 0) := by rw [MfS.part, if_pos hok, if_pos (by omega)]
  rw [hpart] at hP
  rw [h0] at hC
  have hf := MfS.full_in hok
  have hbi := MfS.blocks_in hok
  have hfe : m.full = m.k * m.sym := rfl
  unfold MfS.syms MfS.piece
  have hF : 0 ≤ n * m.full ∧ n * m.full < m.size := by
    constructor
    · exact Int.mul_nonneg hn.1 (by omega)
    · have h2 : 0 < m.size := by
        rcases Int.lt_or_le 0 m.size with h | h
        · exact h
        · exfalso
          have : m.size = 0 := by have := hok.1; omega
          have hb : m.blocks = 0 := by
            rw [MfS.blocks, if_pos hok, this]
            exact Int.ediv_eq_zero_of_lt (by omega) (by omega)
          omega
      have h3 : n * m.full ≤ (m.blocks - 1) * m.full := Int.mul_le_mul_of_nonneg_right (by omega) (by omega)
      have := (hbi.2.2 h2).1
      omega
  generalize n * m.full = F at *
  have hmz := minI_le m.full (m.size - F)
  generalize minI m.full (m.size - F) = Z at *
  obtain ⟨g1, g2, g3, _⟩ := hok
  clear hpart hbi h0
  obtain ⟨size, sym, k, seed, t⟩ := m
  dsimp only at *
  obtain ⟨K, rfl⟩ : ∃ K : Nat, k = K := ⟨k.toNat, by omega⟩
  obtain ⟨S, rfl⟩ : ∃ S : Nat, sym = S := ⟨sym.toNat, by omega⟩
  rw [Int.toNat_natCast, Int.toNat_natCast]
  have hpc : ((By d).take (F + Z).toNat).drop F.toNat = By ((d.drop F.toNat).take Z.toNat) := by
    unfold By; rw [← List.map_take, ← List.map_drop, List.drop_take]; congr 2; omega
  refine Tr.enter env _ Tryz.func31 (by kernel_rfl) rfl Tryz.ntmps31 rfl (by repeat (first | exact has00 | refine has01 ?_)) fun w0 => ?_
  repeat' first|(refine gca ?_; first|(refine ca hC ?_; rintro _ _ ⟨rfl, rfl⟩)|(refine ca hP ?_; rintro _ _ ⟨rfl, rfl⟩))|refine bx fun p => ?_|refine lda ?_|refine ln (xs := By d) ?_|(refine wo ?_; first|(refine ao ?_; first|refine oa ?_)|refine oa ?_|refine ld ?_|refine gy ?_)|(refine gc ?_; first|refine cf ?_|(refine cn (fun hB => ?_) (fun hB => ?_) <;> try (exfalso; omega)))|refine sq ?_|refine rg ?_|refine xc ?_|refine nl ?_|refine sk ?_
  refine rs (fun w => w.heap[p]? = some (.cells [I size, I S, I K, I seed, tv].toArray TMf (0, 0))) ?_ (fun w hw => pt_at (by (repeat (first | apply List.Mem.head | apply List.Mem.tail)); first | done | fail) hw)
  refine tka 0 ?_
  refine tka 1 ?_
  refine tka 2 ?_
  refine tka 3 ?_
  refine tk 4 (v := I (F + Z)) (hi := rfl) (fun w h => by exact R_add64 rfl rfl (by omega)) ?_
  refine tka 6 ?_
  refine tkl 7 (cs := [I size, I S, I K, I seed, tv]) (fun w h => h) ?_
  refine tka 8 ?_
  refine tkl 9 (cs := [I size, I S, I K, I seed, tv]) (fun w h => h) ?_
  refine t1 5 ?_
  refine sc (xs := By d) ?_
  refine nl ?_
  refine te (fun w hw => pt_at (by (repeat (first | apply List.Mem.head | apply List.Mem.tail)); first | done | fail) hw) ?_
  refine t1 10 ?_
  refine ca (Cut_tr _ ((d.drop F.toNat).take Z.toNat) K S (by omega) (by omega) (by rw [List.length_take]; omega)) ?_ (hp := has1 (by rw [← hpc]; exact has_sub (by first | (apply has_vw; (repeat (first | apply List.Mem.head | apply List.Mem.tail)); first | done | fail) | (apply has_own; (repeat (first | apply List.Mem.head | apply List.Mem.tail)); first | done | fail) | (apply has_ro; (repeat (first | apply List.Mem.head | apply List.Mem.tail)); first | done | fail) | apply has_nil | ((with_reducible apply has_el); (focus (first | (apply has_vels; (repeat (first | apply List.Mem.head | apply List.Mem.tail)); first | done | fail) | (apply has_rels; (repeat (first | apply List.Mem.head | apply List.Mem.tail)); first | done | fail))); omega) | (apply has_pt; (repeat (first | apply List.Mem.head | apply List.Mem.tail)); first | done | fail) | (apply has_lpt; (repeat (first | apply List.Mem.head | apply List.Mem.tail)); first | done | fail) | (apply has_vels; (repeat (first | apply List.Mem.head | apply List.Mem.tail)); first | done | fail) | (apply has_rels; (repeat (first | apply List.Mem.head | apply List.Mem.tail)); first | done | fail) | with_reducible assumption | ((with_reducible apply has_elg); (focus (first | (apply has_velg; (repeat (first | apply List.Mem.head | apply List.Mem.tail)); first | done | fail) | (apply has_relg; (repeat (first | apply List.Mem.head | apply List.Mem.tail)); first | done | fail))); omega) | (apply has_velg; (repeat (first | apply List.Mem.head | apply List.Mem.tail)); first | done | fail) | (apply has_relg; (repeat (first | apply List.Mem.head | apply List.Mem.tail)); first | done | fail) | (apply has_vwf; (repeat (first | apply List.Mem.head | apply List.Mem.tail)); first | done | fail)) (by omega) (by omega)) has0)
  rintro _ _ ⟨o, hs, rfl, ho, hhl, rfl⟩
  refine nl ?_
  refine te (fun w hw => pt_at (by (repeat (first | apply List.Mem.head | apply List.Mem.tail)); first | done | fail) hw) ?_
  refine tka 11 ?_
  refine tka 12 ?_
  refine tka 13 ?_
  refine tka 14 ?_
  refine t0 ?_
  repeat' first|refine xc ?_|refine rt ?_
  exact r2 ⟨o, hs, rfl, ho, hhl, rfl⟩
end Go.Art
set_option linter.unusedSimpArgs false
set_option linter.unusedVariables false
namespace Go.Art
open Go Go.Proofs Go.RowKit
/-- A row of truth values. -/
abbrev Bo (l : List Bool) : List Value := l.map Value.bool
theorem Bo_len (l : List Bool) : (Bo l).length = l.length := List.length_map ..
theorem Bo_one (l : List Bool) : ∀ v ∈ Bo l, v.oneCell' = true := fun v hv => by obtain ⟨b, _, rfl⟩ := List.mem_map.1 hv; rfl
theorem Bo_get (l : List Bool) (j : Nat) (h : j < l.length) : (Bo l)[j]? = some (.bool (l.getD j false)) := by
  unfold Bo; rw [List.getElem?_map, List.getElem?_eq_getElem h, List.getD_eq_getElem?_getD, List.getElem?_eq_getElem h]; rfl
section
variable {P : Program} {E : Env P} {n : Sh} {X : Cx} {s : List K} {fr : Fr} {A A' : List Ch} {ops : Array Oper} {rest : List Oper} {d : Nat} {ty t el : TypeId} {pos : String} {after : Array Edge} {z v : Value} {x y : Operand} {by_ : Nat}
theorem lbo {l : List Bool} {j : Nat} {dt : TypeDesc} (k : TO E n X s ops rest ((d, .bool (l.getD j false)) :: fr) A) (hx : ev fr x = some (.pointer (some (addrAt v j))) := by rfl) (hh : Has A (vw v (Bo l)) := by first | (apply has_vw; (repeat (first | apply List.Mem.head | apply List.Mem.tail)); first | done | fail) | (apply has_own; (repeat (first | apply List.Mem.head | apply List.Mem.tail)); first | done | fail) | (apply has_ro; (repeat (first | apply List.Mem.head | apply List.Mem.tail)); first | done | fail) | apply has_nil | ((with_reducible apply has_el); (focus (first | (apply has_vels; (repeat (first | apply List.Mem.head | apply List.Mem.tail)); first | done | fail) | (apply has_rels; (repeat (first | apply List.Mem.head | apply List.Mem.tail)); first | done | fail))); omega) | (apply has_pt; (repeat (first | apply List.Mem.head | apply List.Mem.tail)); first | done | fail) | (apply has_lpt; (repeat (first | apply List.Mem.head | apply List.Mem.tail)); first | done | fail) | (apply has_vels; (repeat (first | apply List.Mem.head | apply List.Mem.tail)); first | done | fail) | (apply has_rels; (repeat (first | apply List.Mem.head | apply List.Mem.tail)); first | done | fail) | with_reducible assumption | ((with_reducible apply has_elg); (focus (first | (apply has_velg; (repeat (first | apply List.Mem.head | apply List.Mem.tail)); first | done | fail) | (apply has_relg; (repeat (first | apply List.Mem.head | apply List.Mem.tail)); first | done | fail))); omega) | (apply has_velg; (repeat (first | apply List.Mem.head | apply List.Mem.tail)); first | done | fail) | (apply has_relg; (repeat (first | apply List.Mem.head | apply List.Mem.tail)); first | done | fail) | (apply has_vwf; (repeat (first | apply List.Mem.head | apply List.Mem.tail)); first | done | fail)) (hj : j < l.length := by omega)
    (ht : lk E.und t = some dt := by rfl) (hg : aggB dt = false := by rfl) (hd : Nat.blt d n.n = true := by rfl) : TO E n X s ops (⟨some d, .load t x, ty, pos, after, none⟩ :: rest) fr A := le k hx hh (Bo_get l j hj) ht hg hd
end
theorem wpIn_scope {F : Fence} {n : Nat} {P : Program} {Q : Exit → Act → World → Prop} {a : Act} {w : World} {c : Code} (h : c.wpIn F n P (Exit.noGoto Q) a w) : (Code.scope c).wpIn F n P Q a w := by
  intro b k cs hro hb hr
  have h0 : (lone (b.atR a (.code (.scope c) :: k)) cs w).fenced P F := fenced_calm hb hr rfl
  have s1 : step P (lone (b.atR a (.code (.scope c) :: k)) cs w) = .next (lone (b.atR a (.code c :: .inScope c :: k)) cs w) := step_lone_go (by simp [stepG, stepG.exec, Frame.atR])
  have s2 : ∀ (a : Act) (w : World), step P (lone (b.atR a (.inScope c :: k)) cs w) = .next (lone (b.atR a k) cs w) := fun a w => step_lone_go (by simp [stepG, stepG.exec, Frame.atR])
  obtain ⟨e, a₁, w₁, hq, harr⟩ := h b (.inScope c :: k) cs hro hb hr
  have hx : ∀ id', exitTo id' (.inScope c :: k) = exitTo id' k := fun id' => by simp [exitTo]
  cases e with
  | normal => exact ⟨.normal, a₁, w₁, hq, .head h0 s1 (StepsIn.trans harr (.one (fenced_calm hb hr rfl) (s2 a₁ w₁)))⟩
  | exit id' =>
    exact ⟨.exit id', a₁, w₁, hq, fun k' hk => .head h0 s1 (harr.1 k' (by rw [hx]; exact hk)),
        fun hr' hk => let ⟨k₁, h1, h2⟩ := harr.2 hr' (by rw [hx]; exact hk); ⟨k₁, h1, .head h0 s1 h2⟩⟩
  | goto l => exact hq.elim
  | ret => exact ⟨_, a₁, w₁, hq, .of_steps (.one h0 s1) harr⟩
  | panic ch => exact ⟨_, a₁, w₁, hq, .of_steps (.one h0 s1) harr⟩
  | outgrown => exact ⟨_, a₁, w₁, hq, .of_steps (.one h0 s1) harr⟩
section
variable {P : Program} {E : Env P} {n : Sh} {X : Cx} {s : List K} {fr : Fr} {A : List Ch} {c : Code} {e : Exit}
theorem scp (h : TC E n ⟨Exit.noGoto (den P n.r X.Q s), X.w0, X.A0⟩ [] c fr A) : TC E n X s (.scope c) fr A :=
  ⟨fun w hw => ⟨fun a ha => wpIn_scope ((h.run w ⟨hw.sat, hw.mv⟩).run a ha)⟩⟩
theorem scx (he : ∀ Q a w, Exit.noGoto Q e a w = Q e a w) (h : TX E n X s e fr A) : TX E n ⟨Exit.noGoto (den P n.r X.Q s), X.w0, X.A0⟩ [] e fr A :=
  ⟨fun w hw => ⟨fun a ha => (he _ a w).mpr ((h.run w ⟨hw.sat, hw.mv⟩).run a ha)⟩⟩
theorem lbl {l : Nat} (h : TX E n X s .normal fr A) : TC E n X s (.label l) fr A := ⟨fun w hw => ⟨fun a ha => wpIn_label ((h.run w hw).run a ha)⟩⟩
end
/-- The place that is looked at in the i-th turn; which turn is met. -/
def turnA (n b i : Nat) : Nat := (b + i) % n
def turnG (d : List Bool) (b : Nat) : Nat → Nat → Option Nat
  | 0, _ => none
  | r + 1, i => if d.getD (turnA d.length b i) false then turnG d b r (i + 1) else some (turnA d.length b i)
def turnB (n : Nat) (last : Int) : Nat := if last < 0 ∨ (n : Int) ≤ last then n else (last + 1).toNat
def turnO (d : List Bool) (last : Int) : Option Nat := turnG d (turnB d.length last) d.length 0
def turnV : Option Nat → Value
  | none => tup2 (I 0) (.bool false)
  | some a => tup2 (I a) (.bool true)
attribute [local irreducible] Fit pt own ro vw mpc lpt vels rels mow lrc dfr
attribute [local irreducible] lmp lme mit velg relg
theorem Turn_tr (v : Value) (d : List Bool) (last : Int) (hl : -9223372036854775808 ≤ last ∧ last ≤ 9223372036854775807) (hdl : d.length ≤ 1099511627776) : Tr Tryz.prog 49 [v, I last] [vw v (Bo d)] []
    fun w D => w = turnV (turnO d last) ∧ D = [] := by
  have hbl := Bo_len d
  refine Tr.enter env _ Tryz.func49 (by kernel_rfl) rfl Tryz.ntmps49 rfl (by repeat (first | exact has00 | refine has01 ?_)) fun w0 => ?_
  repeat' first|(refine wo ?_; first|refine oa ?_)|refine sq ?_|refine rg ?_|refine xc ?_|refine nl ?_
  refine scp ?_
  refine sq ?_
  refine rg ?_
  refine oa ?_
  refine ln (xs := Bo d) ?_
  rw [hbl]
  refine oa ?_
  refine nl ?_
  refine xc ?_
  refine sq_cutY (ι := Int) (fun x => x + 1 = turnB d.length last) (fun x => [(0, v), (1, I x), (4, I 0), (5, .bool false), (6, I d.length)]) (fun _ => [vw v (Bo d)]) ?_ (fun b' kb => ?_)
  rotate_left
  · repeat' first|(refine wo ?_; first|(refine ao ?_; first|refine aw ?_|refine oa ?_)|refine oa ?_|refine gy ?_|refine gn ?_|(refine gsi (fun hB => ?_) (fun hB => ?_) <;> try (exfalso; omega)))|(refine gc ?_; first|refine ct ?_|(refine ci (fun hB => ?_) (fun hB => ?_) <;> try (exfalso; omega)))|refine sq ?_|refine rg ?_|refine xc ?_|refine nl ?_|refine sk ?_
    · exact kb ((d.length : Int) - 1) (by unfold turnB; rw [if_pos (by omega)]; omega) _ _ (by (repeat (refine Sub.cons rfl (by first | rfl | go_num) ?_)); exact Sub.nil) (by first | apply Fit.all | ((repeat (first | (apply Fit.nilN; (repeat (first | apply nrm_nil | apply nrm_cons)); try apply nrm_rfl) | (apply Fit.cons; focus ((repeat (first | apply Tk.here | apply Tk.there)); first | done | fail)))); first | done | fail))
    · exact kb ((d.length : Int) - 1) (by unfold turnB; rw [if_pos (by omega)]; omega) _ _ (by (repeat (refine Sub.cons rfl (by first | rfl | go_num) ?_)); exact Sub.nil) (by first | apply Fit.all | ((repeat (first | (apply Fit.nilN; (repeat (first | apply nrm_nil | apply nrm_cons)); try apply nrm_rfl) | (apply Fit.cons; focus ((repeat (first | apply Tk.here | apply Tk.there)); first | done | fail)))); first | done | fail))
    · exact kb last (by unfold turnB; rw [if_neg (by omega)]; omega) _ _ (by (repeat (refine Sub.cons rfl (by first | rfl | go_num) ?_)); exact Sub.nil) (by first | apply Fit.all | ((repeat (first | (apply Fit.nilN; (repeat (first | apply nrm_nil | apply nrm_cons)); try apply nrm_rfl) | (apply Fit.cons; focus ((repeat (first | apply Tk.here | apply Tk.there)); first | done | fail)))); first | done | fail))
  intro x hx
  have hbb : turnB d.length last ≤ d.length := by unfold turnB; split <;> omega
  unfold turnO
  generalize turnB d.length last = bb at *
  repeat' first|refine lbl ?_|(refine wo ?_; first|refine oa ?_)|refine sq ?_|refine rg ?_|refine xc ?_|refine nl ?_|refine bk ?_
  refine TC.loop (ι := Nat) (fun i => [(20, I i), (5, .bool false)]) (fun _ => []) (fun i => i ≤ d.length ∧ turnG d bb d.length 0 = turnG d bb (d.length - i) i) (fun i => d.length - i) 0 [0, 1, 6, 19] ⟨Nat.zero_le _, rfl⟩ ?_ (hf := by first | apply Fit.all | ((repeat (first | (apply Fit.nilN; (repeat (first | apply nrm_nil | apply nrm_cons)); try apply nrm_rfl) | (apply Fit.cons; focus ((repeat (first | apply Tk.here | apply Tk.there)); first | done | fail)))); first | done | fail))
  rintro i ⟨hi, hg⟩
  rw [hg]
  by_cases hlt : i < d.length
  · have hm : 0 ≤ (x + 1 + (i : Int)) % (d.length : Int) ∧ (x + 1 + (i : Int)) % (d.length : Int) < (d.length : Int) := ⟨Int.emod_nonneg _ (by omega), Int.emod_lt_of_pos _ (by omega)⟩
    have he : (x + 1 + (i : Int)) % (d.length : Int) = ((turnA d.length bb i : Nat) : Int) := by unfold turnA; rw [hx, ← Int.natCast_add, ← Int.natCast_emod]
    have hs : turnG d bb (d.length - i) i = if d.getD (turnA d.length bb i) false then turnG d bb (d.length - (i + 1)) (i + 1) else some (turnA d.length bb i) := by
      rw [show d.length - i = (d.length - (i + 1)) + 1 by omega, turnG]
    have hal : turnA d.length bb i < d.length := by omega
    generalize turnA d.length bb i = a at *
    cases hd : d.getD a false
    · rw [hs, if_neg (by rw [hd]; decide)]
      repeat' first|(refine lbo (l := d) ?_; rw [he, Int.toNat_natCast, hd])|(refine wo ?_; first|(refine ao ?_; first|refine aw ?_|refine oa ?_|refine amod ?_)|refine oa ?_|refine ixm ?_)|(refine gc ?_; first|refine ct ?_|refine cf ?_|(refine ci (fun hB => ?_) (fun hB => ?_) <;> try (exfalso; omega)))|refine sq ?_|refine rg ?_|refine xc ?_|refine nl ?_|refine sk ?_|refine bk ?_|refine xe ?_|refine rt ?_
      refine scx (fun _ _ _ => rfl) ?_
      exact r2 ⟨rfl, rfl⟩
    · rw [hs, if_pos hd]
      repeat' first|(refine lbo (l := d) ?_; rw [he, Int.toNat_natCast, hd])|(refine wo ?_; first|(refine ao ?_; first|refine aw ?_|refine oa ?_|refine amod ?_)|refine oa ?_|refine ixm ?_)|(refine gc ?_; first|refine cf ?_|(refine ci (fun hB => ?_) (fun hB => ?_) <;> try (exfalso; omega)))|refine sq ?_|refine rg ?_|refine xc ?_|refine nl ?_|refine sk ?_|refine bk ?_|refine xb ?_
      exact lp (i + 1) ⟨by omega, rfl⟩ (by omega) (hs := by (repeat (refine Sub.cons rfl (by first | rfl | go_num) ?_)); exact Sub.nil) (hf := by first | apply Fit.all | ((repeat (first | (apply Fit.nilN; (repeat (first | apply nrm_nil | apply nrm_cons)); try apply nrm_rfl) | (apply Fit.cons; focus ((repeat (first | apply Tk.here | apply Tk.there)); first | done | fail)))); first | done | fail))
  · obtain rfl : i = d.length := by omega
    rw [show d.length - d.length = 0 by omega]
    repeat' first|(refine wo ?_; first|(refine ao ?_; first|refine oa ?_)|refine oa ?_)|(refine gc ?_; first|refine ct ?_|(refine ci (fun hB => ?_) (fun hB => ?_) <;> try (exfalso; omega)))|refine sq ?_|refine rg ?_|refine xc ?_|refine nl ?_|refine xe ?_|refine rt ?_
    refine scx (fun _ _ _ => rfl) ?_
    exact r2 ⟨rfl, rfl⟩
end Go.Art
set_option linter.unusedSimpArgs false
set_option linter.unusedVariables false
namespace Go.Art
open Go Go.Proofs Go.RowKit Go.Conc

/-- The rest of a region, at the machine. -/
def WTo (F : Fence) (m : Nat) (P : Program) (ops : Array Oper) (Q : Exit → Act → World → Prop) (l : List Nat) (a : Act) (w : World) : Prop :=
  ∀ (b : Frame) (k : List Item) (cs : List Frame), b.roundOf = F.round → F.fn b.fn → F.room (cs.length + 1 + m) →
    ∃ e a' w', Q e a' w' ∧ ArrivesIn (Machine.fenced P F) P (lone (b.atR a (.inRegion ops l :: k)) cs w) b k cs e a' w'
section
variable {F : Fence} {m : Nat} {P : Program} {ops : Array Oper} {Q : Exit → Act → World → Prop} {a : Act} {w w' : World} {i : Nat} {rest l : List Nat} {o : Oper} {v u z : Value} {id : Nat} {c cap s r : Nat} {buf : Array Value}
theorem WTo.region (h : WTo F m P ops Q (List.range ops.size) a w) : (Code.region id ops false).wpIn F m P Q a w :=
  fun b k cs hro hb hr => let ⟨e, a', w', q, r⟩ := h b k cs hro hb hr; ⟨e, a', w', q, .of_steps (.one (fenced_calm hb hr rfl) stepR_region) r⟩
theorem WTo.nil (h : Q .normal a w) : WTo F m P ops Q [] a w := fun b k cs _ hb hr => ⟨.normal, a, w, h, .one (fenced_calm hb hr rfl) stepR_region_end⟩
theorem WTo.val (hf : F.round = none) (ho : ops[i]? = some o) (hw : Region.wanted o (yielded ops a.tmps) = true) (hab : o.about P w a.eval = none) (hr' : (o.semAt F.round a.eval).run P w = .ok (.value v) w')
    (h : WTo F m P ops Q rest (a.put o.dst v) w') : WTo F m P ops Q (i :: rest) a w := by
  intro b k cs hro hb hr
  have h0 : (lone (b.atR a (.inRegion ops (i :: rest) :: k)) cs w).fenced P F := fenced_oper hb hr ho (fun f hf => by rw [hab] at hf; cases hf)
  have hg := stepGR_op (P := P) (b := b) (k := k) (cs := cs) (w := w) (rest := rest) ho hw
  rw [hro] at hg
  have hfin : ∀ v, (b.atR a (.inRegion ops (i :: rest) :: k)).finish v = b.atR (a.put o.dst v) (.inRegion ops rest :: k) := by
    intro v; rw [Frame.finish_atR, ho]; rfl
  obtain ⟨e, a', w'', hq, harr⟩ := h b k cs hro hb hr
  refine ⟨e, a', w'', hq, .of_steps (.one h0 (step_lone_go ?_)) harr⟩
  rw [hg, ← hfin]; simp [stepG.apply, hr']
/-- A communication that steps, with nobody else there. -/
theorem WTo.comm {cases_ : Array CommCase} {bl : Bool} {sh : CommShape} (ho : ops[i]? = some o) (hw : Region.wanted o (yielded ops a.tmps) = true) (hab : o.about P w a.eval = none) (hr' : (o.semAt F.round a.eval).run P w = .ok (.comm cases_ bl sh) w)
    (hst : ∀ (fr : Frame) (cs : List Frame) (es : Array Event), stepG P true (G fr cs) w = .comm (G fr cs) cases_ bl sh w es → step P (solo (G fr cs) w) = .next (solo (G (fr.finish v) cs) w'))
    (h : WTo F m P ops Q rest (a.put o.dst v) w') : WTo F m P ops Q (i :: rest) a w := by
  intro b k cs hro hb hr
  have h0 : (lone (b.atR a (.inRegion ops (i :: rest) :: k)) cs w).fenced P F := fenced_oper hb hr ho (fun f hf => by rw [hab] at hf; cases hf)
  have hg := stepGR_op (P := P) (b := b) (k := k) (cs := cs) (w := w) (rest := rest) ho hw
  rw [hro] at hg
  have hfin : ∀ v, (b.atR a (.inRegion ops (i :: rest) :: k)).finish v = b.atR (a.put o.dst v) (.inRegion ops rest :: k) := by
    intro v; rw [Frame.finish_atR, ho]; rfl
  obtain ⟨e, a', w'', hq, harr⟩ := h b k cs hro hb hr
  have h1 : ∃ es, stepG P true (G (b.atR a (.inRegion ops (i :: rest) :: k)) cs) w = .comm (G (b.atR a (.inRegion ops (i :: rest) :: k)) cs) cases_ bl sh w es := by
    show ∃ es, stepG P true { frame := b.atR a (.inRegion ops (i :: rest) :: k), callers := cs, status := .running, dying := none } w = .comm { frame := b.atR a (.inRegion ops (i :: rest) :: k), callers := cs, status := .running, dying := none } cases_ bl sh w es
    rw [hg]
    simp only [stepG.apply, Sem.runT_eq, hr']
    exact ⟨_, rfl⟩
  obtain ⟨es, h1⟩ := h1
  have h2 := hst _ _ _ h1
  rw [hfin] at h2
  exact ⟨e, a', w'', hq, .of_steps (.one h0 h2) harr⟩
end
theorem upd_setChan (w : World) (c cap : Nat) (buf : Array Value) (cl : Bool) (s r : Nat) (tm : Bool) : Upd w (w.setChan c cap buf cl s r tm) [c] :=
  ⟨rfl, rfl, rfl, by simp [World.setChan], fun k _ hk => by
    simp only [World.setChan]
    rw [Array.getElem?_setIfInBounds_ne (by simp at hk; omega)]⟩
/-- A channel that is open, and what lies in it. -/
def chp (c cap : Nat) (buf : List Value) : Ch where
  wr := fun x => x = c
  rd := fun _ => False
  bd := fun _ => False
  P := fun w => ∃ s r, w.heap[c]? = some (.chan cap buf.toArray false s r false)
  loc := fun ⟨s, r, h⟩ hb => ⟨s, r, (hb c (.inl rfl)).trans h⟩
  lt := fun ⟨s, r, h⟩ hb => by rcases hb with rfl | hb | hb; exact lt_of_heap h; exact hb.elim; exact hb.elim
instance (c cap : Nat) (buf : List Value) : NoB (chp c cap buf) := ⟨fun _ h => h⟩
abbrev chv (c : Nat) : Value := .chan (some c)
structure TM {P : Program} (E : Env P) (n : Sh) (X : Cx) (s : List K) (ops : Array Oper) (l : List Nat) (fr : Fr) (A : List Ch) : Prop where
  run : ∀ w, St X A w → ∀ a, Holds n a fr → WTo (FF n.r) 0 P ops (den P n.r X.Q s) l a w
section
variable {P : Program} {E : Env P} {n : Sh} {X : Cx} {s : List K} {fr : Fr} {A A' : List Ch} {ops : Array Oper} {rest is : List Nat} {d i : Nat} {o : Op} {ty t el : TypeId} {pos : String} {after : Array Edge} {v u z : Value} {x y : Operand} {c cap sz by_ : Nat} {buf : List Value}
theorem tmr {id : Nat} {l : List Oper} (k : TM E n X s l.toArray is fr A) (hl : List.range l.length = is := by rfl) : TC E n X s (.region id l.toArray false) fr A :=
  ⟨fun w hw => ⟨fun a ha => WTo.region (by subst hl; simpa using k.run w hw a ha)⟩⟩
theorem tm0 (k : TX E n X s .normal fr A) : TM E n X s ops [] fr A := ⟨fun w hw a ha => WTo.nil ((k.run w hw).run a ha)⟩
theorem tmv (hv : ∀ w, Sat A w → OpV P n fr o ty w v w) (k : TM E n X s ops rest ((d, v) :: fr) A) (hi : ops[i]? = some ⟨some d, o, ty, pos, after, none⟩ := by rfl) (hrd : n.r = none := by rfl) (hd : Nat.blt d n.n = true := by rfl)
    (hab : ∀ w ρ, (⟨some d, o, ty, pos, after, none⟩ : Oper).about P w ρ = none := by exact fun _ _ => rfl) : TM E n X s ops (i :: rest) fr A :=
  ⟨fun w hw a ha => WTo.val (w' := w) (v := v) (by simp [FF, hrd]) hi rfl (hab _ _) (by simpa [FF, hrd, Oper.semAt_none] using (hv w hw.sat).run a ha _ _ _ _) (k.run w hw _ (ha.put hd v))⟩
theorem tma (k : TM E n X s ops rest ((d, v) :: fr) A) (hi : ops[i]? = some ⟨some d, o, ty, pos, after, none⟩ := by rfl) (hv : evOp E fr o = some v := by rfl) (hrd : n.r = none := by rfl) (hd : Nat.blt d n.n = true := by rfl)
    (hab : ∀ w ρ, (⟨some d, o, ty, pos, after, none⟩ : Oper).about P w ρ = none := by exact fun _ _ => rfl) : TM E n X s ops (i :: rest) fr A := tmv (fun _ _ => R_auto hv) k hi hrd hd hab
theorem tml {b j : Nat} {cs : List Value} {T : TypeId} {dt : TypeDesc} (k : TM E n X s ops rest ((d, v) :: fr) A) (hi : ops[i]? = some ⟨some d, .load t x, ty, pos, after, none⟩ := by rfl) (hx : ev fr x = some (.pointer (some ⟨b, j, none⟩)) := by rfl) (hm : pt b cs T ∈ A := by (repeat (first | apply List.Mem.head | apply List.Mem.tail)); first | done | fail)
    (hj : cs[j]? = some v := by rfl) (ht : lk E.und t = some dt := by rfl) (hg : aggB dt = false := by rfl) (hrd : n.r = none := by rfl) (hd : Nat.blt d n.n = true := by rfl) : TM E n X s ops (i :: rest) fr A :=
  tmv (fun w hw => R_load ht hg hx (blk_cell (pt_at hm hw) (by simpa using hj))) k hi hrd hd
/-- A send; there is room. -/
theorem tms (k : TM E n X s ops rest fr (chp c cap (buf ++ [u]) :: A')) (hi : ops[i]? = some ⟨none, .send x y, ty, pos, after, none⟩ := by rfl) (hx : ev fr x = some (chv c) := by rfl) (hy : ev fr y = some u := by rfl) (hm : Tk (chp c cap buf) A A' := by (repeat (first | apply Tk.here | apply Tk.there)); first | done | fail) (hroom : buf.length < cap := by first | omega | decide) (hrd : n.r = none := by rfl) :
    TM E n X s ops (i :: rest) fr A := ⟨fun w hw a ha => by
  have h1 := hw.im hm
  obtain ⟨s0, r0, hc⟩ : ∃ s r, w.heap[c]? = some (.chan cap buf.toArray false s r false) := h1.mem (List.Mem.head _)
  have hlt := lt_of_heap hc
  refine WTo.comm (v := undef) (w' := w.setChan c cap (buf.toArray.push u) false (s0 + 1) r0 false) hi rfl rfl ?_ (fun fr cs es h => step_lone_send_room (z' := .tuple #[]) h hc (by simpa using hroom)) ?_
  · simp [FF, hrd, Oper.semAt_none, execOp, ha.ev hx, ha.ev hy, scase]
  · refine k.run _ (h1.set (upd_setChan w _ _ _ _ _ _ _) (fun b hb => .inl (by show b = c; simpa using hb)) ⟨s0 + 1, r0, by rw [heap_setChan _ _ _ _ _ _ _ _ hlt]; simp⟩ (fun b hb => by rcases hb with h | h | h; exact .inl h; exact h.elim; exact h.elim) (fun _ h => h)) _ ha⟩
/-- A select of one receive with a default: something is there; nothing is there. -/
theorem tmsr (k : TM E n X s ops rest ((d, .tuple #[I 0, .bool true, u]) :: fr) (chp c cap buf :: A')) (hi : ops[i]? = some ⟨some d, .select #[⟨x, none, el⟩] false, ty, pos, after, none⟩ := by rfl) (hx : ev fr x = some (chv c) := by rfl) (hm : Tk (chp c cap (u :: buf)) A A' := by (repeat (first | apply Tk.here | apply Tk.there)); first | done | fail)
    (ht : lk E.inf el = some (z, sz, by_) := by rfl) (hrd : n.r = none := by rfl) (hd : Nat.blt d n.n = true := by rfl) : TM E n X s ops (i :: rest) fr A := ⟨fun w hw a ha => by
  have h1 := hw.im hm
  obtain ⟨s0, r0, hc⟩ : ∃ s r, w.heap[c]? = some (.chan cap (u :: buf).toArray false s r false) := h1.mem (List.Mem.head _)
  have hlt := lt_of_heap hc
  obtain ⟨inf, hi', hz, _, _⟩ := E.info ht
  refine WTo.comm (v := .tuple #[I 0, .bool true, u]) (w' := w.setChan c cap ((u :: buf).toArray.extract 1 (u :: buf).toArray.size) false s0 (r0 + 1) false) hi rfl rfl ?_ (fun fr cs es h => by simpa [goInt] using step_lone_select_recv_buf (z := z) h hc (by simp)) ?_
  · simp [FF, hrd, Oper.semAt_none, execOp, ha.ev hx, rcase, zeroValue, typeInfo, hi', hz]
  · refine k.run _ (h1.set (upd_setChan w _ _ _ _ _ _ _) (fun b hb => .inl (by show b = c; simpa using hb)) ⟨s0, r0 + 1, by rw [heap_setChan _ _ _ _ _ _ _ _ hlt]; simp⟩ (fun b hb => by rcases hb with h | h | h; exact .inl h; exact h.elim; exact h.elim) (fun _ h => h)) _ (ha.put hd _)⟩
theorem tmsd (k : TM E n X s ops rest ((d, .tuple #[I (-1), .bool false, z]) :: fr) A) (hi : ops[i]? = some ⟨some d, .select #[⟨x, none, el⟩] false, ty, pos, after, none⟩ := by rfl) (hx : ev fr x = some (chv c) := by rfl) (hm : Tk (chp c cap []) A A' := by (repeat (first | apply Tk.here | apply Tk.there)); first | done | fail)
    (ht : lk E.inf el = some (z, sz, by_) := by rfl) (hrd : n.r = none := by rfl) (hd : Nat.blt d n.n = true := by rfl) : TM E n X s ops (i :: rest) fr A := ⟨fun w hw a ha => by
  have h1 := hw.im hm
  obtain ⟨s0, r0, hc⟩ : ∃ s r, w.heap[c]? = some (.chan cap #[] false s r false) := h1.mem (List.Mem.head _)
  obtain ⟨inf, hi', hz, _, _⟩ := E.info ht
  refine WTo.comm (v := .tuple #[I (-1), .bool false, z]) (w' := w) hi rfl rfl ?_ (fun fr cs es h => by simpa [goInt] using step_lone_select_default (z := z) h hc) (k.run w hw _ (ha.put hd _))
  simp [FF, hrd, Oper.semAt_none, execOp, ha.ev hx, rcase, zeroValue, typeInfo, hi', hz]⟩
/-- A channel is made. -/
theorem mkc {opsO : Array Oper} {restO : List Oper} {k1 : IntKind} {m : Int} {kd : ChanDir} {bt : Nat} (k : ∀ c, TO E n X s opsO restO ((d, chv c) :: fr) (chp c m.toNat [] :: A)) (hx : ev fr x = some (.int k1 m) := by rfl) (ht : lk E.und t = some (.chan kd el) := by rfl) (he : lk E.inf el = some (z, sz, bt) := by rfl)
    (h0 : 0 ≤ m ∧ m ≤ 1000000 ∧ bt * m ≤ 1000000 := by decide) (hd : Nat.blt d n.n = true := by rfl) : TO E n X s opsO (⟨some d, .makeChan t x, ty, pos, after, none⟩ :: restO) fr A := ⟨fun w hw => by
  refine SO_v hd (w' := w.alloc (.chan m.toNat #[] false 0 0 false)) (v := chv w.heap.size) ⟨fun a ha _ _ _ _ => ?_⟩ ((k _).run _ (hw.new (Upd.alloc w _) ⟨0, 0, by simpa using heap_alloc_new w _⟩ (by rintro y (h | h | h); (have : y = w.heap.size := h); omega; exact h.elim; exact h.elim) (by simp [chp])))
  obtain ⟨inf, hi, _, _, hb⟩ := E.info he
  have hmx : ¬ (m < 0 ∨ 9223372036854775807 < m ∨ 281474976710544 < (bt : Int) * m) := by omega
  simp only [execOp, ha.ev hx]
  simp [Instr.makeChan, asInt, asIntOf, run_underlying (P := P) (E.un ht), typeInfo, hi, hb, newObj, Sem.run]
  exact fun h => absurd h hmx⟩
end
end Go.Art
set_option linter.unusedSimpArgs false
set_option linter.unusedVariables false
namespace Go.Art
open Go Go.Proofs Go.RowKit
/-- The cells of a row of pairs. -/
def pc : List (Value × Value) → List Value
  | [] => []
  | p :: r => p.1 :: p.2 :: pc r
theorem pc_len (L : List (Value × Value)) : (pc L).length = 2 * L.length := by induction L with | nil => rfl | cons p r ih => simp [pc, ih]; omega
theorem pc_app (L M : List (Value × Value)) : pc (L ++ M) = pc L ++ pc M := by induction L with | nil => rfl | cons p r ih => simp [pc, ih]
theorem pc_get0 : ∀ (L : List (Value × Value)) (i : Nat) (p : Value × Value), L[i]? = some p → (pc L)[2 * i]? = some p.1
  | [], i, p, h => by simp at h
  | q :: r, 0, p, h => by simp at h; subst h; rfl
  | q :: r, i + 1, p, h => by
    have := pc_get0 r i p (by simpa using h)
    rw [show 2 * (i + 1) = 2 * i + 1 + 1 by omega]; simpa [pc] using this
theorem pc_get1 : ∀ (L : List (Value × Value)) (i : Nat) (p : Value × Value), L[i]? = some p → (pc L)[2 * i + 1]? = some p.2
  | [], i, p, h => by simp at h
  | q :: r, 0, p, h => by simp at h; subst h; rfl
  | q :: r, i + 1, p, h => by
    have := pc_get1 r i p (by simpa using h)
    rw [show 2 * (i + 1) + 1 = 2 * i + 1 + 1 + 1 by omega]; simpa [pc] using this
theorem pc_set1 : ∀ (L : List (Value × Value)) (i : Nat) (p : Value × Value) (u : Value), L[i]? = some p → (pc L).set (2 * i + 1) u = pc (L.set i (p.1, u))
  | [], i, p, u, h => by simp at h
  | q :: r, 0, p, u, h => by simp at h; subst h; rfl
  | q :: r, i + 1, p, u, h => by
    have := pc_set1 r i p u (by simpa using h)
    rw [show 2 * (i + 1) + 1 = 2 * i + 1 + 1 + 1 by omega]; simp [pc, this]
def OwnW (w : World) (e : TypeId) (v : Value) (L : List (Value × Value)) : Prop :=
  (v = .slice none 0 0 ∧ L = []) ∨
  ∃ b cap cur, v = .slice (some ⟨b, 0, none⟩) L.length cap ∧ w.heap[b]? = some (.cells cur e (0, 0)) ∧ L.length ≤ cap ∧ cap ≤ maxLen ∧ cur.size = cap * 2 ∧ cur.toList.take (2 * L.length) = pc L
theorem OwnW.blt {w : World} {e : TypeId} {v : Value} {L : List (Value × Value)} (h : OwnW w e v L) {b : Nat} (hb : v.ownBlock = some b) : b < w.heap.size := by
  rcases h with ⟨rfl, rfl⟩ | ⟨b', cap, cur, rfl, h2, _⟩
  · cases hb
  · cases hb; exact lt_of_heap h2
theorem OwnW.keep {w w' : World} {e : TypeId} {v : Value} {L : List (Value × Value)} (h : OwnW w e v L) (hb : ∀ b, v.ownBlock = some b → w'.heap[b]? = w.heap[b]?) : OwnW w' e v L := by
  rcases h with h | ⟨b, cap, cur, rfl, h2, h3⟩
  · exact .inl h
  · exact .inr ⟨b, cap, cur, rfl, (hb b rfl).trans h2, h3⟩
/-- An own slice of pairs. -/
def prs (e : TypeId) (v : Value) (L : List (Value × Value)) : Ch where
  wr := fun x => v.ownBlock = some x
  rd := fun _ => False
  bd := fun _ => False
  P := fun w => OwnW w e v L
  loc := fun h hb => h.keep fun b h => hb b (.inl h)
  lt := fun h hb => by rcases hb with hb | hb | hb; exact h.blt hb; exact hb.elim; exact hb.elim
instance (e : TypeId) (v : Value) (L : List (Value × Value)) : NoB (prs e v L) := ⟨fun _ h => h⟩
theorem prs_nil (e : TypeId) (A : List Ch) : Im A (prs e (.slice none 0 0) [] :: A) := by
  have h0 : ∀ b, ¬ (prs e (.slice none 0 0) []).ft b := by rintro b (h | h | h); cases h; exact h; exact h
  refine ⟨fun w hw => Sat.cons.2 ⟨.inl ⟨rfl, rfl⟩, fun a _ => ⟨fun b hb => absurd (.inl hb) (h0 b), fun b _ hf => h0 b hf⟩, hw⟩, fun b hb => ?_, fun b hb => ?_, fun b hb => ?_⟩
  · obtain ⟨x, hx, hb⟩ := hb
    rcases List.mem_cons.1 hx with rfl | hx
    · exact absurd (.inl hb) (h0 b)
    · exact ⟨x, hx, hb⟩
  · obtain ⟨x, hx, hb⟩ := hb
    rcases List.mem_cons.1 hx with rfl | hx
    · exact absurd (.inr (.inl hb)) (h0 b)
    · exact .inr ⟨x, hx, hb⟩
  · obtain ⟨x, hx, hb⟩ := hb
    rcases List.mem_cons.1 hx with rfl | hx
    · exact absurd hb (h0 b)
    · exact ⟨x, hx, hb⟩
theorem two_set (f : Nat → Value) (p1 p2 : Value) : ((Array.map f (Array.range 2)).setIfInBounds 0 p1).setIfInBounds 1 p2 = #[p1, p2] := by
  have : Array.map f (Array.range 2) = #[f 0, f 1] := by rw [← Array.toList_inj]; simp [List.range, List.range.loop]
  rw [this]; rfl
section
variable {P : Program} {E : Env P} {n : Sh} {X : Cx} {s : List K} {fr : Fr} {A A' : List Ch} {ops : Array Oper} {rest : List Oper} {d : Nat} {ty t e : TypeId} {pos : String} {after : Array Edge} {v u z p1 p2 : Value} {x y : Operand} {by_ : Nat} {L : List (Value × Value)} {w : World}
/-- A literal of one pair. -/
theorem slp (k : ∀ g, TO E n X s ops rest ((d, .slice (some ⟨g, 0, none⟩) 1 1) :: fr) (prs e (.slice (some ⟨g, 0, none⟩) 1 1) [(p1, p2)] :: A)) (hx : ev fr x = some (.agg #[p1, p2]) := by rfl) (ht : lk E.und t = some (.slice e) := by rfl) (he : lk E.inf e = some (z, 2, by_) := by rfl) (hz : z.cells.size = 2 := by rfl) (hd : Nat.blt d n.n = true := by rfl) :
    TO E n X s ops (⟨some d, .buildSlice t 1 #[(0, x)], ty, pos, after, none⟩ :: rest) fr A := ⟨fun w hw => by
  obtain ⟨inf, hi, hiz, his, _⟩ := E.info he
  refine SO_v hd (w' := w.alloc (.cells #[p1, p2] e)) ⟨fun a ha _ _ _ _ => ?_⟩ ((k _).run _ (hw.new (Upd.alloc w _) (.inr ⟨w.heap.size, 1, _, rfl, heap_alloc_new w _, Nat.le_refl _, by unfold maxLen; omega, rfl, rfl⟩) (by rintro b (h | h | h); (have h : some w.heap.size = some b := h); cases h; exact Nat.le_refl _; exact h.elim; exact h.elim) (fun _ h => h)))
  simp only [execOp]
  show Sem.run P (do let v ← Instr.buildSlice t 1 ((#[(0, x)].map fun (p : Nat × Operand) => (p.1, a.eval p.2))); pure (Next.value v)) w = _
  simp [Instr.buildSlice, run_underlying (P := P) (E.un ht) w, sizeOf, typeInfo, hi, his, zeroValue, hiz, ha.ev hx, Instr.fill, Value.cells, newRow, newObj, Sem.run]
  exact congrArg (fun c => w.alloc (Obj.cells c e)) (two_set _ _ _)⟩
theorem run_appendW (t' : TypeId) (w : World) (ht : lk E.und t = some (.slice e)) (he : lk E.inf e = some (z, 2, by_)) (hz : z.cells.size = 2) (hown : OwnW w e v L) {g : Nat} {cu : Array Value} (hg : w.heap[g]? = some (.cells cu e (0, 0))) (hcu : cu.toList.take 2 = [p1, p2])
    (h1 : p1.oneCell' = true ∧ p2.oneCell' = true) (hby : (L.length + 1) * by_ ≤ 140737488355328) (h63 : L.length + 1 ≤ 4611686018427387903) :
    ∃ v' w', (Builtin.append_ #[t, t] t' #[v, .slice (some ⟨g, 0, none⟩) 1 1]).run P w = .ok v' w' ∧ OwnW w' e v' (L ++ [(p1, p2)]) ∧ Upd w w' v.ownBlock.toList ∧ ∀ b, v'.ownBlock = some b → v.ownBlock = some b ∨ w.heap.size ≤ b := by
  obtain ⟨inf, hi, hiz, his, hib⟩ := E.info he
  have ht' := E.un ht
  have hnews : ∀ j c, [p1, p2][j]? = some c → w.cell? ((⟨g, 0, none⟩ : Addr).add j) = some c := fun j c hj => by
    rw [Addr.add_lit, Nat.zero_add, cell_of_row w g j cu e (0, 0) hg]
    rw [← hcu, List.getElem?_take] at hj
    split at hj
    · simpa using hj
    · cases hj
  have hl : [p1, p2].length = 1 * inf.size := by rw [his]; rfl
  have hone : ∀ u ∈ [p1, p2], u.oneCell' = true := by intro u hu; simp at hu; rcases hu with rfl | rfl; exact h1.1; exact h1.2
  subst hib
  have hupd : ∀ (o : Obj) (S : List Nat), Upd w (w.drew.alloc o) S := fun o S => ((Upd.drew w).trans (Upd.alloc w.drew o)).weak (by simp)
  have happ : pc (L ++ [(p1, p2)]) = pc L ++ [p1, p2] := pc_app _ _
  have hpl := pc_len L
  have grow : ∀ (old : Nat), OwnW (w.drew.alloc (.cells ((pc L).toArray ++ [p1, p2].toArray ++ Builtin.zeroCells z.cells (grownCap w (L.length + 1) old e - (L.length + 1))) e)) e
      (.slice (some ⟨w.heap.size, 0, none⟩) (L.length + 1) (grownCap w (L.length + 1) old e)) (L ++ [(p1, p2)]) := by
    intro old
    have hge := grownCap_ge w (L.length + 1) old e
    refine .inr ⟨w.heap.size, grownCap w (L.length + 1) old e, _, by simp, heap_alloc_new w.drew _, by simpa using hge, grownCap_le_maxLen w _ old e (by unfold maxLen; omega), ?_, ?_⟩
    · simp only [Array.size_append, List.size_toArray, size_zeroCells, hz, hpl, List.length_cons, List.length_nil]; omega
    · rw [happ]
      simp only [Array.toList_append]
      exact List.take_left' (by simp [hpl]; omega)
  rcases hown with ⟨rfl, rfl⟩ | ⟨b, cap, cur, rfl, hb, h2, h3, h4, h5⟩
  · have hr := run_append_nil (P := P) w t t' e inf z ht' hi hiz ⟨g, 0, none⟩ 1 1 [p1, p2] hl hnews (by omega) (by omega) (by simp at hby; omega)
    have hg := grow 0
    simp only [List.length_nil, Nat.zero_add, List.nil_append, pc, List.append_toArray] at hg
    exact ⟨_, _, hr, by simpa using hg, hupd _ _, fun b' hb' => by cases hb'; exact .inr (Nat.le_refl _)⟩
  · by_cases hroom : L.length + 1 ≤ cap
    · have hr := run_append_room (P := P) w t t' e inf ht' hi b L.length cap cur hb ⟨g, 0, none⟩ 1 1 [p1, p2] hl hnews hone hroom (by rw [his, h4]; simp; omega)
      refine ⟨_, _, hr, .inr ⟨b, cap, _, by simp, setRow_heap w b cur _ e _ hb, by simpa using hroom, h3, ?_, ?_⟩, Upd.setRow w b _, fun _ h => .inl h⟩
      · simp only [List.size_toArray, List.length_append, List.length_take, List.length_drop, Array.length_toList, his, List.length_cons, List.length_nil]; omega
      · rw [his, happ, show L.length * 2 = 2 * L.length by omega, h5]
        exact List.take_left' (by simp [hpl]; omega)
    · have hc : ∀ j c, (pc L)[j]? = some c → w.cell? ((⟨b, 0, none⟩ : Addr).add j) = some c := fun j c hj => by
        rw [Addr.add_lit, Nat.zero_add, cell_of_row w b j cur e (0, 0) hb]
        rw [← h5, List.getElem?_take] at hj
        split at hj
        · simpa using hj
        · cases hj
      have hr := run_append_grow (P := P) w t t' e inf z ht' hi hiz ⟨b, 0, none⟩ L.length cap (pc L) (by rw [his, hpl]; omega) hc ⟨g, 0, none⟩ 1 1 [p1, p2] hl hnews (by omega) (by omega) (growslice_fits (by omega) hby)
      exact ⟨_, _, hr, grow cap, hupd _ _, fun b' hb' => by cases hb'; exact .inr (Nat.le_refl _)⟩
/-- append of one pair. -/
theorem app {g : Nat} (k : ∀ v', v'.oneCell' = true → TO E n X s ops rest ((d, v') :: fr) (prs e v' (L ++ [(p1, p2)]) :: A')) (hx : ev fr x = some v := by rfl) (hy : ev fr y = some (.slice (some ⟨g, 0, none⟩) 1 1) := by rfl) (hm : Tk (prs e v L) A A' := by (repeat (first | apply Tk.here | apply Tk.there)); first | done | fail) (hu : prs e (.slice (some ⟨g, 0, none⟩) 1 1) [(p1, p2)] ∈ A' := by (repeat (first | apply List.Mem.head | apply List.Mem.tail)); first | done | fail)
    (h1 : p1.oneCell' = true ∧ p2.oneCell' = true) (ht : lk E.und t = some (.slice e) := by rfl) (he : lk E.inf e = some (z, 2, by_) := by rfl) (hz : z.cells.size = 2 := by rfl) (hby : (L.length + 1) * by_ ≤ 140737488355328 := by omega) (h63 : L.length + 1 ≤ 4611686018427387903 := by omega) (hd : Nat.blt d n.n = true := by rfl) :
    TO E n X s ops (⟨some d, .call ⟨.builtin .append, #[x, y], #[t, t]⟩, ty, pos, after, none⟩ :: rest) fr A := ⟨fun w hw => by
  have h2 := hw.im hm
  have h3 : OwnW w e v L := h2.mem (List.Mem.head _)
  have h4 : OwnW w e (.slice (some ⟨g, 0, none⟩) 1 1) [(p1, p2)] := h2.mem (List.Mem.tail _ hu)
  rcases h4 with ⟨h4, _⟩ | ⟨g', cap, cu, e1, hg, _, _, _, hcu⟩
  · cases h4
  · cases e1
    obtain ⟨v', w', hr, hO, hU, hW⟩ := run_appendW (P := P) ty w ht he hz h3 hg hcu h1 hby h63
    refine SO_v hd (w' := w') (v := v') ⟨fun a ha' _ _ _ _ => ?_⟩ ((k v' ?_).run w' (h2.set hU (fun b hb => .inl (by show v.ownBlock = some b; simpa using hb)) hO ?_ (fun _ h => h)))
    · simp only [execOp, resolve]
      simp [ha'.ev hx, ha'.ev hy, invoke, builtin, hr]
    · rcases hO with ⟨rfl, _⟩ | ⟨_, _, _, rfl, _⟩ <;> rfl
    · rintro b (hb' | hb' | hb')
      · exact hW b hb'
      · exact hb'.elim
      · exact hb'.elim⟩
end
end Go.Art
namespace Go.Art.Sn
open Go Go.Proofs
def unds : List (Nat × TypeDesc) := [(1, .func #[] #[] false),
  (28, .func #[] #[4] false),
  (29, .func #[3, 3] #[3] false),
  (30, .func #[27, 59] #[4] false),
  (34, .func #[24, 25, 3, 3, 3] #[31, 32] false),
  (38, .func #[25] #[36, 32] false),
  (39, .func #[36] #[4] false),
  (42, .func #[25] #[40, 32] false),
  (43, .func #[] #[40, 32] false),
  (44, .func #[3] #[4] false),
  (45, .func #[] #[3] false),
  (46, .func #[27, 25] #[4] false),
  (49, .chan .both 25),
  (53, .func #[25] #[4] false),
  (54, .func #[] #[31] false),
  (55, .func #[31, 36] #[4] false),
  (56, .func #[31, 36, 36] #[4] false),
  (57, .func #[] #[36] false),
  (58, .func #[3, 3] #[31] false),
  (60, .func #[24] #[3] false),
  (61, .func #[63] #[3] false),
  (64, .func #[27, 36, 48, 22, 3] #[4] false),
  (66, .func #[36] #[25, 32] false),
  (67, .func #[24] #[25, 32] false),
  (68, .func #[3, 3, 3] #[4] false),
  (69, .func #[24, 25, 3] #[40, 32] false),
  (72, .func #[40, 22, 3, 3] #[70, 32] false),
  (73, .func #[3] #[25, 32] false),
  (76, .func #[128, 25] #[25, 32] false),
  (78, .func #[25] #[77] false),
  (79, .func #[3] #[3] false),
  (83, .func #[] #[82] false),
  (85, .func #[4, 3, 84] #[] false),
  (86, .func #[3] #[25] false),
  (89, .func #[] #[88] false),
  (90, .func #[36] #[32] false),
  (91, .func #[25] #[25] false),
  (92, .func #[] #[40] false),
  (94, .func #[48, 3] #[3, 4] false),
  (95, .func #[36] #[] false),
  (96, .func #[3] #[] false),
  (97, .func #[40, 32, 36] #[4] false),
  (98, .func #[] #[24] false),
  (99, .func #[24] #[32] false),
  (100, .func #[25, 25] #[4] false),
  (103, .func #[3] #[101, 32] false),
  (104, .func #[3, 3] #[32] false),
  (105, .func #[25] #[32] false),
  (106, .func #[] #[25, 32] false),
  (107, .func #[128, 25] #[25] false),
  (112, .func #[] #[111] false),
  (114, .func #[24, 3] #[3, 3, 32] false),
  (115, .func #[25, 3, 3] #[40, 32] false),
  (116, .func #[40] #[32] false),
  (122, .func #[22, 3, 3, 3] #[120, 32] false),
  (126, .func #[3] #[22, 32] false),
  (127, .func #[40, 22] #[25, 32] false),
  (134, .func #[3, 4] #[25] false),
  (136, .func #[4, 3] #[3] false),
  (138, .func #[36, 36] #[4] false),
  (139, .func #[22, 3] #[4] false),
  (142, .func #[144] #[32] false),
  (144, .func #[] #[32] false),
  (146, .func #[128, 25] #[145] false),
  (149, .func #[53] #[] false),
  (150, .func #[53] #[] false),
  (151, .func #[25, 3] #[150] false),
  (152, .func #[40, 53] #[4] false),
  (153, .func #[22, 3] #[32] false),
  (155, .func #[22] #[118, 32] false),
  (156, .func #[40, 22, 157] #[150] false),
  (158, .func #[25, 25] #[32] false),
  (159, .func #[22, 44] #[4] false),
  (160, .func #[170] #[128] true),
  (161, .func #[25, 3] #[25, 32] false),
  (162, .func #[40, 53] #[3] false),
  (163, .func #[22] #[3] false),
  (165, .func #[118, 3, 166] #[22, 32] false),
  (167, .func #[133, 133, 133] #[166] false),
  (168, .func #[25, 25] #[] false),
  (169, .func #[22, 44] #[3] false),
  (172, .func #[] #[171] false),
  (175, .func #[118, 3] #[32] false),
  (177, .func #[118, 166] #[3, 32] false),
  (178, .func #[166, 3, 3] #[22, 32] false),
  (180, .func #[133] #[133] false),
  (187, .func #[118] #[32] false),
  (188, .func #[3] #[3, 32] false),
  (189, .func #[118, 3, 3] #[3, 32] false),
  (190, .func #[192] #[22] false),
  (191, .func #[44] #[] false),
  (192, .func #[44] #[] false),
  (193, .func #[22] #[192] false),
  (194, .func #[3] #[44] false),
  (195, .func #[3] #[3, 4] false),
  (196, .func #[3, 3] #[4] false),
  (199, .func #[3, 3] #[] false),
  (200, .func #[22] #[] false),
  (201, .func #[22, 192] #[22] false),
  (202, .func #[22, 3, 3, 3] #[] false),
  (203, .func #[135] #[3] false),
  (204, .func #[22, 3, 3] #[] false),
  (207, .func #[22, 3, 3] #[3, 205] false),
  (208, .func #[22, 3, 3] #[4] false),
  (209, .func #[22, 3, 3, 3] #[3] false),
  (210, .func #[22, 3, 3, 3] #[3, 4] false),
  (211, .func #[145] #[3] false),
  (212, .func #[133] #[3] false),
  (214, .func #[3] #[135] false),
  (215, .func #[] #[133] false),
  (216, .func #[22, 3, 84] #[3] false),
  (217, .func #[22, 3, 3, 3, 84] #[3] false),
  (220, .func #[22, 3, 3, 84] #[3, 3] false),
  (221, .func #[] #[9] false),
  (229, .func #[239, 239] #[4] false),
  (235, .func #[238] #[] false),
  (236, .func #[238] #[] false),
  (237, .func #[] #[236] false),
  (238, .func #[133] #[4] false)]
def infs : List (Nat × (Value × Nat × Nat)) := [(1, (.nilFunc, 1, 8)),
  (28, (.nilFunc, 1, 8)),
  (29, (.nilFunc, 1, 8)),
  (30, (.nilFunc, 1, 8)),
  (34, (.nilFunc, 1, 8)),
  (38, (.nilFunc, 1, 8)),
  (39, (.nilFunc, 1, 8)),
  (42, (.nilFunc, 1, 8)),
  (43, (.nilFunc, 1, 8)),
  (44, (.nilFunc, 1, 8)),
  (45, (.nilFunc, 1, 8)),
  (46, (.nilFunc, 1, 8)),
  (49, (.chan none, 1, 8)),
  (53, (.nilFunc, 1, 8)),
  (54, (.nilFunc, 1, 8)),
  (55, (.nilFunc, 1, 8)),
  (56, (.nilFunc, 1, 8)),
  (57, (.nilFunc, 1, 8)),
  (58, (.nilFunc, 1, 8)),
  (60, (.nilFunc, 1, 8)),
  (61, (.nilFunc, 1, 8)),
  (64, (.nilFunc, 1, 8)),
  (66, (.nilFunc, 1, 8)),
  (67, (.nilFunc, 1, 8)),
  (68, (.nilFunc, 1, 8)),
  (69, (.nilFunc, 1, 8)),
  (72, (.nilFunc, 1, 8)),
  (73, (.nilFunc, 1, 8)),
  (76, (.nilFunc, 1, 8)),
  (78, (.nilFunc, 1, 8)),
  (79, (.nilFunc, 1, 8)),
  (83, (.nilFunc, 1, 8)),
  (85, (.nilFunc, 1, 8)),
  (86, (.nilFunc, 1, 8)),
  (89, (.nilFunc, 1, 8)),
  (90, (.nilFunc, 1, 8)),
  (91, (.nilFunc, 1, 8)),
  (92, (.nilFunc, 1, 8)),
  (94, (.nilFunc, 1, 8)),
  (95, (.nilFunc, 1, 8)),
  (96, (.nilFunc, 1, 8)),
  (97, (.nilFunc, 1, 8)),
  (98, (.nilFunc, 1, 8)),
  (99, (.nilFunc, 1, 8)),
  (100, (.nilFunc, 1, 8)),
  (103, (.nilFunc, 1, 8)),
  (104, (.nilFunc, 1, 8)),
  (105, (.nilFunc, 1, 8)),
  (106, (.nilFunc, 1, 8)),
  (107, (.nilFunc, 1, 8)),
  (112, (.nilFunc, 1, 8)),
  (114, (.nilFunc, 1, 8)),
  (115, (.nilFunc, 1, 8)),
  (116, (.nilFunc, 1, 8)),
  (122, (.nilFunc, 1, 8)),
  (126, (.nilFunc, 1, 8)),
  (127, (.nilFunc, 1, 8)),
  (134, (.nilFunc, 1, 8)),
  (136, (.nilFunc, 1, 8)),
  (138, (.nilFunc, 1, 8)),
  (139, (.nilFunc, 1, 8)),
  (142, (.nilFunc, 1, 8)),
  (144, (.nilFunc, 1, 8)),
  (146, (.nilFunc, 1, 8)),
  (149, (.nilFunc, 1, 8)),
  (150, (.nilFunc, 1, 8)),
  (151, (.nilFunc, 1, 8)),
  (152, (.nilFunc, 1, 8)),
  (153, (.nilFunc, 1, 8)),
  (155, (.nilFunc, 1, 8)),
  (156, (.nilFunc, 1, 8)),
  (158, (.nilFunc, 1, 8)),
  (159, (.nilFunc, 1, 8)),
  (160, (.nilFunc, 1, 8)),
  (161, (.nilFunc, 1, 8)),
  (162, (.nilFunc, 1, 8)),
  (163, (.nilFunc, 1, 8)),
  (165, (.nilFunc, 1, 8)),
  (167, (.nilFunc, 1, 8)),
  (168, (.nilFunc, 1, 8)),
  (169, (.nilFunc, 1, 8)),
  (172, (.nilFunc, 1, 8)),
  (175, (.nilFunc, 1, 8)),
  (177, (.nilFunc, 1, 8)),
  (178, (.nilFunc, 1, 8)),
  (180, (.nilFunc, 1, 8)),
  (187, (.nilFunc, 1, 8)),
  (188, (.nilFunc, 1, 8)),
  (189, (.nilFunc, 1, 8)),
  (190, (.nilFunc, 1, 8)),
  (191, (.nilFunc, 1, 8)),
  (192, (.nilFunc, 1, 8)),
  (193, (.nilFunc, 1, 8)),
  (194, (.nilFunc, 1, 8)),
  (195, (.nilFunc, 1, 8)),
  (196, (.nilFunc, 1, 8)),
  (199, (.nilFunc, 1, 8)),
  (200, (.nilFunc, 1, 8)),
  (201, (.nilFunc, 1, 8)),
  (202, (.nilFunc, 1, 8)),
  (203, (.nilFunc, 1, 8)),
  (204, (.nilFunc, 1, 8)),
  (207, (.nilFunc, 1, 8)),
  (208, (.nilFunc, 1, 8)),
  (209, (.nilFunc, 1, 8)),
  (210, (.nilFunc, 1, 8)),
  (211, (.nilFunc, 1, 8)),
  (212, (.nilFunc, 1, 8)),
  (214, (.nilFunc, 1, 8)),
  (215, (.nilFunc, 1, 8)),
  (216, (.nilFunc, 1, 8)),
  (217, (.nilFunc, 1, 8)),
  (220, (.nilFunc, 1, 8)),
  (221, (.nilFunc, 1, 8)),
  (229, (.nilFunc, 1, 8)),
  (235, (.nilFunc, 1, 8)),
  (236, (.nilFunc, 1, 8)),
  (237, (.nilFunc, 1, 8)),
  (238, (.nilFunc, 1, 8))]
theorem unds_ok : unds.map (fun p => Tryz.prog.underlying p.1) = unds.map (fun p => some p.2) := by kernel_rfl
theorem infs_ok : infs.map (fun p => (Tryz.prog.info? p.1).map (fun i => (i.zero, i.size, i.bytes))) = infs.map (fun p => some (some p.2.1, p.2.2.1, p.2.2.2)) := by kernel_rfl
def env : Env Tryz.prog where
  und := unds ++ tyUnd
  und_ok := fun p hp => by rcases List.mem_append.1 hp with h | h; exact of_map_eq unds_ok p h; exact of_map_eq tyUnd_ok p h
  inf := infs ++ tyInf
  inf_ok := fun p hp => by rcases List.mem_append.1 hp with h | h; exact of_map_eq infs_ok p h; exact of_map_eq tyInf_ok p h
  mixed := follows_mixed
end Go.Art.Sn
set_option linter.unusedSimpArgs false
set_option linter.unusedVariables false
namespace Go.Art
open Go Go.Proofs Go.RowKit
def frz (C : List Ch) : Ch where
  wr := fun _ => False
  rd := fun b => fts C b
  bd := fun _ => False
  P := fun w => ∀ c ∈ C, c.P w
  loc := fun h hb c hc => c.loc (h c hc) fun b hf => hb b (.inr (.inl ⟨c, hc, hf⟩))
  lt := fun h hb => by
    rcases hb with hb | ⟨c, hc, hf⟩ | hb
    · exact hb.elim
    · exact c.lt (h c hc) hf
    · exact hb.elim
instance (C : List Ch) : NoB (frz C) := ⟨fun _ h => h⟩
/-- Pieces are frozen together. -/
theorem im_frz (C : List Ch) (hn : ∀ c ∈ C, ∀ b, ¬ c.bd b) (F : List Ch) : Im (C ++ F) (frz C :: F) := by
  refine ⟨fun w hw => ?_, fun b hb => ?_, fun b hb => ?_, fun b hb => ?_⟩
  · obtain ⟨h1, h2, h3⟩ := Sat.app.1 hw
    refine Sat.cons.2 ⟨fun c hc => h1.h c hc, fun a ha => ⟨fun b hb => hb.elim, fun b hb hf => ?_⟩, h2⟩
    rcases hf with hf | ⟨c, hc, hf⟩ | hf
    · exact hf.elim
    · exact (h3 c hc a ha).2 b hb hf
    · exact hf.elim
  · obtain ⟨x, hx, hb⟩ := hb
    rcases List.mem_cons.1 hx with rfl | hx
    · exact hb.elim
    · exact ⟨x, List.mem_append_right _ hx, hb⟩
  · obtain ⟨x, hx, hb⟩ := hb
    rcases List.mem_cons.1 hx with rfl | hx
    · obtain ⟨c, hc, hf⟩ := hb
      rcases hf with hf | hf | hf
      · exact .inl ⟨c, List.mem_append_left _ hc, hf⟩
      · exact .inr ⟨c, List.mem_append_left _ hc, hf⟩
      · exact absurd hf (hn c hc b)
    · exact .inr ⟨x, List.mem_append_right _ hx, hb⟩
  · obtain ⟨x, hx, hb⟩ := hb
    rcases List.mem_cons.1 hx with rfl | hx
    · rcases hb with hb | ⟨c, hc, hf⟩ | hb
      · exact hb.elim
      · exact ⟨c, List.mem_append_left _ hc, hf⟩
      · exact hb.elim
    · exact ⟨x, List.mem_append_right _ hx, hb⟩
theorem frz_app (C D : List Ch) (F : List Ch) : Im (frz C :: frz D :: F) (frz (C ++ D) :: F) := by
  have hft : ∀ b, fts (C ++ D) b → fts C b ∨ fts D b := fun b ⟨c, hc, hf⟩ => by
    rcases List.mem_append.1 hc with hc | hc
    · exact .inl ⟨c, hc, hf⟩
    · exact .inr ⟨c, hc, hf⟩
  refine ⟨fun w hw => ?_, fun b hb => ?_, fun b hb => ?_, fun b hb => ?_⟩
  · obtain ⟨h1, h2, h3⟩ := Sat.cons.1 hw
    obtain ⟨k1, k2, k3⟩ := Sat.cons.1 h3
    refine Sat.cons.2 ⟨fun c hc => ?_, fun a ha => ⟨fun b hb => hb.elim, fun b hb hf => ?_⟩, k3⟩
    · rcases List.mem_append.1 hc with hc | hc
      · exact h1 c hc
      · exact k1 c hc
    · rcases hf with hf | hf | hf
      · exact hf.elim
      · rcases hft b hf with hf | hf
        · exact (h2 a (List.mem_cons_of_mem _ ha)).2 b hb (.inr (.inl hf))
        · exact (k2 a ha).2 b hb (.inr (.inl hf))
      · exact hf.elim
  · obtain ⟨x, hx, hb⟩ := hb
    rcases List.mem_cons.1 hx with rfl | hx
    · exact hb.elim
    · exact ⟨x, by simp [hx], hb⟩
  · obtain ⟨x, hx, hb⟩ := hb
    rcases List.mem_cons.1 hx with rfl | hx
    · rcases hft b hb with hf | hf
      · exact .inr ⟨frz C, by simp, hf⟩
      · exact .inr ⟨frz D, by simp, hf⟩
    · exact .inr ⟨x, by simp [hx], hb⟩
  · obtain ⟨x, hx, hb⟩ := hb
    rcases List.mem_cons.1 hx with rfl | hx
    · rcases hb with hb | hb | hb
      · exact hb.elim
      · rcases hft b hb with hf | hf
        · exact ⟨frz C, by simp, .inr (.inl hf)⟩
        · exact ⟨frz D, by simp, .inr (.inl hf)⟩
      · exact hb.elim
    · exact ⟨x, by simp [hx], hb⟩
theorem frz_nil (A : List Ch) : Im A (frz [] :: A) := by
  have := im_frz [] (by simp) A
  simpa using this
/-- What a bundle lends. -/
theorem has_frz {F C : List Ch} {c d : Ch} (h : frz C ∈ F) (hd : d ∈ C) (hc : Has [d] c) : Has F c :=
  ⟨fun w hw => hc.P w (Sat.one (hw.h _ h d hd)), hc.wr, hc.rd, fun b hb => by
    obtain ⟨x, hx, hf⟩ := hc.ft b hb
    obtain rfl : x = d := by simpa using hx
    exact ⟨_, h, .inr (.inl ⟨x, hd, hf⟩)⟩⟩
theorem prs_at {A : List Ch} {w : World} {e : TypeId} {v : Value} {L : List (Value × Value)} (h : prs e v L ∈ A) (hw : Sat A w) : OwnW w e v L := hw.h (prs e v L) h
theorem OwnW.form {w : World} {e : TypeId} {v : Value} {L : List (Value × Value)} (h : OwnW w e v L) (hn : 0 < L.length) : ∃ b c, v = .slice (some ⟨b, 0, none⟩) L.length c := by
  rcases h with ⟨_, rfl⟩ | ⟨b, cap, _, rfl, _⟩
  · simp at hn
  · exact ⟨b, cap, rfl⟩
theorem OwnW.cell {w : World} {e : TypeId} {b c j : Nat} {u : Value} {L : List (Value × Value)} (h : OwnW w e (.slice (some ⟨b, 0, none⟩) L.length c) L) (hj : (pc L)[j]? = some u) : w.cell? ⟨b, j, none⟩ = some u := by
  rcases h with ⟨h, _⟩ | ⟨b', cap, cur, e1, hb, h2, h3, h4, h5⟩
  · cases h
  · cases e1
    rw [cell_of_row w b j cur e (0, 0) hb]
    rw [← h5, List.getElem?_take] at hj
    split at hj
    · simpa using hj
    · cases hj
section
variable {P : Program} {E : Env P} {n : Sh} {X : Cx} {s : List K} {fr : Fr} {A A' : List Ch} {ops : Array Oper} {rest : List Oper} {d b c i j : Nat} {ty t e : TypeId} {pos : String} {after : Array Edge} {v u z : Value} {x y : Operand} {by_ : Nat} {L : List (Value × Value)} {w : World} {k1 : IntKind} {dt : TypeDesc}
theorem lnp (k : TO E n X s ops rest ((d, I L.length) :: fr) A) (hx : ev fr x = some v := by rfl) (hm : prs e v L ∈ A := by (repeat (first | apply List.Mem.head | apply List.Mem.tail)); first | done | fail) (ht : lk E.und t = some (.slice e) := by rfl) (hd : Nat.blt d n.n = true := by rfl) :
    TO E n X s ops (⟨some d, .call ⟨.builtin .len, #[x], #[t]⟩, ty, pos, after, none⟩ :: rest) fr A := TO.val (v := I L.length) (fun w h => ⟨fun a ha _ _ _ _ => by
  simp only [execOp, resolve]
  rcases prs_at hm h with ⟨rfl, rfl⟩ | ⟨b, cap, cur, rfl, _⟩ <;> simp [ha.ev hx, invoke, builtin, Builtin.len_, run_underlying (P := P) (E.un ht) w, goInt]⟩) k hd
theorem ixp {m : Nat} {i : Int} (k : TO E n X s ops rest ((d, .pointer (some ⟨b, 2 * i.toNat, none⟩)) :: fr) A) (hx : ev fr x = some (.slice (some ⟨b, 0, none⟩) m c) := by rfl) (hy : ev fr y = some (.int k1 i) := by rfl) (hb : 0 ≤ i ∧ i < m := by omega)
    (ht : lk E.und t = some (.slice e) := by rfl) (he : lk E.inf e = some (z, 2, by_) := by rfl) (hd : Nat.blt d n.n = true := by rfl) : TO E n X s ops (⟨some d, .indexAddr t x y, ty, pos, after, none⟩ :: rest) fr A :=
  TO.val (fun w _ => ⟨fun a ha _ _ _ _ => by
    obtain ⟨inf, hi, _, hsz, _⟩ := E.info he
    simp only [execOp, ha.ev hx, ha.ev hy]
    simp [Instr.indexAt, asIntOf, run_underlying (P := P) (E.un ht) w, hb, sizeOf, typeInfo, hi, hsz, Addr.add_lit, Nat.mul_comm]⟩) k hd
theorem ldp (k : TO E n X s ops rest ((d, u) :: fr) A) (hx : ev fr x = some (.pointer (some ⟨b, j, none⟩)) := by rfl) (hm : prs e (.slice (some ⟨b, 0, none⟩) L.length c) L ∈ A := by (repeat (first | apply List.Mem.head | apply List.Mem.tail)); first | done | fail) (hj : (pc L)[j]? = some u) (ht : lk E.und t = some dt := by rfl) (hg : aggB dt = false := by rfl) (hd : Nat.blt d n.n = true := by rfl) :
    TO E n X s ops (⟨some d, .load t x, ty, pos, after, none⟩ :: rest) fr A := TO.val (fun w h => R_load ht hg hx ((prs_at hm h).cell hj)) k hd
theorem srp {p : Value × Value} (k : TO E n X s ops rest fr (prs e v (L.set i (p.1, u)) :: A')) (hv : v = .slice (some ⟨b, 0, none⟩) L.length c) (hj : j = 2 * i + 1) (hx : ev fr x = some (.pointer (some ⟨b, j, none⟩)) := by rfl) (hy : ev fr y = some u := by rfl) (hm : Tk (prs e v L) A A' := by (repeat (first | apply Tk.here | apply Tk.there)); first | done | fail) (hp : L[i]? = some p)
    (hc : u.oneCell' = true := by first | rfl | assumption) (ht : lk E.inf t = some (z, 1, by_) := by rfl) : TO E n X s ops (⟨none, .store t x y, ty, pos, after, none⟩ :: rest) fr A := ⟨fun w hw => by
  subst hv; subst hj
  have h1 := hw.im hm
  have h2 : OwnW w e (.slice (some ⟨b, 0, none⟩) L.length c) L := h1.mem (List.Mem.head _)
  rcases h2 with ⟨h2, _⟩ | ⟨b', cap, cur, e1, hb, g2, g3, g4, g5⟩
  · cases h2
  · cases e1
    have hi : i < L.length := (List.getElem?_eq_some_iff.1 hp).1
    refine SO_store ht hx hy hc hb (lt_nblt (by omega)) fun w' hU hH => k.run w' (h1.set hU (fun b2 hb => .inl (by show some _ = some _; rw [List.mem_singleton.1 hb])) (.inr ⟨b, c, _, by simp, hH, by simpa using g2, g3, by simpa using g4, ?_⟩) ?_ (fun _ h => h))
    · rw [List.length_set, Array.toList_setIfInBounds, List.take_set, g5, pc_set1 _ _ _ _ hp]
    · rintro b (hb | hb | hb); exact .inl hb; exact hb.elim; exact hb.elim⟩
end
end Go.Art
set_option linter.unusedSimpArgs false
set_option linter.unusedVariables false
namespace Go.Art.Sn
open Go Go.Proofs Go.RowKit Go.Art
section
variable {P : Program} {E : Env P} {n : Sh} {X : Cx} {s : List K} {fr : Fr} {A A' : List Ch} {ops : Array Oper} {rest : List Oper} {d : Nat} {ty t t' el : TypeId} {pos : String} {after : Array Edge} {x : Operand} {w : World} {q : Option Nat} {kd : ChanDir}
theorem run_equalIn_chan (d : Nat) (h1 : (underlying t).run P w = .ok (TypeDesc.chan kd el) w) : (Op.equalIn (d + 1) t (.chan q) (.chan none)).run P w = .ok q.isNone w := by
  cases q <;> simp [Op.equalIn, h1]
theorem R_chNil (ht : lk E.und t = some (.chan kd el)) (hx : ev fr x = some (.chan q)) : OpV P n fr (.binOp .eql t x (.const (.chan none)) t') ty w (.bool q.isNone) w := ⟨fun a ha _ _ _ _ => by
  have hg : (eqGuard .eql t x (.const (.chan none)) (.chan q) (.chan none)).run P w = .ok () w := rfl
  have h1 := run_underlying (P := P) (E.un ht) w
  have h3 : (Op.equal t (.chan q) (.chan none)).run P w = .ok q.isNone w := run_equalIn_chan 9999 h1
  simp only [execOp, ha.ev hx]
  simp [Act.eval, hg, binOp, h3]⟩
theorem chq (k : TO E n X s ops rest ((d, .bool q.isNone) :: fr) A) (hx : ev fr x = some (.chan q) := by rfl) (ht : lk E.und t = some (.chan kd el) := by rfl) (hd : Nat.blt d n.n = true := by rfl) : TO E n X s ops (⟨some d, .binOp .eql t x (.const (.chan none)) t', ty, pos, after, none⟩ :: rest) fr A := TO.val (fun _ _ => R_chNil ht hx) k hd
end
attribute [local irreducible] Fit pt own ro vw mpc lpt vels rels mow lrc dfr
attribute [local irreducible] lmp lme mit velg relg
abbrev TSn : TypeId := 51
/-- A sender's cells. -/
structure SnS where
  ses : Int
  bud : Int
  tmo : Int
  opn : Value
  pts : Value
  ack : Value
  last : Int
  sil : Int
  st : Int
  c : Nat
def SnS.cells (s : SnS) : List Value := [I s.ses, I s.bud, I s.tmo, s.opn, s.pts, s.ack, I s.last, I s.sil, I s.st, chv s.c]
theorem none_tr (p : Nat) (ses bud tmo last sil st : Int) (opn pts ack : Value) (c : Nat) : Tr Tryz.prog 45 [ptr p] [lpt p [I ses, I bud, I tmo, opn, pts, ack, I last, I sil, I st, chv c] TSn] [] fun v D => v = .bool false ∧ D = [] := by
  refine Tr.enter env _ Tryz.func45 (by kernel_rfl) rfl Tryz.ntmps45 rfl (by repeat (first | exact has00 | refine has01 ?_)) fun w0 => ?_
  repeat' first|refine chq ?_|(refine wo ?_; first|(refine ao ?_; first|refine ipe ?_)|refine oa ?_|refine ldl ?_|refine gy ?_)|refine sq ?_|refine rg ?_|refine xc ?_|refine nl ?_|refine rt ?_
  exact r1 ⟨rfl, rfl⟩
theorem sends_tr (p : Nat) (ses bud tmo last sil st : Int) (opn pts ack : Value) (c : Nat) (bs : List Value) (h1 : ∀ v ∈ bs, v.oneCell' = true) (hl : bs.length ≤ 4) :
    Tr Tryz.prog 48 [ptr p] [] [pt p [I ses, I bud, I tmo, opn, pts, ack, I last, I sil, I st, chv c] TSn, chp c 4 bs] fun v D => v.oneCell' = true ∧ D = [pt p [I ses, I bud, I tmo, opn, pts, ack, I last, I sil, I st, chv c] TSn, chp c 4 [], own TyV v bs] := by
  refine Tr.enter env _ Tryz.func48 (by kernel_rfl) rfl Tryz.ntmps48 rfl (by repeat (first | exact has00 | refine has01 ?_)) fun w0 => ?_
  repeat' first|(refine wo ?_; first|refine oa ?_)|refine sq ?_|refine rg ?_|refine xc ?_|refine nl ?_|refine bk ?_
  refine TC.im (own_nil TyV _) ?_
  refine TC.loop (ι := Nat × Value) (fun g => [(2, g.2)]) (fun g => [pt p [I ses, I bud, I tmo, opn, pts, ack, I last, I sil, I st, chv c] TSn, chp c 4 (bs.drop g.1), own TyV g.2 (bs.take g.1)]) (fun g => g.1 ≤ bs.length ∧ g.2.oneCell' = true) (fun g => bs.length - g.1) (0, nS) [0] ⟨Nat.zero_le _, rfl⟩ ?_ (hf := by dsimp only; rw [List.drop_zero, List.take_zero]; first | apply Fit.all | ((repeat (first | (apply Fit.nilN; (repeat (first | apply nrm_nil | apply nrm_cons)); try apply nrm_rfl) | (apply Fit.cons; focus ((repeat (first | apply Tk.here | apply Tk.there)); first | done | fail)))); first | done | fail))
  rintro ⟨k, o⟩ ⟨hk, ho⟩
  dsimp only at hk ho ⊢
  by_cases hlt : k < bs.length
  · rw [List.drop_eq_getElem_cons hlt]
    have hone := h1 _ (List.getElem_mem hlt)
    have htl : (bs.take k).length = k := by rw [List.length_take]; omega
    have hts : bs.take k ++ [bs[k]] = bs.take (k + 1) := (List.take_succ_eq_append_getElem hlt).symm
    generalize bs[k] = u at *
    generalize bs.take k = tk0 at *
    repeat' first|(refine tmr ?_; refine tmsr ?_; refine tma ?_; refine tma ?_; refine tm0 ?_)|refine sli (vs := [u]) (fun v1 => ?_) (h1 := one_cons hone one_nil)|(refine ap (xs := tk0) (news := [u]) (fun o2 => ?_) (h1 := one_cons hone one_nil); refine TO.one (v := o2) (xs := tk0 ++ [u]) fun ho2 => ?_)|(refine wo ?_; first|refine oa ?_|refine ld ?_)|(refine gc ?_; first|refine ct ?_)|refine sq ?_|refine rg ?_|refine xc ?_|refine nl ?_|refine bk ?_|refine xb ?_
    rw [hts]
    exact lp (k + 1, o2) ⟨hlt, ho2⟩ (by dsimp only; omega) (hs := by (repeat (refine Sub.cons rfl (by first | rfl | go_num) ?_)); exact Sub.nil) (hf := by dsimp only; first | apply Fit.all | ((repeat (first | (apply Fit.nilN; (repeat (first | apply nrm_nil | apply nrm_cons)); try apply nrm_rfl) | (apply Fit.cons; focus ((repeat (first | apply Tk.here | apply Tk.there)); first | done | fail)))); first | done | fail))
  · obtain rfl : k = bs.length := by omega
    rw [List.drop_length, List.take_length]
    repeat' first|(refine tmr ?_; refine tmsd ?_; refine tma ?_; refine tma ?_; refine tm0 ?_)|(refine wo ?_; first|refine oa ?_|refine ld ?_)|(refine gc ?_; first|refine cf ?_)|refine sq ?_|refine rg ?_|refine xc ?_|refine nl ?_|refine bk ?_|refine rt ?_
    exact r1 ⟨ho, rfl⟩
theorem says_tr (p : Nat) (ses bud tmo last sil st : Int) (opn pts ack : Value) (c : Nat) (kd sn bn pn rn : Int) (dv : Value) (l : List Int) (hd : dv.oneCell' = true) :
    Tr Tryz.prog 50 [ptr p, .agg #[I kd, I sn, I bn, I pn, I rn, dv]] [vw dv (By l)] [pt p [I ses, I bud, I tmo, opn, pts, ack, I last, I sil, I st, chv c] TSn, chp c 4 []]
      fun _ D => ∃ o, o.oneCell' = true ∧ D = [pt p [I ses, I bud, I tmo, opn, pts, ack, I last, I sil, I st, chv c] TSn, chp c 4 [o], own TyB o (By (putR kd ses bn pn rn l).1)] := by
  refine Tr.enter env _ Tryz.func50 (by kernel_rfl) rfl Tryz.ntmps50 rfl (by repeat (first | exact has00 | refine has01 ?_)) fun w0 => ?_
  repeat' first|(refine gca ?_; first|(refine ca (PPut_tr kd ses bn pn rn dv l hd) ?_; rintro _ _ ⟨o, rfl, ho, rfl⟩))|(refine tmr ?_; refine tma ?_; refine tma ?_; refine tma ?_; refine tml (cs := [I ses, I bud, I tmo, opn, pts, ack, I last, I sil, I st, chv c]) ?_; refine tma ?_; refine tms ?_; refine tm0 ?_)|refine bx fun b => ?_|refine lda ?_|(refine wo ?_; first|refine oa ?_|refine ld ?_|refine sr ?_)|refine sq ?_|refine rg ?_|refine xc ?_|refine nl ?_
  exact e0 ⟨o, ho, rfl⟩
theorem alive_tr (p : Nat) (x0 x1 x2 x3 x4 x5 x6 x7 x9 : Value) (st : Int) : Tr Tryz.prog 46 [ptr p] [lpt p [x0, x1, x2, x3, x4, x5, x6, x7, I st, x9] TSn] [] fun v D => v = .bool (decide (st = 1) || decide (st = 2)) ∧ D = [] := by
  by_cases h : st = 1
  · rw [decide_eq_true h]
    refine Tr.enter env _ Tryz.func46 (by kernel_rfl) rfl Tryz.ntmps46 rfl (by repeat (first | exact has00 | refine has01 ?_)) fun w0 => ?_
    repeat' first|(refine wo ?_; first|(refine ao ?_; first|refine oa ?_)|refine oa ?_|refine ldl ?_|refine gn ?_|(refine gsi (fun hB => ?_) (fun hB => ?_) <;> try (exfalso; omega)))|refine sq ?_|refine rg ?_|refine xc ?_|refine nl ?_|refine rt ?_
    exact r1 ⟨rfl, rfl⟩
  · rw [decide_eq_false h]
    refine Tr.enter env _ Tryz.func46 (by kernel_rfl) rfl Tryz.ntmps46 rfl (by repeat (first | exact has00 | refine has01 ?_)) fun w0 => ?_
    repeat' first|(refine wo ?_; first|(refine ao ?_; first|refine oa ?_)|refine oa ?_|refine ldl ?_|refine gy ?_|(refine gsi (fun hB => ?_) (fun hB => ?_) <;> try (exfalso; omega)))|refine sq ?_|refine rg ?_|refine xc ?_|refine nl ?_|refine rt ?_
    exact r1 ⟨rfl, rfl⟩
theorem State_tr (p : Nat) (ses bud tmo last sil st : Int) (opn pts ack : Value) (c : Nat) : Tr Tryz.prog 17 [ptr p] [lpt p [I ses, I bud, I tmo, opn, pts, ack, I last, I sil, I st, chv c] TSn] [] fun v D => v = I st ∧ D = [] := by
  refine Tr.enter env _ Tryz.func17 (by kernel_rfl) rfl Tryz.ntmps17 rfl (by repeat (first | exact has00 | refine has01 ?_)) fun w0 => ?_
  repeat' first|(refine gca ?_; first|(refine ca (none_tr p ses bud tmo last sil st opn pts ack c) ?_; rintro _ _ ⟨rfl, rfl⟩))|(refine wo ?_; first|refine oa ?_|refine ldl ?_)|(refine gc ?_; first|refine cf ?_)|refine sq ?_|refine rg ?_|refine xc ?_|refine nl ?_|refine sk ?_|refine rt ?_
  exact r1 ⟨rfl, rfl⟩
theorem Left_tr (p : Nat) (ses bud tmo last sil st : Int) (opn pts ack : Value) (c : Nat) : Tr Tryz.prog 19 [ptr p] [lpt p [I ses, I bud, I tmo, opn, pts, ack, I last, I sil, I st, chv c] TSn] [] fun v D => v = I bud ∧ D = [] := by
  refine Tr.enter env _ Tryz.func19 (by kernel_rfl) rfl Tryz.ntmps19 rfl (by repeat (first | exact has00 | refine has01 ?_)) fun w0 => ?_
  repeat' first|(refine gca ?_; first|(refine ca (none_tr p ses bud tmo last sil st opn pts ack c) ?_; rintro _ _ ⟨rfl, rfl⟩))|(refine wo ?_; first|refine oa ?_|refine ldl ?_)|(refine gc ?_; first|refine cf ?_)|refine sq ?_|refine rg ?_|refine xc ?_|refine nl ?_|refine sk ?_|refine rt ?_
  exact r1 ⟨rfl, rfl⟩
end Go.Art.Sn
set_option linter.unusedSimpArgs false
set_option linter.unusedVariables false
namespace Go.Art.Sn
open Go Go.Proofs Go.RowKit Go.Art
attribute [local irreducible] Fit pt own ro vw mpc lpt vels rels mow lrc dfr
attribute [local irreducible] lmp lme mit velg relg
theorem abort_tr (p : Nat) (ses bud tmo last sil st : Int) (opn pts ack : Value) (c : Nat) : Tr Tryz.prog 47 [ptr p] [] [pt p [I ses, I bud, I tmo, opn, pts, ack, I last, I sil, I st, chv c] TSn, chp c 4 []]
    fun _ D => ∃ o, o.oneCell' = true ∧ D = [pt p [I ses, I bud, I tmo, opn, pts, ack, I last, I sil, I st, chv c] TSn, chp c 4 [o], own TyB o (By (putR 4 ses 0 0 (if st = 4 then 1 else 2) []).1)] := by
  by_cases h : st = 4
  · rw [if_pos h]
    refine Tr.enter env _ Tryz.func47 (by kernel_rfl) rfl Tryz.ntmps47 rfl (by repeat (first | exact has00 | refine has01 ?_)) fun w0 => ?_
    repeat' first|(refine gca ?_; first|(refine ca (says_tr p ses bud tmo last sil st opn pts ack c 4 0 0 0 1 nS [] rfl) ?_; rintro _ _ ⟨o, ho, rfl⟩))|refine bdz ?_|(refine wo ?_; first|(refine ao ?_; first|refine oa ?_)|refine oa ?_|refine ld ?_)|(refine gc ?_; first|(refine ci (fun hB => ?_) (fun hB => ?_) <;> try (exfalso; omega)))|refine sq ?_|refine rg ?_|refine xc ?_|refine nl ?_
    exact e0 ⟨o, ho, rfl⟩
  · rw [if_neg h]
    refine Tr.enter env _ Tryz.func47 (by kernel_rfl) rfl Tryz.ntmps47 rfl (by repeat (first | exact has00 | refine has01 ?_)) fun w0 => ?_
    repeat' first|(refine gca ?_; first|(refine ca (says_tr p ses bud tmo last sil st opn pts ack c 4 0 0 0 2 nS [] rfl) ?_; rintro _ _ ⟨o, ho, rfl⟩))|refine bdz ?_|(refine wo ?_; first|(refine ao ?_; first|refine oa ?_)|refine oa ?_|refine ld ?_)|(refine gc ?_; first|(refine ci (fun hB => ?_) (fun hB => ?_) <;> try (exfalso; omega)))|refine sq ?_|refine rg ?_|refine xc ?_|refine nl ?_|refine sk ?_
    exact e0 ⟨o, ho, rfl⟩
/-- How many of the first i are true. -/
def ackN (l : List Bool) : Nat → Nat
  | 0 => 0
  | i + 1 => ackN l i + if l.getD i false then 1 else 0
theorem ackN_le (l : List Bool) : ∀ i, ackN l i ≤ i
  | 0 => Nat.le_refl _
  | i + 1 => by have := ackN_le l i; unfold ackN; split <;> omega
theorem Acked_tr (p : Nat) (ses bud tmo last sil st : Int) (opn pts ack : Value) (c : Nat) (l : List Bool) (hl : l.length ≤ 1099511627776) : Tr Tryz.prog 18 [ptr p] [lpt p [I ses, I bud, I tmo, opn, pts, ack, I last, I sil, I st, chv c] TSn, vw ack (Bo l)] [] fun v D => v = I (ackN l l.length) ∧ D = [] := by
  have hbl := Bo_len l
  refine Tr.enter env _ Tryz.func18 (by kernel_rfl) rfl Tryz.ntmps18 rfl (by repeat (first | exact has00 | refine has01 ?_)) fun w0 => ?_
  repeat' first|(refine gca ?_; first|(refine ca (none_tr p ses bud tmo last sil st opn pts ack c) ?_; rintro _ _ ⟨rfl, rfl⟩))|(refine ln (xs := Bo l) ?_; rw [hbl])|(refine wo ?_; first|refine oa ?_|refine ldl ?_)|(refine gc ?_; first|refine cf ?_)|refine sq ?_|refine rg ?_|refine xc ?_|refine nl ?_|refine sk ?_|refine bk ?_
  refine TC.loop (ι := Nat) (fun i => [(13, I i), (3, I (ackN l i))]) (fun _ => []) (fun i => i ≤ l.length) (fun i => l.length - i) 0 [0, 11, 12] (Nat.zero_le _) ?_ (hf := by first | apply Fit.all | ((repeat (first | (apply Fit.nilN; (repeat (first | apply nrm_nil | apply nrm_cons)); try apply nrm_rfl) | (apply Fit.cons; focus ((repeat (first | apply Tk.here | apply Tk.there)); first | done | fail)))); first | done | fail))
  intro i hi
  have hle := ackN_le l i
  by_cases hlt : i < l.length
  · have hs : ackN l (i + 1) = ackN l i + if l.getD i false then 1 else 0 := rfl
    cases hd : l.getD i false
    · rw [hd, if_neg (by decide), Nat.add_zero] at hs
      repeat' first|(refine lbo (l := l) ?_; rw [hd])|(refine wo ?_; first|(refine ao ?_; first|refine aw ?_|refine oa ?_)|refine oa ?_|refine ixmn ?_)|(refine gc ?_; first|refine cf ?_|(refine ci (fun hB => ?_) (fun hB => ?_) <;> try (exfalso; omega)))|refine sq ?_|refine rg ?_|refine xc ?_|refine nl ?_|refine sk ?_|refine bk ?_|refine xb ?_
      exact lp (i + 1) hlt (by omega) (hs := by rw [hs]; (repeat (refine Sub.cons rfl (by first | rfl | go_num) ?_)); exact Sub.nil) (hf := by first | apply Fit.all | ((repeat (first | (apply Fit.nilN; (repeat (first | apply nrm_nil | apply nrm_cons)); try apply nrm_rfl) | (apply Fit.cons; focus ((repeat (first | apply Tk.here | apply Tk.there)); first | done | fail)))); first | done | fail))
    · rw [hd, if_pos rfl] at hs
      repeat' first|(refine lbo (l := l) ?_; rw [hd])|(refine wo ?_; first|(refine ao ?_; first|refine aw ?_|refine oa ?_)|refine oa ?_|refine ixmn ?_)|(refine gc ?_; first|refine ct ?_|(refine ci (fun hB => ?_) (fun hB => ?_) <;> try (exfalso; omega)))|refine sq ?_|refine rg ?_|refine xc ?_|refine nl ?_|refine sk ?_|refine bk ?_|refine xb ?_
      exact lp (i + 1) hlt (by omega) (hs := by rw [hs]; (repeat (refine Sub.cons rfl (by first | rfl | go_num) ?_)); exact Sub.nil) (hf := by first | apply Fit.all | ((repeat (first | (apply Fit.nilN; (repeat (first | apply nrm_nil | apply nrm_cons)); try apply nrm_rfl) | (apply Fit.cons; focus ((repeat (first | apply Tk.here | apply Tk.there)); first | done | fail)))); first | done | fail))
  · obtain rfl : i = l.length := by omega
    repeat' first|(refine wo ?_; first|(refine ao ?_; first|refine oa ?_)|refine oa ?_)|(refine gc ?_; first|(refine ci (fun hB => ?_) (fun hB => ?_) <;> try (exfalso; omega)))|refine sq ?_|refine rg ?_|refine xc ?_|refine nl ?_|refine xe ?_|refine rt ?_
    exact r1 ⟨rfl, rfl⟩
abbrev TPt : TypeId := 75
/-- Where a block's packets come from. -/
abbrev srcV (b : Nat) : Value := .func (.func 33) #[ptr b] #[]
theorem data_tr (p : Nat) (ses bud tmo last sil st : Int) (opn pts ack : Value) (c : Nat) (L : List (Value × Value)) (C : List Ch) (blk : Nat) (sent : Int) (b : Nat) (cv ov sy : Value) (hs : List Value) (t : List Int) (seed : Int) (ls : List (List Int))
    (hE : newE t blk ls = 0) (hc : cv.oneCell' = true) (ho : ov.oneCell' = true) (hL : L[blk]? = some (srcV b, I sent)) (hC : ∀ x ∈ encL b cv ov sy hs t seed blk ls, ∃ d ∈ C, Has [d] x) (hsn : 0 ≤ sent ∧ sent ≤ 1099511627776) (hbu : 0 ≤ bud ∧ bud ≤ 1099511627776) :
    Tr Tryz.prog 51 [ptr p, I blk] [] [pt p [I ses, I bud, I tmo, opn, pts, ack, I last, I sil, I st, chv c] TSn, chp c 4 [], prs TPt pts L, frz C]
      fun _ D => ∃ o, o.oneCell' = true ∧ D = [pt p [I ses, I (bud - 1), I tmo, opn, pts, ack, I blk, I sil, I st, chv c] TSn, chp c 4 [o], prs TPt pts (L.set blk (srcV b, I (sent + 1))), frz C, own TyB o (By (putR 1 ses blk sent 0 (pktW t ls seed blk sent).1).1)] := by
  have hbl : blk < L.length := (List.getElem?_eq_some_iff.1 hL).1
  have g0 := pc_get0 L blk _ hL
  have g1 := pc_get1 L blk _ hL
  have hPk := EPacket_tr b cv ov sy hs t seed blk ls sent hE hc ho
  generalize pktW t ls seed blk sent = PW at *
  refine Tr.enter env _ Tryz.func51 (by kernel_rfl) rfl Tryz.ntmps51 rfl (by repeat (first | exact has00 | refine has01 ?_)) fun w0 => ?_
  refine TC.fact (p := ∃ g q, pts = .slice (some ⟨g, 0, none⟩) L.length q) (fun w hw => (prs_at (e := TPt) (v := pts) (L := L) (by (repeat (first | apply List.Mem.head | apply List.Mem.tail)); first | done | fail) hw).form (by omega)) fun ⟨g, q, hpts⟩ => ?_
  subst hpts
  repeat' first|(refine ixp ?_; rw [Int.toNat_natCast])|(refine wo ?_; first|refine oa ?_|refine ld ?_)|refine sq ?_|refine rg ?_|refine xc ?_|refine nl ?_
  replace g0 : (pc L)[plus0 (2 * blk) 0]? = some (srcV b) := by rw [plus0_eq]; exact g0
  replace g1 : (pc L)[plus0 (2 * blk) 1]? = some (I sent) := by rw [plus0_eq]; exact g1
  refine rs (fun w => OwnW w TPt (.slice (some ⟨g, 0, none⟩) L.length q) L) ?_ (fun w hw => prs_at (by (repeat (first | apply List.Mem.head | apply List.Mem.tail)); first | done | fail) hw)
  refine tka 0 ?_
  refine tka 1 ?_
  refine tka 2 ?_
  refine tk 3 (v := srcV b) (hi := rfl) (fun w h => by exact R_load (E := env) rfl rfl rfl (h.cell g0)) ?_
  refine tka 4 ?_
  refine tka 5 ?_
  refine tka 6 ?_
  refine tk 7 (v := I sent) (hi := rfl) (fun w h => by exact R_load (E := env) rfl rfl rfl (h.cell g1)) ?_
  refine t1 8 ?_
  refine cam (B := []) (first := #[ptr b]) (cap := #[]) (vs := [I sent]) (f := 33) hPk ?_ (hs := Fit.nil) (hp := fun x hx => by obtain ⟨d, hd, h⟩ := hC x hx; exact has_frz (by (repeat (first | apply List.Mem.head | apply List.Mem.tail)); first | done | fail) hd h)
  rintro _ _ ⟨o2, rfl, ho2, rfl⟩
  refine nl ?_
  refine te (fun w hw => prs_at (by (repeat (first | apply List.Mem.head | apply List.Mem.tail)); first | done | fail) hw) ?_
  refine tka 9 ?_
  refine tka 10 ?_
  refine tka 11 ?_
  refine tka 12 ?_
  refine tka 13 ?_
  refine t0 ?_
  repeat' first|(refine gca ?_; first|(refine ca (says_tr p ses bud tmo last sil st opn (.slice (some ⟨g, 0, none⟩) L.length q) ack c 1 0 blk sent 0 o2 PW.1 ho2) ?_; rintro _ _ ⟨o, ho, rfl⟩))|(refine ldp ?_ (hj := g1))|refine bdz ?_|refine srp ?_ rfl (plus0_eq _ _) (hp := hL)|(refine wo ?_; first|(refine ao ?_; first|refine aw ?_)|refine oa ?_|refine ld ?_|refine sr ?_)|refine sq ?_|refine rg ?_|refine xc ?_|refine nl ?_
  exact e0 ⟨o, ho, rfl⟩
end Go.Art.Sn
set_option linter.unusedSimpArgs false
set_option linter.unusedVariables false
namespace Go.Art.Sn
open Go Go.Proofs Go.RowKit Go.Art
theorem turnG_lt (d : List Bool) (b : Nat) (hn : 0 < d.length) : ∀ (r i a : Nat), turnG d b r i = some a → a < d.length ∧ d.getD a false = false
  | 0, _, _, h => by cases h
  | r + 1, i, a, h => by
    unfold turnG at h
    split at h
    · exact turnG_lt d b hn r _ a h
    · rename_i hf
      cases h
      exact ⟨Nat.mod_lt _ hn, by simpa using hf⟩
theorem turnO_lt {d : List Bool} {last : Int} {a : Nat} (h : turnO d last = some a) : a < d.length ∧ d.getD a false = false := by
  by_cases hn : 0 < d.length
  · exact turnG_lt d _ hn _ _ _ h
  · have : d.length = 0 := by omega
    unfold turnO at h; rw [this] at h; cases h
/-- An encoder's handles. -/
structure EnH where
  b : Nat
  cv : Value
  ov : Value
  sy : Value
  hs : List Value
structure EnH.ok (e : EnH) : Prop where
  cv : e.cv.oneCell' = true
  ov : e.ov.oneCell' = true
attribute [local irreducible] Fit pt own ro vw mpc lpt vels rels mow lrc dfr
attribute [local irreducible] lmp lme mit velg relg
/-- All encoders' pieces, from the j-th. -/
def encC (m : MfS) (d : List Int) : Nat → List EnH → List Ch
  | _, [] => []
  | j, e :: r => encP e.b e.cv e.ov e.sy e.hs m.t m.seed j (m.syms d j) ++ encC m d (j + 1) r
theorem encC_app (m : MfS) (d : List Int) : ∀ (l : List EnH) (j : Nat) (e : EnH), encC m d j (l ++ [e]) = encC m d j l ++ encP e.b e.cv e.ov e.sy e.hs m.t m.seed (j + l.length : Nat) (m.syms d (j + l.length : Nat))
  | [], j, e => by simp [encC]
  | a :: l, j, e => by
    have := encC_app m d l (j + 1) e
    simp only [List.cons_append, encC, this, List.append_assoc, List.length_cons]
    rw [show j + 1 + l.length = j + (l.length + 1) by omega]
theorem encC_mem (m : MfS) (d : List Int) : ∀ (l : List EnH) (j i : Nat) (e : EnH), l[i]? = some e → ∀ c ∈ encP e.b e.cv e.ov e.sy e.hs m.t m.seed (j + i : Nat) (m.syms d (j + i : Nat)), c ∈ encC m d j l
  | [], j, i, e, h => by simp at h
  | a :: l, j, 0, e, h => by
    obtain rfl : a = e := by simpa using h
    intro c hc
    exact List.mem_append_left _ hc
  | a :: l, j, i + 1, e, h => by
    intro c hc
    have := encC_mem m d l (j + 1) i e (by simpa using h) c (by rw [show j + 1 + i = j + (i + 1) by omega]; exact hc)
    exact List.mem_append_right _ this
theorem encC_has {m : MfS} {d : List Int} {l : List EnH} {i : Nat} {e : EnH} (h : l[i]? = some e) : ∀ x ∈ encL e.b e.cv e.ov e.sy e.hs m.t m.seed (i : Nat) (m.syms d (i : Nat)), ∃ c ∈ encC m d 0 l, Has [c] x := by
  have hm := encC_mem m d l 0 i e h
  rw [Nat.zero_add] at hm
  have hp : ∀ x ∈ encL e.b e.cv e.ov e.sy e.hs m.t m.seed (i : Nat) (m.syms d (i : Nat)), ∃ c ∈ encP e.b e.cv e.ov e.sy e.hs m.t m.seed (i : Nat) (m.syms d (i : Nat)), Has [c] x := by
    intro x hx
    simp only [List.mem_cons, List.not_mem_nil, or_false] at hx
    rcases hx with rfl | rfl | rfl | rfl | rfl
    · exact ⟨_, List.Mem.head _, by first | (apply has_vw; (repeat (first | apply List.Mem.head | apply List.Mem.tail)); first | done | fail) | (apply has_own; (repeat (first | apply List.Mem.head | apply List.Mem.tail)); first | done | fail) | (apply has_ro; (repeat (first | apply List.Mem.head | apply List.Mem.tail)); first | done | fail) | apply has_nil | ((with_reducible apply has_el); (focus (first | (apply has_vels; (repeat (first | apply List.Mem.head | apply List.Mem.tail)); first | done | fail) | (apply has_rels; (repeat (first | apply List.Mem.head | apply List.Mem.tail)); first | done | fail))); omega) | (apply has_pt; (repeat (first | apply List.Mem.head | apply List.Mem.tail)); first | done | fail) | (apply has_lpt; (repeat (first | apply List.Mem.head | apply List.Mem.tail)); first | done | fail) | (apply has_vels; (repeat (first | apply List.Mem.head | apply List.Mem.tail)); first | done | fail) | (apply has_rels; (repeat (first | apply List.Mem.head | apply List.Mem.tail)); first | done | fail) | with_reducible assumption | ((with_reducible apply has_elg); (focus (first | (apply has_velg; (repeat (first | apply List.Mem.head | apply List.Mem.tail)); first | done | fail) | (apply has_relg; (repeat (first | apply List.Mem.head | apply List.Mem.tail)); first | done | fail))); omega) | (apply has_velg; (repeat (first | apply List.Mem.head | apply List.Mem.tail)); first | done | fail) | (apply has_relg; (repeat (first | apply List.Mem.head | apply List.Mem.tail)); first | done | fail) | (apply has_vwf; (repeat (first | apply List.Mem.head | apply List.Mem.tail)); first | done | fail)⟩
    · exact ⟨_, List.Mem.tail _ (List.Mem.head _), by first | (apply has_vw; (repeat (first | apply List.Mem.head | apply List.Mem.tail)); first | done | fail) | (apply has_own; (repeat (first | apply List.Mem.head | apply List.Mem.tail)); first | done | fail) | (apply has_ro; (repeat (first | apply List.Mem.head | apply List.Mem.tail)); first | done | fail) | apply has_nil | ((with_reducible apply has_el); (focus (first | (apply has_vels; (repeat (first | apply List.Mem.head | apply List.Mem.tail)); first | done | fail) | (apply has_rels; (repeat (first | apply List.Mem.head | apply List.Mem.tail)); first | done | fail))); omega) | (apply has_pt; (repeat (first | apply List.Mem.head | apply List.Mem.tail)); first | done | fail) | (apply has_lpt; (repeat (first | apply List.Mem.head | apply List.Mem.tail)); first | done | fail) | (apply has_vels; (repeat (first | apply List.Mem.head | apply List.Mem.tail)); first | done | fail) | (apply has_rels; (repeat (first | apply List.Mem.head | apply List.Mem.tail)); first | done | fail) | with_reducible assumption | ((with_reducible apply has_elg); (focus (first | (apply has_velg; (repeat (first | apply List.Mem.head | apply List.Mem.tail)); first | done | fail) | (apply has_relg; (repeat (first | apply List.Mem.head | apply List.Mem.tail)); first | done | fail))); omega) | (apply has_velg; (repeat (first | apply List.Mem.head | apply List.Mem.tail)); first | done | fail) | (apply has_relg; (repeat (first | apply List.Mem.head | apply List.Mem.tail)); first | done | fail) | (apply has_vwf; (repeat (first | apply List.Mem.head | apply List.Mem.tail)); first | done | fail)⟩
    · exact ⟨_, List.Mem.tail _ (List.Mem.tail _ (List.Mem.head _)), by first | (apply has_vw; (repeat (first | apply List.Mem.head | apply List.Mem.tail)); first | done | fail) | (apply has_own; (repeat (first | apply List.Mem.head | apply List.Mem.tail)); first | done | fail) | (apply has_ro; (repeat (first | apply List.Mem.head | apply List.Mem.tail)); first | done | fail) | apply has_nil | ((with_reducible apply has_el); (focus (first | (apply has_vels; (repeat (first | apply List.Mem.head | apply List.Mem.tail)); first | done | fail) | (apply has_rels; (repeat (first | apply List.Mem.head | apply List.Mem.tail)); first | done | fail))); omega) | (apply has_pt; (repeat (first | apply List.Mem.head | apply List.Mem.tail)); first | done | fail) | (apply has_lpt; (repeat (first | apply List.Mem.head | apply List.Mem.tail)); first | done | fail) | (apply has_vels; (repeat (first | apply List.Mem.head | apply List.Mem.tail)); first | done | fail) | (apply has_rels; (repeat (first | apply List.Mem.head | apply List.Mem.tail)); first | done | fail) | with_reducible assumption | ((with_reducible apply has_elg); (focus (first | (apply has_velg; (repeat (first | apply List.Mem.head | apply List.Mem.tail)); first | done | fail) | (apply has_relg; (repeat (first | apply List.Mem.head | apply List.Mem.tail)); first | done | fail))); omega) | (apply has_velg; (repeat (first | apply List.Mem.head | apply List.Mem.tail)); first | done | fail) | (apply has_relg; (repeat (first | apply List.Mem.head | apply List.Mem.tail)); first | done | fail) | (apply has_vwf; (repeat (first | apply List.Mem.head | apply List.Mem.tail)); first | done | fail)⟩
    · exact ⟨_, List.Mem.tail _ (List.Mem.tail _ (List.Mem.tail _ (List.Mem.head _))), by first | (apply has_vw; (repeat (first | apply List.Mem.head | apply List.Mem.tail)); first | done | fail) | (apply has_own; (repeat (first | apply List.Mem.head | apply List.Mem.tail)); first | done | fail) | (apply has_ro; (repeat (first | apply List.Mem.head | apply List.Mem.tail)); first | done | fail) | apply has_nil | ((with_reducible apply has_el); (focus (first | (apply has_vels; (repeat (first | apply List.Mem.head | apply List.Mem.tail)); first | done | fail) | (apply has_rels; (repeat (first | apply List.Mem.head | apply List.Mem.tail)); first | done | fail))); omega) | (apply has_pt; (repeat (first | apply List.Mem.head | apply List.Mem.tail)); first | done | fail) | (apply has_lpt; (repeat (first | apply List.Mem.head | apply List.Mem.tail)); first | done | fail) | (apply has_vels; (repeat (first | apply List.Mem.head | apply List.Mem.tail)); first | done | fail) | (apply has_rels; (repeat (first | apply List.Mem.head | apply List.Mem.tail)); first | done | fail) | with_reducible assumption | ((with_reducible apply has_elg); (focus (first | (apply has_velg; (repeat (first | apply List.Mem.head | apply List.Mem.tail)); first | done | fail) | (apply has_relg; (repeat (first | apply List.Mem.head | apply List.Mem.tail)); first | done | fail))); omega) | (apply has_velg; (repeat (first | apply List.Mem.head | apply List.Mem.tail)); first | done | fail) | (apply has_relg; (repeat (first | apply List.Mem.head | apply List.Mem.tail)); first | done | fail) | (apply has_vwf; (repeat (first | apply List.Mem.head | apply List.Mem.tail)); first | done | fail)⟩
    · exact ⟨_, List.Mem.tail _ (List.Mem.tail _ (List.Mem.tail _ (List.Mem.tail _ (List.Mem.head _)))), by first | (apply has_vw; (repeat (first | apply List.Mem.head | apply List.Mem.tail)); first | done | fail) | (apply has_own; (repeat (first | apply List.Mem.head | apply List.Mem.tail)); first | done | fail) | (apply has_ro; (repeat (first | apply List.Mem.head | apply List.Mem.tail)); first | done | fail) | apply has_nil | ((with_reducible apply has_el); (focus (first | (apply has_vels; (repeat (first | apply List.Mem.head | apply List.Mem.tail)); first | done | fail) | (apply has_rels; (repeat (first | apply List.Mem.head | apply List.Mem.tail)); first | done | fail))); omega) | (apply has_pt; (repeat (first | apply List.Mem.head | apply List.Mem.tail)); first | done | fail) | (apply has_lpt; (repeat (first | apply List.Mem.head | apply List.Mem.tail)); first | done | fail) | (apply has_vels; (repeat (first | apply List.Mem.head | apply List.Mem.tail)); first | done | fail) | (apply has_rels; (repeat (first | apply List.Mem.head | apply List.Mem.tail)); first | done | fail) | with_reducible assumption | ((with_reducible apply has_elg); (focus (first | (apply has_velg; (repeat (first | apply List.Mem.head | apply List.Mem.tail)); first | done | fail) | (apply has_relg; (repeat (first | apply List.Mem.head | apply List.Mem.tail)); first | done | fail))); omega) | (apply has_velg; (repeat (first | apply List.Mem.head | apply List.Mem.tail)); first | done | fail) | (apply has_relg; (repeat (first | apply List.Mem.head | apply List.Mem.tail)); first | done | fail) | (apply has_vwf; (repeat (first | apply List.Mem.head | apply List.Mem.tail)); first | done | fail)⟩
  intro x hx
  obtain ⟨c, hc, hh⟩ := hp x hx
  exact ⟨c, hm c hc, hh⟩
/-- A sender's state, and its handles. -/
structure SP where
  ses : Int
  bud : Int
  tmo : Int
  last : Int
  sil : Int
  st : Int
  m : MfS
  d : List Int
  sent : List Int
  ack : List Bool
  ob : List Int
structure SH where
  opn : Value
  pts : Value
  ack : Value
  c : Nat
  es : List EnH
def prsL : List EnH → List Int → List (Value × Value)
  | e :: r, n :: q => (srcV e.b, I n) :: prsL r q
  | _, _ => []
theorem prsL_get : ∀ {es : List EnH} {l : List Int} {i : Nat} {e : EnH} {n : Int}, es[i]? = some e → l[i]? = some n → (prsL es l)[i]? = some (srcV e.b, I n)
  | [], _, i, e, n, h, _ => by simp at h
  | _ :: _, [], i, e, n, _, h => by simp at h
  | a :: r, b :: q, 0, e, n, h, h2 => by simp at h h2; subst h; subst h2; rfl
  | a :: r, b :: q, i + 1, e, n, h, h2 => by simpa [prsL] using prsL_get (es := r) (l := q) (i := i) (by simpa using h) (by simpa using h2)
theorem prsL_set : ∀ {es : List EnH} {l : List Int} {i : Nat} {e : EnH} (n : Int), es[i]? = some e → (prsL es l).set i (srcV e.b, I n) = prsL es (l.set i n)
  | [], l, i, e, n, h => by simp at h
  | _ :: _, [], i, e, n, _ => by simp [prsL]
  | a :: r, b :: q, 0, e, n, h => by simp at h; subst h; rfl
  | a :: r, b :: q, i + 1, e, n, h => by simp [prsL, prsL_set (es := r) (l := q) (i := i) n (by simpa using h)]
abbrev sndP (p : Nat) (h : SH) (s : SP) : List Ch :=
  [pt p [I s.ses, I s.bud, I s.tmo, h.opn, h.pts, h.ack, I s.last, I s.sil, I s.st, chv h.c] TSn, own TyB h.opn (By s.ob), prs TPt h.pts (prsL h.es s.sent), own TyO h.ack (Bo s.ack), chp h.c 4 [], frz (encC s.m s.d 0 h.es)]
abbrev sndQ (p : Nat) (h : SH) (s : SP) (o : Value) (os : List Value) (outs : List (List Int)) : List Ch :=
  [pt p [I s.ses, I s.bud, I s.tmo, h.opn, h.pts, h.ack, I s.last, I s.sil, I s.st, chv h.c] TSn, own TyB h.opn (By s.ob), prs TPt h.pts (prsL h.es s.sent), own TyO h.ack (Bo s.ack), chp h.c 4 [], frz (encC s.m s.d 0 h.es), own TyV o os, relg y8 os outs]
def SP.alive (s : SP) : Prop := s.st = 1 ∨ s.st = 2
instance (s : SP) : Decidable s.alive := by unfold SP.alive; infer_instance
/-- What a tick does. -/
def SP.tick (s : SP) : SP × List (List Int) :=
  if s.alive then
    if s.tmo ≤ s.sil + 1 then ({ s with sil := s.sil + 1, st := if s.bud = 0 then 4 else 5 }, [(putR 4 s.ses 0 0 (if s.bud = 0 then 1 else 2) []).1])
    else match turnO s.ack s.last with
      | none => ({ s with sil := s.sil + 1 }, [(putR 5 s.ses 0 0 0 s.ob).1])
      | some a => if s.st = 1 then ({ s with sil := s.sil + 1 }, [(putR 5 s.ses 0 0 0 s.ob).1])
        else if 0 < s.bud then ({ s with sil := s.sil + 1, bud := s.bud - 1, last := a, sent := s.sent.set a (s.sent.getD a 0 + 1) }, [(putR 1 s.ses a (s.sent.getD a 0) 0 (pktW s.m.t (s.m.syms s.d a) s.m.seed a (s.sent.getD a 0)).1).1])
        else ({ s with sil := s.sil + 1 }, [])
  else (s, [])
structure SP.ok (s : SP) (h : SH) : Prop where
  n1 : s.sent.length = s.ack.length
  n2 : h.es.length = s.ack.length
  n3 : s.ack.length ≤ 4294967295
  enc : ∀ (j : Nat) (e : EnH), h.es[j]? = some e → e.ok ∧ newE s.m.t j (s.m.syms s.d j) = 0
  bud : 0 ≤ s.bud ∧ s.bud ≤ 2147483647
  tmo : 1 ≤ s.tmo ∧ s.tmo ≤ 2147483647
  sil : 0 ≤ s.sil ∧ s.sil ≤ s.tmo
  last : -1 ≤ s.last ∧ s.last ≤ 4294967295
  sent : ∀ j, 0 ≤ s.sent.getD j 0 ∧ s.sent.getD j 0 + s.bud ≤ 2147483647
  alv : s.alive → s.sil < s.tmo
  opn : h.opn.oneCell' = true
theorem one_out {o o1 : Value} {l : List Int} {A F : List Ch} (hf : Fit A [own TyV o [o1], own TyB o1 (By l)] F) : Im A (own TyV o [o1] :: relg y8 [o1] [l] :: F) := by
  unfold Fit at hf
  refine Im.trans hf (Im.cons _ ?_)
  refine Im.trans (relg_nil (g := y8) _) ?_
  exact snoc_own (g := y8) (e := TyB) (hs := []) (ls := []) (v := o1) (l := l) rfl (by first | apply Fit.all | ((repeat (first | (apply Fit.nilN; (repeat (first | apply nrm_nil | apply nrm_cons)); try apply nrm_rfl) | (apply Fit.cons; focus ((repeat (first | apply Tk.here | apply Tk.there)); first | done | fail)))); first | done | fail))
theorem Tick_tr (p : Nat) (h : SH) (s : SP) (hk : s.ok h) : Tr Tryz.prog 15 [ptr p] [] (sndP p h s)
    fun v D => ∃ o os, v = tup2 o (I 0) ∧ o.oneCell' = true ∧ os.length = s.tick.2.length ∧ D = sndQ p h s.tick.1 o os s.tick.2 := by
  have hsl := hk.sil
  have hop := hk.opn
  have htm := hk.tmo
  have hla := hk.last
  by_cases ha : s.alive
  rotate_left
  · rw [show s.tick = (s, []) from if_neg ha]
    have hal : (decide (s.st = 1) || decide (s.st = 2)) = false := by
      unfold SP.alive at ha
      rw [decide_eq_false (by omega), decide_eq_false (by omega)]; rfl
    refine Tr.enter env _ Tryz.func15 (by kernel_rfl) rfl Tryz.ntmps15 rfl (by repeat (first | exact has00 | refine has01 ?_)) fun w0 => ?_
    repeat' first|(refine gca ?_; first|(refine ca (none_tr p s.ses s.bud s.tmo s.last _ s.st h.opn h.pts h.ack h.c) ?_; rintro _ _ ⟨rfl, rfl⟩)|(refine ca (alive_tr p _ _ _ _ _ _ _ _ _ s.st) ?_; rintro _ _ ⟨rfl, rfl⟩; rw [hal])|(refine ca (abort_tr p s.ses s.bud s.tmo s.last _ _ h.opn h.pts h.ack h.c) ?_; rintro _ _ ⟨o1, ho1, rfl⟩)|(refine ca (says_tr p s.ses s.bud s.tmo s.last (s.sil + 1) s.st h.opn h.pts h.ack h.c 5 0 0 0 0 h.opn s.ob hk.opn) ?_; rintro _ _ ⟨o1, ho1, rfl⟩)|(refine ca (sends_tr p s.ses s.bud s.tmo s.last (s.sil + 1) 4 h.opn h.pts h.ack h.c [o1] (one_cons ho1 one_nil) (by simp)) ?_; rintro o _ ⟨ho, rfl⟩)|(refine ca (sends_tr p s.ses s.bud s.tmo s.last (s.sil + 1) 5 h.opn h.pts h.ack h.c [o1] (one_cons ho1 one_nil) (by simp)) ?_; rintro o _ ⟨ho, rfl⟩)|(refine ca (sends_tr p s.ses s.bud s.tmo s.last (s.sil + 1) s.st h.opn h.pts h.ack h.c [o1] (one_cons ho1 one_nil) (by simp)) ?_; rintro o _ ⟨ho, rfl⟩))|refine bdz ?_|(refine wo ?_; first|refine oa ?_)|(refine gc ?_; first|refine ct ?_|refine cf ?_)|refine sq ?_|refine rg ?_|refine xc ?_|refine nl ?_|refine bk ?_|refine rt ?_
    refine TX.im (relg_nil (g := y8) _) ?_
    refine TX.im (own_nil TyV _) ?_
    exact r2 ⟨nS, [], rfl, rfl, rfl, rfl⟩
  have hal : (decide (s.st = 1) || decide (s.st = 2)) = true := by
    unfold SP.alive at ha
    rcases ha with ha | ha <;> simp [ha]
  have hT := Turn_tr h.ack s.ack s.last (by omega) (by have := hk.n3; omega)
  cases hto : turnO s.ack s.last with
  | none =>
    rw [hto] at hT
    have e2 : ¬ s.tmo ≤ s.sil + 1 → s.tick = ({ s with sil := s.sil + 1 }, [(putR 5 s.ses 0 0 0 s.ob).1]) := fun hti => by rw [SP.tick, if_pos ha, if_neg hti, hto]
    have e1a : s.tmo ≤ s.sil + 1 → s.bud = 0 → s.tick = ({ s with sil := s.sil + 1, st := 4 }, [(putR 4 s.ses 0 0 1 []).1]) := fun hti hb => by rw [SP.tick, if_pos ha, if_pos hti, if_pos hb, if_pos hb]
    have e1b : s.tmo ≤ s.sil + 1 → ¬ s.bud = 0 → s.tick = ({ s with sil := s.sil + 1, st := 5 }, [(putR 4 s.ses 0 0 2 []).1]) := fun hti hb => by rw [SP.tick, if_pos ha, if_pos hti, if_neg hb, if_neg hb]
    refine Tr.enter env _ Tryz.func15 (by kernel_rfl) rfl Tryz.ntmps15 rfl (by repeat (first | exact has00 | refine has01 ?_)) fun w0 => ?_
    repeat' first|(refine gca ?_; first|(refine ca (none_tr p s.ses s.bud s.tmo s.last _ s.st h.opn h.pts h.ack h.c) ?_; rintro _ _ ⟨rfl, rfl⟩)|(refine ca (alive_tr p _ _ _ _ _ _ _ _ _ s.st) ?_; rintro _ _ ⟨rfl, rfl⟩; rw [hal])|(refine ca (abort_tr p s.ses s.bud s.tmo s.last _ _ h.opn h.pts h.ack h.c) ?_; rintro _ _ ⟨o1, ho1, rfl⟩)|(refine ca (says_tr p s.ses s.bud s.tmo s.last (s.sil + 1) s.st h.opn h.pts h.ack h.c 5 0 0 0 0 h.opn s.ob hk.opn) ?_; rintro _ _ ⟨o1, ho1, rfl⟩)|(refine ca (sends_tr p s.ses s.bud s.tmo s.last (s.sil + 1) 4 h.opn h.pts h.ack h.c [o1] (one_cons ho1 one_nil) (by simp)) ?_; rintro o _ ⟨ho, rfl⟩)|(refine ca (sends_tr p s.ses s.bud s.tmo s.last (s.sil + 1) 5 h.opn h.pts h.ack h.c [o1] (one_cons ho1 one_nil) (by simp)) ?_; rintro o _ ⟨ho, rfl⟩)|(refine ca (sends_tr p s.ses s.bud s.tmo s.last (s.sil + 1) s.st h.opn h.pts h.ack h.c [o1] (one_cons ho1 one_nil) (by simp)) ?_; rintro o _ ⟨ho, rfl⟩))|refine bdz ?_|(refine wo ?_; first|(refine ao ?_; first|refine aw ?_)|refine oa ?_|refine ld ?_|refine sr ?_)|(refine gc ?_; first|refine cf ?_)|refine sq ?_|refine rg ?_|refine xc ?_|refine nl ?_|refine sk ?_|refine bk ?_|refine xb ?_
    refine rs (fun w => w.heap[p]? = some (.cells [I s.ses, I s.bud, I s.tmo, h.opn, h.pts, h.ack, I s.last, I (s.sil + 1), I s.st, chv h.c].toArray TSn (0, 0))) ?_ (fun w hw => pt_at (by (repeat (first | apply List.Mem.head | apply List.Mem.tail)); first | done | fail) hw)
    refine tka 0 ?_
    refine tka 1 ?_
    refine tka 2 ?_
    refine tkl 3 (cs := [I s.ses, I s.bud, I s.tmo, h.opn, h.pts, h.ack, I s.last, I (s.sil + 1), I s.st, chv h.c]) (fun w h => h) ?_
    refine tka 4 ?_
    refine tka 5 ?_
    refine tka 6 ?_
    refine tkl 7 (cs := [I s.ses, I s.bud, I s.tmo, h.opn, h.pts, h.ack, I s.last, I (s.sil + 1), I s.st, chv h.c]) (fun w h => h) ?_
    refine t1 8 ?_
    refine ca hT ?_
    rintro _ _ ⟨rfl, rfl⟩
    unfold turnV
    refine nl ?_
    refine te (fun w hw => pt_at (by (repeat (first | apply List.Mem.head | apply List.Mem.tail)); first | done | fail) hw) ?_
    refine tka 9 ?_
    refine tka 10 ?_
    refine tka 11 ?_
    refine tka 12 ?_
    refine tka 13 ?_
    refine t0 ?_
    repeat' first|(refine gca ?_; first|(refine ca (none_tr p s.ses s.bud s.tmo s.last _ s.st h.opn h.pts h.ack h.c) ?_; rintro _ _ ⟨rfl, rfl⟩)|(refine ca (alive_tr p _ _ _ _ _ _ _ _ _ s.st) ?_; rintro _ _ ⟨rfl, rfl⟩; rw [hal])|(refine ca (abort_tr p s.ses s.bud s.tmo s.last _ _ h.opn h.pts h.ack h.c) ?_; rintro _ _ ⟨o1, ho1, rfl⟩)|(refine ca (says_tr p s.ses s.bud s.tmo s.last (s.sil + 1) s.st h.opn h.pts h.ack h.c 5 0 0 0 0 h.opn s.ob hk.opn) ?_; rintro _ _ ⟨o1, ho1, rfl⟩)|(refine ca (sends_tr p s.ses s.bud s.tmo s.last (s.sil + 1) 4 h.opn h.pts h.ack h.c [o1] (one_cons ho1 one_nil) (by simp)) ?_; rintro o _ ⟨ho, rfl⟩)|(refine ca (sends_tr p s.ses s.bud s.tmo s.last (s.sil + 1) 5 h.opn h.pts h.ack h.c [o1] (one_cons ho1 one_nil) (by simp)) ?_; rintro o _ ⟨ho, rfl⟩)|(refine ca (sends_tr p s.ses s.bud s.tmo s.last (s.sil + 1) s.st h.opn h.pts h.ack h.c [o1] (one_cons ho1 one_nil) (by simp)) ?_; rintro o _ ⟨ho, rfl⟩))|refine bdz ?_|(refine wo ?_; first|(refine ao ?_; first|refine oa ?_)|refine oa ?_|refine ld ?_|refine sr ?_|refine gy ?_|refine gn ?_|(refine gsi (fun hB => ?_) (fun hB => ?_) <;> try (exfalso; omega)))|(refine gc ?_; first|refine ct ?_|(refine ci (fun hB => ?_) (fun hB => ?_) <;> try (exfalso; omega)))|refine sq ?_|refine rg ?_|refine xc ?_|refine nl ?_|refine sk ?_|refine bk ?_|refine rt ?_|refine xb ?_|refine rq ?_|refine nq ?_|(refine wq ?_; first|(refine qao ?_; first|refine qa ?_)|refine qa ?_|refine qld ?_)
    all_goals first
      | (rw [e1a (by omega) (by omega)]; refine TX.im (one_out (o := o) (o1 := o1) (by first | apply Fit.all | ((repeat (first | (apply Fit.nilN; (repeat (first | apply nrm_nil | apply nrm_cons)); try apply nrm_rfl) | (apply Fit.cons; focus ((repeat (first | apply Tk.here | apply Tk.there)); first | done | fail)))); first | done | fail))) ?_; exact r2 ⟨o, [o1], rfl, ho, rfl, rfl⟩)
      | (rw [e1b (by omega) (by omega)]; refine TX.im (one_out (o := o) (o1 := o1) (by first | apply Fit.all | ((repeat (first | (apply Fit.nilN; (repeat (first | apply nrm_nil | apply nrm_cons)); try apply nrm_rfl) | (apply Fit.cons; focus ((repeat (first | apply Tk.here | apply Tk.there)); first | done | fail)))); first | done | fail))) ?_; exact r2 ⟨o, [o1], rfl, ho, rfl, rfl⟩)
      | (rw [e2 (by omega)]; refine TX.im (one_out (o := o) (o1 := o1) (by first | apply Fit.all | ((repeat (first | (apply Fit.nilN; (repeat (first | apply nrm_nil | apply nrm_cons)); try apply nrm_rfl) | (apply Fit.cons; focus ((repeat (first | apply Tk.here | apply Tk.there)); first | done | fail)))); first | done | fail))) ?_; exact r2 ⟨o, [o1], rfl, ho, rfl, rfl⟩)
  | some a =>
    rw [hto] at hT
    obtain ⟨hal2, _⟩ := turnO_lt hto
    have he : h.es[a]? = some (h.es[a]'(by have := hk.n2; omega)) := List.getElem?_eq_getElem _
    generalize h.es[a]'(by have := hk.n2; omega) = e at he
    obtain ⟨⟨hec, heo⟩, hE⟩ := hk.enc a e he
    have hsg : s.sent[a]? = some (s.sent.getD a 0) := by
      have : a < s.sent.length := by have := hk.n1; omega
      rw [List.getD_eq_getElem?_getD, List.getElem?_eq_getElem this]; rfl
    have hL := prsL_get he hsg
    have hbd := hk.bud
    have hsn := hk.sent a
    have hps := prsL_set (es := h.es) (l := s.sent) (s.sent.getD a 0 + 1) he
    have e2 : ¬ s.tmo ≤ s.sil + 1 → s.st = 1 → s.tick = ({ s with sil := s.sil + 1 }, [(putR 5 s.ses 0 0 0 s.ob).1]) := fun hti h1 => by rw [SP.tick, if_pos ha, if_neg hti, hto]; dsimp only; rw [if_pos h1]
    have e3 : ¬ s.tmo ≤ s.sil + 1 → ¬ s.st = 1 → 0 < s.bud → s.tick = ({ s with sil := s.sil + 1, bud := s.bud - 1, last := a, sent := s.sent.set a (s.sent.getD a 0 + 1) }, [(putR 1 s.ses a (s.sent.getD a 0) 0 (pktW s.m.t (s.m.syms s.d a) s.m.seed a (s.sent.getD a 0)).1).1]) := fun hti h1 h2 => by rw [SP.tick, if_pos ha, if_neg hti, hto]; dsimp only; rw [if_neg h1, if_pos h2]
    have e4 : ¬ s.tmo ≤ s.sil + 1 → ¬ s.st = 1 → ¬ 0 < s.bud → s.tick = ({ s with sil := s.sil + 1 }, []) := fun hti h1 h2 => by rw [SP.tick, if_pos ha, if_neg hti, hto]; dsimp only; rw [if_neg h1, if_neg h2]
    have e1a : s.tmo ≤ s.sil + 1 → s.bud = 0 → s.tick = ({ s with sil := s.sil + 1, st := 4 }, [(putR 4 s.ses 0 0 1 []).1]) := fun hti hb => by rw [SP.tick, if_pos ha, if_pos hti, if_pos hb, if_pos hb]
    have e1b : s.tmo ≤ s.sil + 1 → ¬ s.bud = 0 → s.tick = ({ s with sil := s.sil + 1, st := 5 }, [(putR 4 s.ses 0 0 2 []).1]) := fun hti hb => by rw [SP.tick, if_pos ha, if_pos hti, if_neg hb, if_neg hb]
    generalize s.sent.getD a 0 = sn at *
    refine Tr.enter env _ Tryz.func15 (by kernel_rfl) rfl Tryz.ntmps15 rfl (by repeat (first | exact has00 | refine has01 ?_)) fun w0 => ?_
    repeat' first|(refine gca ?_; first|(refine ca (none_tr p s.ses s.bud s.tmo s.last _ s.st h.opn h.pts h.ack h.c) ?_; rintro _ _ ⟨rfl, rfl⟩)|(refine ca (alive_tr p _ _ _ _ _ _ _ _ _ s.st) ?_; rintro _ _ ⟨rfl, rfl⟩; rw [hal])|(refine ca (abort_tr p s.ses s.bud s.tmo s.last _ _ h.opn h.pts h.ack h.c) ?_; rintro _ _ ⟨o1, ho1, rfl⟩)|(refine ca (says_tr p s.ses s.bud s.tmo s.last (s.sil + 1) s.st h.opn h.pts h.ack h.c 5 0 0 0 0 h.opn s.ob hk.opn) ?_; rintro _ _ ⟨o1, ho1, rfl⟩)|(refine ca (sends_tr p s.ses s.bud s.tmo s.last (s.sil + 1) 4 h.opn h.pts h.ack h.c [o1] (one_cons ho1 one_nil) (by simp)) ?_; rintro o _ ⟨ho, rfl⟩)|(refine ca (sends_tr p s.ses s.bud s.tmo s.last (s.sil + 1) 5 h.opn h.pts h.ack h.c [o1] (one_cons ho1 one_nil) (by simp)) ?_; rintro o _ ⟨ho, rfl⟩)|(refine ca (sends_tr p s.ses s.bud s.tmo s.last (s.sil + 1) s.st h.opn h.pts h.ack h.c [o1] (one_cons ho1 one_nil) (by simp)) ?_; rintro o _ ⟨ho, rfl⟩))|refine bdz ?_|(refine wo ?_; first|(refine ao ?_; first|refine aw ?_)|refine oa ?_|refine ld ?_|refine sr ?_)|(refine gc ?_; first|refine cf ?_)|refine sq ?_|refine rg ?_|refine xc ?_|refine nl ?_|refine sk ?_|refine bk ?_|refine xb ?_
    refine rs (fun w => w.heap[p]? = some (.cells [I s.ses, I s.bud, I s.tmo, h.opn, h.pts, h.ack, I s.last, I (s.sil + 1), I s.st, chv h.c].toArray TSn (0, 0))) ?_ (fun w hw => pt_at (by (repeat (first | apply List.Mem.head | apply List.Mem.tail)); first | done | fail) hw)
    refine tka 0 ?_
    refine tka 1 ?_
    refine tka 2 ?_
    refine tkl 3 (cs := [I s.ses, I s.bud, I s.tmo, h.opn, h.pts, h.ack, I s.last, I (s.sil + 1), I s.st, chv h.c]) (fun w h => h) ?_
    refine tka 4 ?_
    refine tka 5 ?_
    refine tka 6 ?_
    refine tkl 7 (cs := [I s.ses, I s.bud, I s.tmo, h.opn, h.pts, h.ack, I s.last, I (s.sil + 1), I s.st, chv h.c]) (fun w h => h) ?_
    refine t1 8 ?_
    refine ca hT ?_
    rintro _ _ ⟨rfl, rfl⟩
    unfold turnV
    refine nl ?_
    refine te (fun w hw => pt_at (by (repeat (first | apply List.Mem.head | apply List.Mem.tail)); first | done | fail) hw) ?_
    refine tka 9 ?_
    refine tka 10 ?_
    refine tka 11 ?_
    refine tka 12 ?_
    refine tka 13 ?_
    refine t0 ?_
    repeat' first|(refine gca ?_; first|(refine ca (none_tr p s.ses s.bud s.tmo s.last _ s.st h.opn h.pts h.ack h.c) ?_; rintro _ _ ⟨rfl, rfl⟩)|(refine ca (alive_tr p _ _ _ _ _ _ _ _ _ s.st) ?_; rintro _ _ ⟨rfl, rfl⟩; rw [hal])|(refine ca (abort_tr p s.ses s.bud s.tmo s.last _ _ h.opn h.pts h.ack h.c) ?_; rintro _ _ ⟨o1, ho1, rfl⟩)|(refine ca (says_tr p s.ses s.bud s.tmo s.last (s.sil + 1) s.st h.opn h.pts h.ack h.c 5 0 0 0 0 h.opn s.ob hk.opn) ?_; rintro _ _ ⟨o1, ho1, rfl⟩)|(refine ca (sends_tr p s.ses s.bud s.tmo s.last (s.sil + 1) 4 h.opn h.pts h.ack h.c [o1] (one_cons ho1 one_nil) (by simp)) ?_; rintro o _ ⟨ho, rfl⟩)|(refine ca (sends_tr p s.ses s.bud s.tmo s.last (s.sil + 1) 5 h.opn h.pts h.ack h.c [o1] (one_cons ho1 one_nil) (by simp)) ?_; rintro o _ ⟨ho, rfl⟩)|(refine ca (sends_tr p s.ses s.bud s.tmo s.last (s.sil + 1) s.st h.opn h.pts h.ack h.c [o1] (one_cons ho1 one_nil) (by simp)) ?_; rintro o _ ⟨ho, rfl⟩)|(refine ca (data_tr p s.ses s.bud s.tmo s.last (s.sil + 1) s.st h.opn h.pts h.ack h.c (prsL h.es s.sent) (encC s.m s.d 0 h.es) a sn e.b e.cv e.ov e.sy e.hs s.m.t s.m.seed (s.m.syms s.d a) hE hec heo hL (encC_has he) (by omega) (by omega)) ?_; rintro _ _ ⟨o1, ho1, rfl⟩)|(refine ca (sends_tr p s.ses (s.bud - 1) s.tmo a (s.sil + 1) s.st h.opn h.pts h.ack h.c [o1] (one_cons ho1 one_nil) (by simp)) ?_; rintro o _ ⟨ho, rfl⟩)|(refine ca (sends_tr p s.ses s.bud s.tmo s.last (s.sil + 1) s.st h.opn h.pts h.ack h.c [] one_nil (by simp)) ?_; rintro o _ ⟨ho, rfl⟩))|refine bdz ?_|(refine wo ?_; first|(refine ao ?_; first|refine oa ?_)|refine oa ?_|refine ld ?_|refine sr ?_|refine gy ?_|refine gn ?_|(refine gsi (fun hB => ?_) (fun hB => ?_) <;> try (exfalso; omega)))|(refine gc ?_; first|refine ct ?_|refine cf ?_|(refine ci (fun hB => ?_) (fun hB => ?_) <;> try (exfalso; omega)))|refine sq ?_|refine rg ?_|refine xc ?_|refine nl ?_|refine sk ?_|refine bk ?_|refine rt ?_|refine xb ?_|refine rq ?_|refine nq ?_|(refine wq ?_; first|(refine qao ?_; first|refine qa ?_)|refine qa ?_|refine qld ?_)
    all_goals first
      | (rw [e1a (by omega) (by omega)]; refine TX.im (one_out (o := o) (o1 := o1) (by first | apply Fit.all | ((repeat (first | (apply Fit.nilN; (repeat (first | apply nrm_nil | apply nrm_cons)); try apply nrm_rfl) | (apply Fit.cons; focus ((repeat (first | apply Tk.here | apply Tk.there)); first | done | fail)))); first | done | fail))) ?_; exact r2 ⟨o, [o1], rfl, ho, rfl, rfl⟩)
      | (rw [e1b (by omega) (by omega)]; refine TX.im (one_out (o := o) (o1 := o1) (by first | apply Fit.all | ((repeat (first | (apply Fit.nilN; (repeat (first | apply nrm_nil | apply nrm_cons)); try apply nrm_rfl) | (apply Fit.cons; focus ((repeat (first | apply Tk.here | apply Tk.there)); first | done | fail)))); first | done | fail))) ?_; exact r2 ⟨o, [o1], rfl, ho, rfl, rfl⟩)
      | (rw [e2 (by omega) (by omega)]; refine TX.im (one_out (o := o) (o1 := o1) (by first | apply Fit.all | ((repeat (first | (apply Fit.nilN; (repeat (first | apply nrm_nil | apply nrm_cons)); try apply nrm_rfl) | (apply Fit.cons; focus ((repeat (first | apply Tk.here | apply Tk.there)); first | done | fail)))); first | done | fail))) ?_; exact r2 ⟨o, [o1], rfl, ho, rfl, rfl⟩)
      | (rw [e3 (by omega) (by omega) (by omega), hps]; refine TX.im (one_out (o := o) (o1 := o1) (by first | apply Fit.all | ((repeat (first | (apply Fit.nilN; (repeat (first | apply nrm_nil | apply nrm_cons)); try apply nrm_rfl) | (apply Fit.cons; focus ((repeat (first | apply Tk.here | apply Tk.there)); first | done | fail)))); first | done | fail))) ?_; exact r2 ⟨o, [o1], rfl, ho, rfl, rfl⟩)
      | (rw [e4 (by omega) (by omega) (by omega)]; refine TX.im (relg_nil (g := y8) _) ?_; exact r2 ⟨o, [], rfl, ho, rfl, rfl⟩)
end Go.Art.Sn
