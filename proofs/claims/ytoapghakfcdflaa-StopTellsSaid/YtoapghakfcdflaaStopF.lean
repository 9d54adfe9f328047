/- Which symbols sets leave unknown: the program's walk. Conditions: none. -/
import Derived.Test.YtoapghakfcdflaaStopE
import Derived.Test.YtoapghakfcdflaaY
set_option linter.unusedSimpArgs false
set_option linter.unusedVariables false
namespace Go.Art
open Go Go.Proofs Go.RowKit
attribute [local irreducible] Fit pt own ro vw mpc lpt vels rels mow lrc dfr

def left (G : Int → Option Value) (x : Int) : Bool := (G x).isSome
theorem ones_some {G : Int → Option Value} {x : Int} {v : Value} (h : G x = some v) : ones G x = some (one v) := by unfold ones; rw [h]; rfl
theorem ones_none {G : Int → Option Value} {x : Int} (h : G x = none) : ones G x = none := by unfold ones; rw [h]; rfl
def loneL (many : List Int) (G : Int → Option Value) (ls : List (List Int)) (i : Nat) : List Int := if many.getD i 0 = 1 then (ls.getD i []).filter (left G) else []

theorem lone_tr (i : Nat) (bm bs bl bq b : Nat) (mv s qv : Value) (many q : List Int) (hs : List Value) (ls : List (List Int)) (G : Int → Option Value) (g : Int → List Int) (hi : i < ls.length) (hm : many.length = ls.length) (hq : q.length + (ls.getD i []).length ≤ 1099511627776) :
    Tr Try.prog 86 [I i, ptr bm, ptr bs, ptr bl, ptr bq] [lpt bm [mv] 22, vw mv (Is many), lpt bs [s] 55, vw s hs, vels hs ls, lpt bl [mp b] 97] [pt bq [qv] 111, own 3 qv (Is q), mow 3 b G g none]
    fun v D => v = .tuple #[] ∧ ∃ qv', D = [pt bq [qv'] 111, own 3 qv' (Is (q ++ loneL many G ls i)), mow 3 b G g none] := by
  refine Tr.enter env _ Try.func86 (by kernel_rfl) rfl Try.ntmps86 rfl (by repeat (first | exact has00 | refine has01 ?_)) fun w0 => ?_
  refine TC.els (hs := hs) (ls := ls) (fun hl => ?_)
  refine TC.one (v := qv) (xs := Is q) fun hqv => ?_
  refine TC.fact (mow_one (T := 3) (b := b) (G := G) (f := g) (o := none) (by simp)) fun hGo => ?_
  unfold loneL
  repeat' first|(refine wo ?_; first|(refine ao ?_; first|refine aw ?_|refine aw6 ?_|refine oa ?_|refine adiv ?_|refine amod ?_|refine shr1 ?_|refine shr ?_|refine umod ?_|refine isl ?_|refine ipe ?_|refine ipn ?_|refine ibe ?_)|refine acw ?_|refine ucv ?_|refine anw ?_|refine oa ?_|refine ld ?_|refine ldl ?_|refine lnm ?_|refine ixmn ?_|refine ixm ?_|refine li ?_|refine lv ?_|refine ln ?_|refine ixn ?_|refine ix ?_|refine le ?_|refine sr ?_|refine soi ?_|refine scm ?_|refine sclm ?_|refine schm ?_|refine gy ?_|refine gn ?_|refine gnn ?_|refine gu ?_|(refine gsi (fun hB => ?_) (fun hB => ?_) <;> try (exfalso; omega))|(refine gsn (fun hB => ?_) (fun hB => ?_) <;> try (exfalso; omega))|(refine gs (fun hB => ?_) (fun hB => ?_) <;> try (exfalso; omega)))|(refine gc ?_; first|refine ct ?_|refine cf ?_|(refine ci (fun hB => ?_) (fun hB => ?_) <;> try (exfalso; omega))|(refine cn (fun hB => ?_) (fun hB => ?_) <;> try (exfalso; omega))|(refine cb (fun hB => ?_) (fun hB => ?_) <;> try (exfalso; omega)))|refine sq ?_|refine rg ?_|refine xc ?_|refine nl ?_|refine sk ?_|refine bk ?_|refine xe ?_|refine rt ?_|refine xb ?_
  · rw [if_neg (by assumption)]
    exact r0 ⟨rfl, qv, by rw [List.append_nil]⟩
  rw [if_pos (by assumption)]
  generalize hL : ls.getD i [] = L at *
  refine TC.loop (ι := Nat × Value) (fun j => [(20, I j.1)]) (fun j => [pt bq [j.2] 111, own 3 j.2 (Is (q ++ (L.take j.1).filter (left G)))]) (fun j => j.1 ≤ L.length ∧ j.2.oneCell' = true) (fun j => L.length - j.1) (0, qv) [0, 1, 2, 3, 4, 18, 19] ⟨by simp, hqv⟩ ?_ (hf := by simp only [List.take_zero, List.filter_nil, List.append_nil]; first | apply Fit.all | ((repeat (first | (apply Fit.nilN; (repeat (first | apply nrm_nil | apply nrm_cons)); try apply nrm_rfl) | (apply Fit.cons; focus ((repeat (first | apply Tk.here | apply Tk.there)); first | done | fail)))); first | done | fail))
  rintro ⟨j, qw⟩ ⟨h1, h2⟩
  dsimp only at h1 h2 ⊢
  subst hL
  by_cases hj : j < (ls.getD i []).length
  · have hts := take_succ' hj 0
    have hfl : (((ls.getD i []).take j).filter (left G)).length ≤ j := Nat.le_trans (List.length_filter_le _ _) (List.length_take_le _ _)
    cases hG : G ((ls.getD i []).getD j 0) with
    | none =>
      have hG1 := ones_none hG
      have hf1 : ((ls.getD i []).take (j + 1)).filter (left G) = ((ls.getD i []).take j).filter (left G) := by rw [hts, List.filter_append, List.filter_cons, if_neg (by rw [left, hG]; decide)]; simp
      repeat' first|refine moN ?_ hG1|refine al fun bw => ?_|refine sra ?_|(refine wo ?_; first|(refine ao ?_; first|refine aw ?_|refine aw6 ?_|refine oa ?_|refine adiv ?_|refine amod ?_|refine shr1 ?_|refine shr ?_|refine umod ?_|refine isl ?_|refine ipe ?_|refine ipn ?_|refine ibe ?_)|refine acw ?_|refine ucv ?_|refine anw ?_|refine oa ?_|refine ld ?_|refine ldl ?_|refine lnm ?_|refine ixmn ?_|refine ixm ?_|refine li ?_|refine lv ?_|refine ln ?_|refine ixn ?_|refine ix ?_|refine le ?_|refine sr ?_|refine soi ?_|refine scm ?_|refine sclm ?_|refine schm ?_|refine gy ?_|refine gn ?_|refine gnn ?_|refine gu ?_|(refine gsi (fun hB => ?_) (fun hB => ?_) <;> try (exfalso; omega))|(refine gsn (fun hB => ?_) (fun hB => ?_) <;> try (exfalso; omega))|(refine gs (fun hB => ?_) (fun hB => ?_) <;> try (exfalso; omega)))|(refine gc ?_; first|refine ct ?_|refine cf ?_|(refine ci (fun hB => ?_) (fun hB => ?_) <;> try (exfalso; omega))|(refine cn (fun hB => ?_) (fun hB => ?_) <;> try (exfalso; omega))|(refine cb (fun hB => ?_) (fun hB => ?_) <;> try (exfalso; omega)))|refine sq ?_|refine rg ?_|refine xc ?_|refine nl ?_|refine sk ?_|refine bk ?_|refine xe ?_|refine rt ?_|refine xb ?_
      refine lp (j + 1, qw) ⟨by dsimp only; omega, h2⟩ (hf := by dsimp only; rw [hf1]; first | apply Fit.all | ((repeat (first | (apply Fit.nilN; (repeat (first | apply nrm_nil | apply nrm_cons)); try apply nrm_rfl) | (apply Fit.cons; focus ((repeat (first | apply Tk.here | apply Tk.there)); first | done | fail)))); first | done | fail))
    | some v =>
      have hG1 := ones_some hG
      have hvo := hGo _ _ nofun hG
      have hf1 : q ++ ((ls.getD i []).take (j + 1)).filter (left G) = (q ++ ((ls.getD i []).take j).filter (left G)) ++ [(ls.getD i []).getD j 0] := by rw [hts, List.filter_append, List.append_assoc]; congr 2; rw [List.filter_cons, if_pos (by rw [left, hG]; rfl)]; rfl
      repeat' first|refine moS ?_ hG1|refine al fun bw => ?_|refine sra ?_|refine slii [(ls.getD i []).getD j 0] fun v1 => ?_|(refine wo ?_; first|(refine ao ?_; first|refine aw ?_|refine aw6 ?_|refine oa ?_|refine adiv ?_|refine amod ?_|refine shr1 ?_|refine shr ?_|refine umod ?_|refine isl ?_|refine ipe ?_|refine ipn ?_|refine ibe ?_)|refine acw ?_|refine ucv ?_|refine anw ?_|refine oa ?_|refine ld ?_|refine ldl ?_|refine lnm ?_|refine ixmn ?_|refine ixm ?_|refine li ?_|refine lv ?_|refine ln ?_|refine ixn ?_|refine ix ?_|refine le ?_|refine sr ?_|refine soi ?_|refine scm ?_|refine sclm ?_|refine schm ?_|refine gy ?_|refine gn ?_|refine gnn ?_|refine gu ?_|(refine gsi (fun hB => ?_) (fun hB => ?_) <;> try (exfalso; omega))|(refine gsn (fun hB => ?_) (fun hB => ?_) <;> try (exfalso; omega))|(refine gs (fun hB => ?_) (fun hB => ?_) <;> try (exfalso; omega)))|(refine gc ?_; first|refine ct ?_|refine cf ?_|(refine ci (fun hB => ?_) (fun hB => ?_) <;> try (exfalso; omega))|(refine cn (fun hB => ?_) (fun hB => ?_) <;> try (exfalso; omega))|(refine cb (fun hB => ?_) (fun hB => ?_) <;> try (exfalso; omega)))|refine sq ?_|refine rg ?_|refine xc ?_|refine nl ?_|refine sk ?_|refine bk ?_|refine xe ?_|refine rt ?_|refine xb ?_
      refine api (v := qw) (news := [(ls.getD i []).getD j 0]) fun v2 => ?_
      refine TO.one (v := v2) (xs := Is ((q ++ ((ls.getD i []).take j).filter (left G)) ++ [(ls.getD i []).getD j 0])) fun hv2 => ?_
      repeat' first|(refine wo ?_; first|(refine ao ?_; first|refine aw ?_|refine aw6 ?_|refine oa ?_|refine adiv ?_|refine amod ?_|refine shr1 ?_|refine shr ?_|refine umod ?_|refine isl ?_|refine ipe ?_|refine ipn ?_|refine ibe ?_)|refine acw ?_|refine ucv ?_|refine anw ?_|refine oa ?_|refine ld ?_|refine ldl ?_|refine lnm ?_|refine ixmn ?_|refine ixm ?_|refine li ?_|refine lv ?_|refine ln ?_|refine ixn ?_|refine ix ?_|refine le ?_|refine sr ?_|refine soi ?_|refine scm ?_|refine sclm ?_|refine schm ?_|refine gy ?_|refine gn ?_|refine gnn ?_|refine gu ?_|(refine gsi (fun hB => ?_) (fun hB => ?_) <;> try (exfalso; omega))|(refine gsn (fun hB => ?_) (fun hB => ?_) <;> try (exfalso; omega))|(refine gs (fun hB => ?_) (fun hB => ?_) <;> try (exfalso; omega)))|(refine gc ?_; first|refine ct ?_|refine cf ?_|(refine ci (fun hB => ?_) (fun hB => ?_) <;> try (exfalso; omega))|(refine cn (fun hB => ?_) (fun hB => ?_) <;> try (exfalso; omega))|(refine cb (fun hB => ?_) (fun hB => ?_) <;> try (exfalso; omega)))|refine sq ?_|refine rg ?_|refine xc ?_|refine nl ?_|refine sk ?_|refine bk ?_|refine xe ?_|refine rt ?_|refine xb ?_
      refine lp (j + 1, v2) ⟨by dsimp only; omega, hv2⟩ (hf := by dsimp only; rw [hf1]; first | apply Fit.all | ((repeat (first | (apply Fit.nilN; (repeat (first | apply nrm_nil | apply nrm_cons)); try apply nrm_rfl) | (apply Fit.cons; focus ((repeat (first | apply Tk.here | apply Tk.there)); first | done | fail)))); first | done | fail))
  · obtain rfl : j = (ls.getD i []).length := by omega
    rw [List.take_length]
    repeat' first|(refine wo ?_; first|(refine ao ?_; first|refine aw ?_|refine aw6 ?_|refine oa ?_|refine adiv ?_|refine amod ?_|refine shr1 ?_|refine shr ?_|refine umod ?_|refine isl ?_|refine ipe ?_|refine ipn ?_|refine ibe ?_)|refine acw ?_|refine ucv ?_|refine anw ?_|refine oa ?_|refine ld ?_|refine ldl ?_|refine lnm ?_|refine ixmn ?_|refine ixm ?_|refine li ?_|refine lv ?_|refine ln ?_|refine ixn ?_|refine ix ?_|refine le ?_|refine sr ?_|refine soi ?_|refine scm ?_|refine sclm ?_|refine schm ?_|refine gy ?_|refine gn ?_|refine gnn ?_|refine gu ?_|(refine gsi (fun hB => ?_) (fun hB => ?_) <;> try (exfalso; omega))|(refine gsn (fun hB => ?_) (fun hB => ?_) <;> try (exfalso; omega))|(refine gs (fun hB => ?_) (fun hB => ?_) <;> try (exfalso; omega)))|(refine gc ?_; first|refine ct ?_|refine cf ?_|(refine ci (fun hB => ?_) (fun hB => ?_) <;> try (exfalso; omega))|(refine cn (fun hB => ?_) (fun hB => ?_) <;> try (exfalso; omega))|(refine cb (fun hB => ?_) (fun hB => ?_) <;> try (exfalso; omega)))|refine sq ?_|refine rg ?_|refine xc ?_|refine nl ?_|refine sk ?_|refine bk ?_|refine xe ?_|refine rt ?_|refine xb ?_
    exact e0 ⟨rfl, qw, rfl⟩
end Go.Art
