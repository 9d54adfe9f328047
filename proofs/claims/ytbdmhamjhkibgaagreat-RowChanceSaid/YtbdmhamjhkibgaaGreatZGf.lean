/- Texts put together: Mk KPick KSame Qr Qs Gl Gs Qv Qw KCopy KOver Qx Rz. Conditions: none. -/
import Derived.Test.YtbdmhamjhkibgaaGreatZGe
set_option linter.unusedSimpArgs false
set_option linter.unusedVariables false
namespace Go.Art
open Go Go.Proofs Go.RowKit
attribute [local irreducible] Fit pt own ro vw mpc lpt vels rels mow lrc dfr
attribute [local irreducible] lmp lme mit velg relg

structure MkG where
  i : Nat
  hb : List Int
  ha : List Int
  bv : Value
  av : Value
structure MkH where
  u : AlS
  hb : List Int
  ha : List Int
  bv : Value
  av : Value
theorem alIn_len (t : List Int) (all : Int) : ∀ n, (alIn t all n).B.length + (alIn t all n).A.length ≤ n
  | 0 => by simp [alIn]
  | n + 1 => by
    have := alIn_len t all n
    unfold alIn
    dsimp only
    split
    · rw [srt_length, List.length_cons]; omega
    · split
      · rw [srt_length, List.length_cons]; omega
      · omega
theorem alStep_len {all : Int} {u : AlS} {i j : Int} {B A : List Int} (hB : u.B = i :: B) (hA : u.A = j :: A) : (alStep all u i j B A).B.length + (alStep all u i j B A).A.length ≤ u.B.length + u.A.length := by
  unfold alStep
  dsimp only
  rw [hB, hA]
  split
  · simp only [List.length_cons]; omega
  · split
    · rw [srt_length]; simp only [List.length_cons]; omega
    · simp only [List.length_cons]; omega
theorem setI_get (l : List Int) (i : Nat) (x : Int) (h : i < l.length) : (l.set i x).getD i 0 = x := by rw [getD_set _ _ _ _ h, if_pos rfl]
theorem Make_tr (s : Value) (t : List Int) (hl : 1 ≤ t.length ∧ t.length ≤ 65536) (hw : ∀ w ∈ t, 0 ≤ w ∧ w ≤ 16777215) (hpos : 0 < t.sum) : Tr Tryz.prog 77 [s] [vw s (Is t)] []
    fun v D => ∃ cv ov, v = tup2 (.agg #[I t.sum, cv, ov]) (I 0) ∧ D = [own 3 cv (Is (alF t).cut), own 3 ov (Is (alF t).oth)] ∧ cv.oneCell' = true ∧ ov.oneCell' = true := by
  have hsb := sum_bound hw
  refine Tr.enter env _ Tryz.func77 (by kernel_rfl) rfl Tryz.ntmps77 rfl (by repeat (first | exact has00 | refine has01 ?_)) fun w0 => ?_
  repeat' first|(refine gca ?_; first|(refine ca (Total_tr s t hl hw) ?_; rintro _ _ ⟨rfl, rfl⟩))|refine al fun br => ?_|refine sq_cutX (a := .region 4 _ _) (ι := Nat × Value × Value) (fun i => i.2.1.oneCell' = true ∧ i.2.2.oneCell' = true) (fun i => [(0, s), (2, ptr br), (4, I t.length), (5, I t.sum), (6, ptr i.1)]) (fun i => [vw s (Is t), pt br [I 0, nS, nS] TAl, pt i.1 [I t.sum, i.2.1, i.2.2] TAl, own 3 i.2.1 (Is (List.replicate t.length 0)), own 3 i.2.2 (Is (List.replicate t.length 0))]) ?_ (fun kb => ?_)|refine rs (id := 4) (fun _ => True) ?_ (fun _ _ => trivial)|(refine wo ?_; first|(refine ao ?_; first|refine oa ?_)|refine oa ?_|refine lnm ?_)|(refine gc ?_; first|(refine ci (fun hB => ?_) (fun hB => ?_) <;> try (exfalso; omega)))|refine sq ?_|refine rg ?_|refine xc ?_|refine nl ?_|refine sk ?_
  rotate_left
  · refine tka 0 ?_
    refine tka 1 ?_
    refine tka 3 ?_
    refine t3 2 4 6 ?_ ?_ ?_
    · refine mki fun cv => ?_
      refine TO.one (v := cv) (xs := Is (List.replicate (t.length : Int).toNat 0)) fun hcv => ?_
      repeat' first|refine nl ?_
      refine te (fun _ _ => trivial) ?_
      refine t2 4 6 ?_ ?_
      · refine mki fun ov => ?_
        refine TO.one (v := ov) (xs := Is (List.replicate (t.length : Int).toNat 0)) fun hov => ?_
        repeat' first|refine nl ?_
        refine te (fun _ _ => trivial) ?_
        refine t2 5 6 ?_ ?_
        · refine bdz ?_
          repeat' first|refine nl ?_
          refine te (fun _ _ => trivial) ?_
          refine t1 6 ?_
          refine al fun bo => ?_
          repeat' first|refine nl ?_
          refine te (fun _ _ => trivial) ?_
          refine t1 7 ?_
          refine srz ?_
          repeat' first|refine nl ?_
          refine te (fun _ _ => trivial) ?_
          refine t0 ?_
          refine xc ?_
          exact kb (bo, cv, ov) ⟨hcv, hov⟩ _ _ (by (repeat (refine Sub.cons rfl (by first | rfl | go_num) ?_)); exact Sub.nil) (by first | apply Fit.all | ((repeat (first | (apply Fit.nilN; (repeat (first | apply nrm_nil | apply nrm_cons)); try apply nrm_rfl) | (apply Fit.cons; focus ((repeat (first | apply Tk.here | apply Tk.there)); first | done | fail)))); first | done | fail))
        · refine al fun bo => ?_
          repeat' first|refine nl ?_
          refine te (fun _ _ => trivial) ?_
          refine t1 5 ?_
          refine bdz ?_
          repeat' first|refine nl ?_
          refine te (fun _ _ => trivial) ?_
          refine t1 7 ?_
          refine srz ?_
          repeat' first|refine nl ?_
          refine te (fun _ _ => trivial) ?_
          refine t0 ?_
          refine xc ?_
          exact kb (bo, cv, ov) ⟨hcv, hov⟩ _ _ (by (repeat (refine Sub.cons rfl (by first | rfl | go_num) ?_)); exact Sub.nil) (by first | apply Fit.all | ((repeat (first | (apply Fit.nilN; (repeat (first | apply nrm_nil | apply nrm_cons)); try apply nrm_rfl) | (apply Fit.cons; focus ((repeat (first | apply Tk.here | apply Tk.there)); first | done | fail)))); first | done | fail))
      · refine al fun bo => ?_
        repeat' first|refine nl ?_
        refine te (fun _ _ => trivial) ?_
        refine t1 4 ?_
        refine mki fun ov => ?_
        refine TO.one (v := ov) (xs := Is (List.replicate (t.length : Int).toNat 0)) fun hov => ?_
        repeat' first|refine nl ?_
        refine te (fun _ _ => trivial) ?_
        refine t1 5 ?_
        refine bdz ?_
        repeat' first|refine nl ?_
        refine te (fun _ _ => trivial) ?_
        refine t1 7 ?_
        refine srz ?_
        repeat' first|refine nl ?_
        refine te (fun _ _ => trivial) ?_
        refine t0 ?_
        refine xc ?_
        exact kb (bo, cv, ov) ⟨hcv, hov⟩ _ _ (by (repeat (refine Sub.cons rfl (by first | rfl | go_num) ?_)); exact Sub.nil) (by first | apply Fit.all | ((repeat (first | (apply Fit.nilN; (repeat (first | apply nrm_nil | apply nrm_cons)); try apply nrm_rfl) | (apply Fit.cons; focus ((repeat (first | apply Tk.here | apply Tk.there)); first | done | fail)))); first | done | fail))
    · refine mki fun ov => ?_
      refine TO.one (v := ov) (xs := Is (List.replicate (t.length : Int).toNat 0)) fun hov => ?_
      repeat' first|refine nl ?_
      refine te (fun _ _ => trivial) ?_
      refine t2 2 6 ?_ ?_
      · refine mki fun cv => ?_
        refine TO.one (v := cv) (xs := Is (List.replicate (t.length : Int).toNat 0)) fun hcv => ?_
        repeat' first|refine nl ?_
        refine te (fun _ _ => trivial) ?_
        refine t2 5 6 ?_ ?_
        · refine bdz ?_
          repeat' first|refine nl ?_
          refine te (fun _ _ => trivial) ?_
          refine t1 6 ?_
          refine al fun bo => ?_
          repeat' first|refine nl ?_
          refine te (fun _ _ => trivial) ?_
          refine t1 7 ?_
          refine srz ?_
          repeat' first|refine nl ?_
          refine te (fun _ _ => trivial) ?_
          refine t0 ?_
          refine xc ?_
          exact kb (bo, cv, ov) ⟨hcv, hov⟩ _ _ (by (repeat (refine Sub.cons rfl (by first | rfl | go_num) ?_)); exact Sub.nil) (by first | apply Fit.all | ((repeat (first | (apply Fit.nilN; (repeat (first | apply nrm_nil | apply nrm_cons)); try apply nrm_rfl) | (apply Fit.cons; focus ((repeat (first | apply Tk.here | apply Tk.there)); first | done | fail)))); first | done | fail))
        · refine al fun bo => ?_
          repeat' first|refine nl ?_
          refine te (fun _ _ => trivial) ?_
          refine t1 5 ?_
          refine bdz ?_
          repeat' first|refine nl ?_
          refine te (fun _ _ => trivial) ?_
          refine t1 7 ?_
          refine srz ?_
          repeat' first|refine nl ?_
          refine te (fun _ _ => trivial) ?_
          refine t0 ?_
          refine xc ?_
          exact kb (bo, cv, ov) ⟨hcv, hov⟩ _ _ (by (repeat (refine Sub.cons rfl (by first | rfl | go_num) ?_)); exact Sub.nil) (by first | apply Fit.all | ((repeat (first | (apply Fit.nilN; (repeat (first | apply nrm_nil | apply nrm_cons)); try apply nrm_rfl) | (apply Fit.cons; focus ((repeat (first | apply Tk.here | apply Tk.there)); first | done | fail)))); first | done | fail))
      · refine al fun bo => ?_
        repeat' first|refine nl ?_
        refine te (fun _ _ => trivial) ?_
        refine t1 2 ?_
        refine mki fun cv => ?_
        refine TO.one (v := cv) (xs := Is (List.replicate (t.length : Int).toNat 0)) fun hcv => ?_
        repeat' first|refine nl ?_
        refine te (fun _ _ => trivial) ?_
        refine t1 5 ?_
        refine bdz ?_
        repeat' first|refine nl ?_
        refine te (fun _ _ => trivial) ?_
        refine t1 7 ?_
        refine srz ?_
        repeat' first|refine nl ?_
        refine te (fun _ _ => trivial) ?_
        refine t0 ?_
        refine xc ?_
        exact kb (bo, cv, ov) ⟨hcv, hov⟩ _ _ (by (repeat (refine Sub.cons rfl (by first | rfl | go_num) ?_)); exact Sub.nil) (by first | apply Fit.all | ((repeat (first | (apply Fit.nilN; (repeat (first | apply nrm_nil | apply nrm_cons)); try apply nrm_rfl) | (apply Fit.cons; focus ((repeat (first | apply Tk.here | apply Tk.there)); first | done | fail)))); first | done | fail))
    · refine al fun bo => ?_
      repeat' first|refine nl ?_
      refine te (fun _ _ => trivial) ?_
      refine t2 2 4 ?_ ?_
      · refine mki fun cv => ?_
        refine TO.one (v := cv) (xs := Is (List.replicate (t.length : Int).toNat 0)) fun hcv => ?_
        repeat' first|refine nl ?_
        refine te (fun _ _ => trivial) ?_
        refine t1 4 ?_
        refine mki fun ov => ?_
        refine TO.one (v := ov) (xs := Is (List.replicate (t.length : Int).toNat 0)) fun hov => ?_
        repeat' first|refine nl ?_
        refine te (fun _ _ => trivial) ?_
        refine t1 5 ?_
        refine bdz ?_
        repeat' first|refine nl ?_
        refine te (fun _ _ => trivial) ?_
        refine t1 7 ?_
        refine srz ?_
        repeat' first|refine nl ?_
        refine te (fun _ _ => trivial) ?_
        refine t0 ?_
        refine xc ?_
        exact kb (bo, cv, ov) ⟨hcv, hov⟩ _ _ (by (repeat (refine Sub.cons rfl (by first | rfl | go_num) ?_)); exact Sub.nil) (by first | apply Fit.all | ((repeat (first | (apply Fit.nilN; (repeat (first | apply nrm_nil | apply nrm_cons)); try apply nrm_rfl) | (apply Fit.cons; focus ((repeat (first | apply Tk.here | apply Tk.there)); first | done | fail)))); first | done | fail))
      · refine mki fun ov => ?_
        refine TO.one (v := ov) (xs := Is (List.replicate (t.length : Int).toNat 0)) fun hov => ?_
        repeat' first|refine nl ?_
        refine te (fun _ _ => trivial) ?_
        refine t1 2 ?_
        refine mki fun cv => ?_
        refine TO.one (v := cv) (xs := Is (List.replicate (t.length : Int).toNat 0)) fun hcv => ?_
        repeat' first|refine nl ?_
        refine te (fun _ _ => trivial) ?_
        refine t1 5 ?_
        refine bdz ?_
        repeat' first|refine nl ?_
        refine te (fun _ _ => trivial) ?_
        refine t1 7 ?_
        refine srz ?_
        repeat' first|refine nl ?_
        refine te (fun _ _ => trivial) ?_
        refine t0 ?_
        refine xc ?_
        exact kb (bo, cv, ov) ⟨hcv, hov⟩ _ _ (by (repeat (refine Sub.cons rfl (by first | rfl | go_num) ?_)); exact Sub.nil) (by first | apply Fit.all | ((repeat (first | (apply Fit.nilN; (repeat (first | apply nrm_nil | apply nrm_cons)); try apply nrm_rfl) | (apply Fit.cons; focus ((repeat (first | apply Tk.here | apply Tk.there)); first | done | fail)))); first | done | fail))
  rintro ⟨bo, cv, ov⟩ ⟨hcv, hov⟩
  dsimp only at hcv hov ⊢
  repeat' first|refine mki fun rv => ?_|(refine wo ?_; first|refine oa ?_)|refine sq ?_|refine rg ?_|refine xc ?_|refine nl ?_
  refine TO.one (v := rv) (xs := Is (List.replicate (t.length : Int).toNat 0)) fun hrv => ?_
  repeat' first|refine al fun pa => ?_|(refine wo ?_; first|refine oa ?_|refine lnm ?_)|refine sq ?_|refine rg ?_|refine xc ?_|refine nl ?_|refine bk ?_
  rename_i pb
  refine TC.im (own_nil 3 _) ?_
  refine TC.im (own_nil 3 _) ?_
  have hall := AlJ.all hw hl.2 hpos
  have hln := alIn_len t t.sum
  refine TC.loop (ι := MkG) (fun g => [(31, I g.i)]) (fun g => [own 3 rv (Is (alIn t t.sum g.i).rest), own 3 cv (Is (alIn t t.sum g.i).cut), own 3 ov (Is (alIn t t.sum g.i).oth), pt pb [g.bv] THp, own 3 g.bv (Is g.hb), pt pa [g.av] THp, own 3 g.av (Is g.ha)])
    (fun g => g.i ≤ t.length ∧ Rep g.hb (alIn t t.sum g.i).B ∧ Rep g.ha (alIn t t.sum g.i).A) (fun g => t.length - g.i) ⟨0, [], [], nS, nS⟩ [0, 2, 4, 5, 6, 7, 8, 9, 29, 30] ⟨Nat.zero_le _, Rep.nil, Rep.nil⟩ ?_
  rintro ⟨i, hb, ha, bv, av⟩ ⟨hi, hrb, hra⟩
  dsimp only at hi hrb hra ⊢
  by_cases hlt : i < t.length
  · have hst : alIn t t.sum (i + 1) = ⟨(alIn t t.sum i).rest.set i (t.getD i 0 * t.length), (alIn t t.sum i).cut.set i t.sum, (alIn t t.sum i).oth.set i i, if t.getD i 0 * t.length < t.sum then srt ((i : Int) :: (alIn t t.sum i).B) else (alIn t t.sum i).B, if t.getD i 0 * t.length < t.sum then (alIn t t.sum i).A else if t.getD i 0 * t.length > t.sum then srt ((i : Int) :: (alIn t t.sum i).A) else (alIn t t.sum i).A⟩ := rfl
    have hJ := hall i hi
    have hL := hln i
    have hx := hw _ (mem_getD.2 ⟨i, hlt, rfl⟩)
    have hr0 : 0 ≤ t.getD i 0 * t.length := Int.mul_nonneg hx.1 (by omega)
    have hr1 : t.getD i 0 * t.length ≤ 16777215 * 65536 := Int.mul_le_mul hx.2 (by omega) (by omega) (by omega)
    have hu1 := hJ.lr
    have hu2 := hJ.lc
    have hu3 := hJ.lo
    clear hJ hall hln
    generalize alIn t t.sum i = U at *
    generalize hxe : t.getD i 0 = x at *
    generalize hre : x * (t.length : Int) = r at *
    have hq := setI_get U.rest i r (by omega)
    have hbl := hrb.len
    have hal := hra.len
    repeat' first|refine lie hxe ?_|refine rs (id := 10) (fun w => w.heap[bo]? = some (.cells #[I t.sum, cv, ov] TAl (0, 0)) ∧ (∃ xs, Sl w rv xs ∧ xs.length = t.length) ∧ (∃ xs, Sl w cv xs ∧ xs.length = t.length) ∧ (∃ xs, Sl w ov xs ∧ xs.length = t.length)) ?_ (fun w hw => ⟨pt_at (by (repeat (first | apply List.Mem.head | apply List.Mem.tail)); first | done | fail) hw, ⟨_, has_sl hw (by first | (apply has_vw; (repeat (first | apply List.Mem.head | apply List.Mem.tail)); first | done | fail) | (apply has_own; (repeat (first | apply List.Mem.head | apply List.Mem.tail)); first | done | fail) | (apply has_ro; (repeat (first | apply List.Mem.head | apply List.Mem.tail)); first | done | fail) | apply has_nil | ((with_reducible apply has_el); (focus (first | (apply has_vels; (repeat (first | apply List.Mem.head | apply List.Mem.tail)); first | done | fail) | (apply has_rels; (repeat (first | apply List.Mem.head | apply List.Mem.tail)); first | done | fail))); omega) | (apply has_pt; (repeat (first | apply List.Mem.head | apply List.Mem.tail)); first | done | fail) | (apply has_lpt; (repeat (first | apply List.Mem.head | apply List.Mem.tail)); first | done | fail) | (apply has_vels; (repeat (first | apply List.Mem.head | apply List.Mem.tail)); first | done | fail) | (apply has_rels; (repeat (first | apply List.Mem.head | apply List.Mem.tail)); first | done | fail) | with_reducible assumption | ((with_reducible apply has_elg); (focus (first | (apply has_velg; (repeat (first | apply List.Mem.head | apply List.Mem.tail)); first | done | fail) | (apply has_relg; (repeat (first | apply List.Mem.head | apply List.Mem.tail)); first | done | fail))); omega) | (apply has_velg; (repeat (first | apply List.Mem.head | apply List.Mem.tail)); first | done | fail) | (apply has_relg; (repeat (first | apply List.Mem.head | apply List.Mem.tail)); first | done | fail) | (apply has_vwf; (repeat (first | apply List.Mem.head | apply List.Mem.tail)); first | done | fail) | (apply has_oww; (repeat (first | apply List.Mem.head | apply List.Mem.tail)); first | done | fail)), by rw [Is_len]; exact hu1⟩, ⟨_, has_sl hw (by first | (apply has_vw; (repeat (first | apply List.Mem.head | apply List.Mem.tail)); first | done | fail) | (apply has_own; (repeat (first | apply List.Mem.head | apply List.Mem.tail)); first | done | fail) | (apply has_ro; (repeat (first | apply List.Mem.head | apply List.Mem.tail)); first | done | fail) | apply has_nil | ((with_reducible apply has_el); (focus (first | (apply has_vels; (repeat (first | apply List.Mem.head | apply List.Mem.tail)); first | done | fail) | (apply has_rels; (repeat (first | apply List.Mem.head | apply List.Mem.tail)); first | done | fail))); omega) | (apply has_pt; (repeat (first | apply List.Mem.head | apply List.Mem.tail)); first | done | fail) | (apply has_lpt; (repeat (first | apply List.Mem.head | apply List.Mem.tail)); first | done | fail) | (apply has_vels; (repeat (first | apply List.Mem.head | apply List.Mem.tail)); first | done | fail) | (apply has_rels; (repeat (first | apply List.Mem.head | apply List.Mem.tail)); first | done | fail) | with_reducible assumption | ((with_reducible apply has_elg); (focus (first | (apply has_velg; (repeat (first | apply List.Mem.head | apply List.Mem.tail)); first | done | fail) | (apply has_relg; (repeat (first | apply List.Mem.head | apply List.Mem.tail)); first | done | fail))); omega) | (apply has_velg; (repeat (first | apply List.Mem.head | apply List.Mem.tail)); first | done | fail) | (apply has_relg; (repeat (first | apply List.Mem.head | apply List.Mem.tail)); first | done | fail) | (apply has_vwf; (repeat (first | apply List.Mem.head | apply List.Mem.tail)); first | done | fail) | (apply has_oww; (repeat (first | apply List.Mem.head | apply List.Mem.tail)); first | done | fail)), by rw [Is_len]; exact hu2⟩, ⟨_, has_sl hw (by first | (apply has_vw; (repeat (first | apply List.Mem.head | apply List.Mem.tail)); first | done | fail) | (apply has_own; (repeat (first | apply List.Mem.head | apply List.Mem.tail)); first | done | fail) | (apply has_ro; (repeat (first | apply List.Mem.head | apply List.Mem.tail)); first | done | fail) | apply has_nil | ((with_reducible apply has_el); (focus (first | (apply has_vels; (repeat (first | apply List.Mem.head | apply List.Mem.tail)); first | done | fail) | (apply has_rels; (repeat (first | apply List.Mem.head | apply List.Mem.tail)); first | done | fail))); omega) | (apply has_pt; (repeat (first | apply List.Mem.head | apply List.Mem.tail)); first | done | fail) | (apply has_lpt; (repeat (first | apply List.Mem.head | apply List.Mem.tail)); first | done | fail) | (apply has_vels; (repeat (first | apply List.Mem.head | apply List.Mem.tail)); first | done | fail) | (apply has_rels; (repeat (first | apply List.Mem.head | apply List.Mem.tail)); first | done | fail) | with_reducible assumption | ((with_reducible apply has_elg); (focus (first | (apply has_velg; (repeat (first | apply List.Mem.head | apply List.Mem.tail)); first | done | fail) | (apply has_relg; (repeat (first | apply List.Mem.head | apply List.Mem.tail)); first | done | fail))); omega) | (apply has_velg; (repeat (first | apply List.Mem.head | apply List.Mem.tail)); first | done | fail) | (apply has_relg; (repeat (first | apply List.Mem.head | apply List.Mem.tail)); first | done | fail) | (apply has_vwf; (repeat (first | apply List.Mem.head | apply List.Mem.tail)); first | done | fail) | (apply has_oww; (repeat (first | apply List.Mem.head | apply List.Mem.tail)); first | done | fail)), by rw [Is_len]; exact hu3⟩⟩)|(refine wo ?_; first|(refine ao ?_; first|refine oa ?_)|refine oa ?_|refine ixmn ?_)|(refine gc ?_; first|(refine ci (fun hB => ?_) (fun hB => ?_) <;> try (exfalso; omega)))|refine sq ?_|refine rg ?_|refine xc ?_|refine nl ?_|refine sk ?_|refine bk ?_
    refine tka 0 ?_
    refine tka 1 ?_
    refine tka 2 ?_
    refine tkl 3 (cs := [I t.sum, cv, ov]) (fun w h => h.1) ?_
    refine tka 4 ?_
    refine tka 5 ?_
    refine tkl 6 (cs := [I t.sum, cv, ov]) (fun w h => h.1) ?_
    refine tka 7 ?_
    refine tka 8 ?_
    refine tka 9 ?_
    refine tkw 10 r ?_
    refine tka 11 ?_
    refine tka 12 ?_
    refine tkx 13 (len := t.length) (fun w h => h.2.1) ?_
    refine t1 14 ?_
    refine soi (m := r) (l := U.rest) (j := i) ?_
    repeat' first|refine nl ?_
    refine te (fun w hw => ⟨pt_at (by (repeat (first | apply List.Mem.head | apply List.Mem.tail)); first | done | fail) hw, ⟨_, has_sl hw (by first | (apply has_vw; (repeat (first | apply List.Mem.head | apply List.Mem.tail)); first | done | fail) | (apply has_own; (repeat (first | apply List.Mem.head | apply List.Mem.tail)); first | done | fail) | (apply has_ro; (repeat (first | apply List.Mem.head | apply List.Mem.tail)); first | done | fail) | apply has_nil | ((with_reducible apply has_el); (focus (first | (apply has_vels; (repeat (first | apply List.Mem.head | apply List.Mem.tail)); first | done | fail) | (apply has_rels; (repeat (first | apply List.Mem.head | apply List.Mem.tail)); first | done | fail))); omega) | (apply has_pt; (repeat (first | apply List.Mem.head | apply List.Mem.tail)); first | done | fail) | (apply has_lpt; (repeat (first | apply List.Mem.head | apply List.Mem.tail)); first | done | fail) | (apply has_vels; (repeat (first | apply List.Mem.head | apply List.Mem.tail)); first | done | fail) | (apply has_rels; (repeat (first | apply List.Mem.head | apply List.Mem.tail)); first | done | fail) | with_reducible assumption | ((with_reducible apply has_elg); (focus (first | (apply has_velg; (repeat (first | apply List.Mem.head | apply List.Mem.tail)); first | done | fail) | (apply has_relg; (repeat (first | apply List.Mem.head | apply List.Mem.tail)); first | done | fail))); omega) | (apply has_velg; (repeat (first | apply List.Mem.head | apply List.Mem.tail)); first | done | fail) | (apply has_relg; (repeat (first | apply List.Mem.head | apply List.Mem.tail)); first | done | fail) | (apply has_vwf; (repeat (first | apply List.Mem.head | apply List.Mem.tail)); first | done | fail) | (apply has_oww; (repeat (first | apply List.Mem.head | apply List.Mem.tail)); first | done | fail)), by rw [Is_len]; first | assumption | (rw [List.length_set]; assumption)⟩, ⟨_, has_sl hw (by first | (apply has_vw; (repeat (first | apply List.Mem.head | apply List.Mem.tail)); first | done | fail) | (apply has_own; (repeat (first | apply List.Mem.head | apply List.Mem.tail)); first | done | fail) | (apply has_ro; (repeat (first | apply List.Mem.head | apply List.Mem.tail)); first | done | fail) | apply has_nil | ((with_reducible apply has_el); (focus (first | (apply has_vels; (repeat (first | apply List.Mem.head | apply List.Mem.tail)); first | done | fail) | (apply has_rels; (repeat (first | apply List.Mem.head | apply List.Mem.tail)); first | done | fail))); omega) | (apply has_pt; (repeat (first | apply List.Mem.head | apply List.Mem.tail)); first | done | fail) | (apply has_lpt; (repeat (first | apply List.Mem.head | apply List.Mem.tail)); first | done | fail) | (apply has_vels; (repeat (first | apply List.Mem.head | apply List.Mem.tail)); first | done | fail) | (apply has_rels; (repeat (first | apply List.Mem.head | apply List.Mem.tail)); first | done | fail) | with_reducible assumption | ((with_reducible apply has_elg); (focus (first | (apply has_velg; (repeat (first | apply List.Mem.head | apply List.Mem.tail)); first | done | fail) | (apply has_relg; (repeat (first | apply List.Mem.head | apply List.Mem.tail)); first | done | fail))); omega) | (apply has_velg; (repeat (first | apply List.Mem.head | apply List.Mem.tail)); first | done | fail) | (apply has_relg; (repeat (first | apply List.Mem.head | apply List.Mem.tail)); first | done | fail) | (apply has_vwf; (repeat (first | apply List.Mem.head | apply List.Mem.tail)); first | done | fail) | (apply has_oww; (repeat (first | apply List.Mem.head | apply List.Mem.tail)); first | done | fail)), by rw [Is_len]; first | assumption | (rw [List.length_set]; assumption)⟩, ⟨_, has_sl hw (by first | (apply has_vw; (repeat (first | apply List.Mem.head | apply List.Mem.tail)); first | done | fail) | (apply has_own; (repeat (first | apply List.Mem.head | apply List.Mem.tail)); first | done | fail) | (apply has_ro; (repeat (first | apply List.Mem.head | apply List.Mem.tail)); first | done | fail) | apply has_nil | ((with_reducible apply has_el); (focus (first | (apply has_vels; (repeat (first | apply List.Mem.head | apply List.Mem.tail)); first | done | fail) | (apply has_rels; (repeat (first | apply List.Mem.head | apply List.Mem.tail)); first | done | fail))); omega) | (apply has_pt; (repeat (first | apply List.Mem.head | apply List.Mem.tail)); first | done | fail) | (apply has_lpt; (repeat (first | apply List.Mem.head | apply List.Mem.tail)); first | done | fail) | (apply has_vels; (repeat (first | apply List.Mem.head | apply List.Mem.tail)); first | done | fail) | (apply has_rels; (repeat (first | apply List.Mem.head | apply List.Mem.tail)); first | done | fail) | with_reducible assumption | ((with_reducible apply has_elg); (focus (first | (apply has_velg; (repeat (first | apply List.Mem.head | apply List.Mem.tail)); first | done | fail) | (apply has_relg; (repeat (first | apply List.Mem.head | apply List.Mem.tail)); first | done | fail))); omega) | (apply has_velg; (repeat (first | apply List.Mem.head | apply List.Mem.tail)); first | done | fail) | (apply has_relg; (repeat (first | apply List.Mem.head | apply List.Mem.tail)); first | done | fail) | (apply has_vwf; (repeat (first | apply List.Mem.head | apply List.Mem.tail)); first | done | fail) | (apply has_oww; (repeat (first | apply List.Mem.head | apply List.Mem.tail)); first | done | fail)), by rw [Is_len]; first | assumption | (rw [List.length_set]; assumption)⟩⟩) ?_
    refine tkx 15 (len := t.length) (fun w h => h.2.2.1) ?_
    refine t1 16 ?_
    refine soi (m := t.sum) (l := U.cut) (j := i) ?_
    repeat' first|refine nl ?_
    refine te (fun w hw => ⟨pt_at (by (repeat (first | apply List.Mem.head | apply List.Mem.tail)); first | done | fail) hw, ⟨_, has_sl hw (by first | (apply has_vw; (repeat (first | apply List.Mem.head | apply List.Mem.tail)); first | done | fail) | (apply has_own; (repeat (first | apply List.Mem.head | apply List.Mem.tail)); first | done | fail) | (apply has_ro; (repeat (first | apply List.Mem.head | apply List.Mem.tail)); first | done | fail) | apply has_nil | ((with_reducible apply has_el); (focus (first | (apply has_vels; (repeat (first | apply List.Mem.head | apply List.Mem.tail)); first | done | fail) | (apply has_rels; (repeat (first | apply List.Mem.head | apply List.Mem.tail)); first | done | fail))); omega) | (apply has_pt; (repeat (first | apply List.Mem.head | apply List.Mem.tail)); first | done | fail) | (apply has_lpt; (repeat (first | apply List.Mem.head | apply List.Mem.tail)); first | done | fail) | (apply has_vels; (repeat (first | apply List.Mem.head | apply List.Mem.tail)); first | done | fail) | (apply has_rels; (repeat (first | apply List.Mem.head | apply List.Mem.tail)); first | done | fail) | with_reducible assumption | ((with_reducible apply has_elg); (focus (first | (apply has_velg; (repeat (first | apply List.Mem.head | apply List.Mem.tail)); first | done | fail) | (apply has_relg; (repeat (first | apply List.Mem.head | apply List.Mem.tail)); first | done | fail))); omega) | (apply has_velg; (repeat (first | apply List.Mem.head | apply List.Mem.tail)); first | done | fail) | (apply has_relg; (repeat (first | apply List.Mem.head | apply List.Mem.tail)); first | done | fail) | (apply has_vwf; (repeat (first | apply List.Mem.head | apply List.Mem.tail)); first | done | fail) | (apply has_oww; (repeat (first | apply List.Mem.head | apply List.Mem.tail)); first | done | fail)), by rw [Is_len]; first | assumption | (rw [List.length_set]; assumption)⟩, ⟨_, has_sl hw (by first | (apply has_vw; (repeat (first | apply List.Mem.head | apply List.Mem.tail)); first | done | fail) | (apply has_own; (repeat (first | apply List.Mem.head | apply List.Mem.tail)); first | done | fail) | (apply has_ro; (repeat (first | apply List.Mem.head | apply List.Mem.tail)); first | done | fail) | apply has_nil | ((with_reducible apply has_el); (focus (first | (apply has_vels; (repeat (first | apply List.Mem.head | apply List.Mem.tail)); first | done | fail) | (apply has_rels; (repeat (first | apply List.Mem.head | apply List.Mem.tail)); first | done | fail))); omega) | (apply has_pt; (repeat (first | apply List.Mem.head | apply List.Mem.tail)); first | done | fail) | (apply has_lpt; (repeat (first | apply List.Mem.head | apply List.Mem.tail)); first | done | fail) | (apply has_vels; (repeat (first | apply List.Mem.head | apply List.Mem.tail)); first | done | fail) | (apply has_rels; (repeat (first | apply List.Mem.head | apply List.Mem.tail)); first | done | fail) | with_reducible assumption | ((with_reducible apply has_elg); (focus (first | (apply has_velg; (repeat (first | apply List.Mem.head | apply List.Mem.tail)); first | done | fail) | (apply has_relg; (repeat (first | apply List.Mem.head | apply List.Mem.tail)); first | done | fail))); omega) | (apply has_velg; (repeat (first | apply List.Mem.head | apply List.Mem.tail)); first | done | fail) | (apply has_relg; (repeat (first | apply List.Mem.head | apply List.Mem.tail)); first | done | fail) | (apply has_vwf; (repeat (first | apply List.Mem.head | apply List.Mem.tail)); first | done | fail) | (apply has_oww; (repeat (first | apply List.Mem.head | apply List.Mem.tail)); first | done | fail)), by rw [Is_len]; first | assumption | (rw [List.length_set]; assumption)⟩, ⟨_, has_sl hw (by first | (apply has_vw; (repeat (first | apply List.Mem.head | apply List.Mem.tail)); first | done | fail) | (apply has_own; (repeat (first | apply List.Mem.head | apply List.Mem.tail)); first | done | fail) | (apply has_ro; (repeat (first | apply List.Mem.head | apply List.Mem.tail)); first | done | fail) | apply has_nil | ((with_reducible apply has_el); (focus (first | (apply has_vels; (repeat (first | apply List.Mem.head | apply List.Mem.tail)); first | done | fail) | (apply has_rels; (repeat (first | apply List.Mem.head | apply List.Mem.tail)); first | done | fail))); omega) | (apply has_pt; (repeat (first | apply List.Mem.head | apply List.Mem.tail)); first | done | fail) | (apply has_lpt; (repeat (first | apply List.Mem.head | apply List.Mem.tail)); first | done | fail) | (apply has_vels; (repeat (first | apply List.Mem.head | apply List.Mem.tail)); first | done | fail) | (apply has_rels; (repeat (first | apply List.Mem.head | apply List.Mem.tail)); first | done | fail) | with_reducible assumption | ((with_reducible apply has_elg); (focus (first | (apply has_velg; (repeat (first | apply List.Mem.head | apply List.Mem.tail)); first | done | fail) | (apply has_relg; (repeat (first | apply List.Mem.head | apply List.Mem.tail)); first | done | fail))); omega) | (apply has_velg; (repeat (first | apply List.Mem.head | apply List.Mem.tail)); first | done | fail) | (apply has_relg; (repeat (first | apply List.Mem.head | apply List.Mem.tail)); first | done | fail) | (apply has_vwf; (repeat (first | apply List.Mem.head | apply List.Mem.tail)); first | done | fail) | (apply has_oww; (repeat (first | apply List.Mem.head | apply List.Mem.tail)); first | done | fail)), by rw [Is_len]; first | assumption | (rw [List.length_set]; assumption)⟩⟩) ?_
    refine tkx 17 (len := t.length) (fun w h => h.2.2.2) ?_
    refine t1 18 ?_
    refine soi (m := i) (l := U.oth) (j := i) ?_
    repeat' first|refine nl ?_
    refine te (fun w hw => ⟨pt_at (by (repeat (first | apply List.Mem.head | apply List.Mem.tail)); first | done | fail) hw, ⟨_, has_sl hw (by first | (apply has_vw; (repeat (first | apply List.Mem.head | apply List.Mem.tail)); first | done | fail) | (apply has_own; (repeat (first | apply List.Mem.head | apply List.Mem.tail)); first | done | fail) | (apply has_ro; (repeat (first | apply List.Mem.head | apply List.Mem.tail)); first | done | fail) | apply has_nil | ((with_reducible apply has_el); (focus (first | (apply has_vels; (repeat (first | apply List.Mem.head | apply List.Mem.tail)); first | done | fail) | (apply has_rels; (repeat (first | apply List.Mem.head | apply List.Mem.tail)); first | done | fail))); omega) | (apply has_pt; (repeat (first | apply List.Mem.head | apply List.Mem.tail)); first | done | fail) | (apply has_lpt; (repeat (first | apply List.Mem.head | apply List.Mem.tail)); first | done | fail) | (apply has_vels; (repeat (first | apply List.Mem.head | apply List.Mem.tail)); first | done | fail) | (apply has_rels; (repeat (first | apply List.Mem.head | apply List.Mem.tail)); first | done | fail) | with_reducible assumption | ((with_reducible apply has_elg); (focus (first | (apply has_velg; (repeat (first | apply List.Mem.head | apply List.Mem.tail)); first | done | fail) | (apply has_relg; (repeat (first | apply List.Mem.head | apply List.Mem.tail)); first | done | fail))); omega) | (apply has_velg; (repeat (first | apply List.Mem.head | apply List.Mem.tail)); first | done | fail) | (apply has_relg; (repeat (first | apply List.Mem.head | apply List.Mem.tail)); first | done | fail) | (apply has_vwf; (repeat (first | apply List.Mem.head | apply List.Mem.tail)); first | done | fail) | (apply has_oww; (repeat (first | apply List.Mem.head | apply List.Mem.tail)); first | done | fail)), by rw [Is_len]; first | assumption | (rw [List.length_set]; assumption)⟩, ⟨_, has_sl hw (by first | (apply has_vw; (repeat (first | apply List.Mem.head | apply List.Mem.tail)); first | done | fail) | (apply has_own; (repeat (first | apply List.Mem.head | apply List.Mem.tail)); first | done | fail) | (apply has_ro; (repeat (first | apply List.Mem.head | apply List.Mem.tail)); first | done | fail) | apply has_nil | ((with_reducible apply has_el); (focus (first | (apply has_vels; (repeat (first | apply List.Mem.head | apply List.Mem.tail)); first | done | fail) | (apply has_rels; (repeat (first | apply List.Mem.head | apply List.Mem.tail)); first | done | fail))); omega) | (apply has_pt; (repeat (first | apply List.Mem.head | apply List.Mem.tail)); first | done | fail) | (apply has_lpt; (repeat (first | apply List.Mem.head | apply List.Mem.tail)); first | done | fail) | (apply has_vels; (repeat (first | apply List.Mem.head | apply List.Mem.tail)); first | done | fail) | (apply has_rels; (repeat (first | apply List.Mem.head | apply List.Mem.tail)); first | done | fail) | with_reducible assumption | ((with_reducible apply has_elg); (focus (first | (apply has_velg; (repeat (first | apply List.Mem.head | apply List.Mem.tail)); first | done | fail) | (apply has_relg; (repeat (first | apply List.Mem.head | apply List.Mem.tail)); first | done | fail))); omega) | (apply has_velg; (repeat (first | apply List.Mem.head | apply List.Mem.tail)); first | done | fail) | (apply has_relg; (repeat (first | apply List.Mem.head | apply List.Mem.tail)); first | done | fail) | (apply has_vwf; (repeat (first | apply List.Mem.head | apply List.Mem.tail)); first | done | fail) | (apply has_oww; (repeat (first | apply List.Mem.head | apply List.Mem.tail)); first | done | fail)), by rw [Is_len]; first | assumption | (rw [List.length_set]; assumption)⟩, ⟨_, has_sl hw (by first | (apply has_vw; (repeat (first | apply List.Mem.head | apply List.Mem.tail)); first | done | fail) | (apply has_own; (repeat (first | apply List.Mem.head | apply List.Mem.tail)); first | done | fail) | (apply has_ro; (repeat (first | apply List.Mem.head | apply List.Mem.tail)); first | done | fail) | apply has_nil | ((with_reducible apply has_el); (focus (first | (apply has_vels; (repeat (first | apply List.Mem.head | apply List.Mem.tail)); first | done | fail) | (apply has_rels; (repeat (first | apply List.Mem.head | apply List.Mem.tail)); first | done | fail))); omega) | (apply has_pt; (repeat (first | apply List.Mem.head | apply List.Mem.tail)); first | done | fail) | (apply has_lpt; (repeat (first | apply List.Mem.head | apply List.Mem.tail)); first | done | fail) | (apply has_vels; (repeat (first | apply List.Mem.head | apply List.Mem.tail)); first | done | fail) | (apply has_rels; (repeat (first | apply List.Mem.head | apply List.Mem.tail)); first | done | fail) | with_reducible assumption | ((with_reducible apply has_elg); (focus (first | (apply has_velg; (repeat (first | apply List.Mem.head | apply List.Mem.tail)); first | done | fail) | (apply has_relg; (repeat (first | apply List.Mem.head | apply List.Mem.tail)); first | done | fail))); omega) | (apply has_velg; (repeat (first | apply List.Mem.head | apply List.Mem.tail)); first | done | fail) | (apply has_relg; (repeat (first | apply List.Mem.head | apply List.Mem.tail)); first | done | fail) | (apply has_vwf; (repeat (first | apply List.Mem.head | apply List.Mem.tail)); first | done | fail) | (apply has_oww; (repeat (first | apply List.Mem.head | apply List.Mem.tail)); first | done | fail)), by rw [Is_len]; first | assumption | (rw [List.length_set]; assumption)⟩⟩) ?_
    refine t0 ?_
    have hu1' : i < (U.rest.set i r).length := by rw [List.length_set, hu1]; exact hlt
    by_cases c1 : r < t.sum
    · rw [if_pos c1, if_pos c1] at hst
      repeat' first|(refine gca ?_; first|(refine ca (push_tr pb bv hb i hrb.1 (by omega)) ?_; rintro _ _ ⟨bv', hb', rfl, hh, hp⟩))|refine lie hq ?_|(refine wo ?_; first|(refine ao ?_; first|refine aw ?_|refine oa ?_)|refine oa ?_|refine ixmn ?_)|(refine gc ?_; first|(refine ci (fun hB => ?_) (fun hB => ?_) <;> try (exfalso; omega)))|refine sq ?_|refine rg ?_|refine xc ?_|refine nl ?_|refine bk ?_|refine xb ?_
      refine lp ⟨i + 1, hb', ha, bv', av⟩ ⟨by dsimp only; omega, by dsimp only; rw [hst]; exact hrb.push i hh hp, by dsimp only; rw [hst]; exact hra⟩ (hf := by dsimp only; rw [hst]; first | apply Fit.all | ((repeat (first | (apply Fit.nilN; (repeat (first | apply nrm_nil | apply nrm_cons)); try apply nrm_rfl) | (apply Fit.cons; focus ((repeat (first | apply Tk.here | apply Tk.there)); first | done | fail)))); first | done | fail))
    · rw [if_neg c1, if_neg c1] at hst
      by_cases c2 : r > t.sum
      · rw [if_pos c2] at hst
        repeat' first|(refine gca ?_; first|(refine ca (push_tr pa av ha i hra.1 (by omega)) ?_; rintro _ _ ⟨av', ha', rfl, hh, hp⟩))|refine lie hq ?_|(refine wo ?_; first|(refine ao ?_; first|refine aw ?_|refine oa ?_)|refine oa ?_|refine ixmn ?_)|(refine gc ?_; first|(refine ci (fun hB => ?_) (fun hB => ?_) <;> try (exfalso; omega)))|refine sq ?_|refine rg ?_|refine xc ?_|refine nl ?_|refine bk ?_|refine xb ?_
        refine lp ⟨i + 1, hb, ha', bv, av'⟩ ⟨by dsimp only; omega, by dsimp only; rw [hst]; exact hrb, by dsimp only; rw [hst]; exact hra.push i hh hp⟩ (hf := by dsimp only; rw [hst]; first | apply Fit.all | ((repeat (first | (apply Fit.nilN; (repeat (first | apply nrm_nil | apply nrm_cons)); try apply nrm_rfl) | (apply Fit.cons; focus ((repeat (first | apply Tk.here | apply Tk.there)); first | done | fail)))); first | done | fail))
      · rw [if_neg c2] at hst
        repeat' first|refine lie hq ?_|(refine wo ?_; first|(refine ao ?_; first|refine aw ?_|refine oa ?_)|refine oa ?_|refine ixmn ?_)|(refine gc ?_; first|(refine ci (fun hB => ?_) (fun hB => ?_) <;> try (exfalso; omega)))|refine sq ?_|refine rg ?_|refine xc ?_|refine nl ?_|refine sk ?_|refine bk ?_|refine xb ?_
        refine lp ⟨i + 1, hb, ha, bv, av⟩ ⟨by dsimp only; omega, by dsimp only; rw [hst]; exact hrb, by dsimp only; rw [hst]; exact hra⟩ (hf := by dsimp only; rw [hst]; first | apply Fit.all | ((repeat (first | (apply Fit.nilN; (repeat (first | apply nrm_nil | apply nrm_cons)); try apply nrm_rfl) | (apply Fit.cons; focus ((repeat (first | apply Tk.here | apply Tk.there)); first | done | fail)))); first | done | fail))
  · obtain rfl : i = t.length := by omega
    have hI := (hall t.length (Nat.le_refl _)).done hpos
    have hL := hln t.length
    have hF : alEnd t.sum (alIn t t.sum t.length) = alF t := rfl
    clear hall hln hlt hi
    repeat' first|(refine wo ?_; first|(refine ao ?_; first|refine oa ?_))|(refine gc ?_; first|(refine ci (fun hB => ?_) (fun hB => ?_) <;> try (exfalso; omega)))|refine sq ?_|refine rg ?_|refine xc ?_|refine nl ?_|refine bk ?_|refine xe ?_
    generalize alIn t t.sum t.length = U at *
    refine TC.loop (ι := MkH) (fun _ => []) (fun g => [own 3 rv (Is g.u.rest), own 3 cv (Is g.u.cut), own 3 ov (Is g.u.oth), pt pb [g.bv] THp, own 3 g.bv (Is g.hb), pt pa [g.av] THp, own 3 g.av (Is g.ha)])
      (fun g => AlI t t.sum g.u ∧ g.u.B.length + g.u.A.length ≤ t.length ∧ Rep g.hb g.u.B ∧ Rep g.ha g.u.A ∧ alEnd t.sum g.u = alF t) (fun g => alMu g.u) ⟨U, hb, ha, bv, av⟩ [2, 4, 5, 6, 7, 8, 9] ⟨hI, hL, hrb, hra, hF⟩ ?_
    clear hI hL hrb hra hF
    rintro ⟨u, hb, ha, bv, av⟩ ⟨hI, hL, hrb, hra, hF⟩
    dsimp only at hI hL hrb hra hF ⊢
    have hmu := fun (i j : Int) (B A : List Int) (h1 : u.B = i :: B) (h2 : u.A = j :: A) => alStep_mu (all := t.sum) h1 h2
    have hsl := fun (i j : Int) (B A : List Int) (h1 : u.B = i :: B) (h2 : u.A = j :: A) => alStep_len (all := t.sum) h1 h2
    refine TC.leni (v := bv) (l := hb) fun hbl0 => ?_
    cases hB : u.B with
    | nil =>
      have hbl := hrb.len
      rw [hB, List.length_nil] at hbl
      rw [alEnd_stop hB] at hF
      subst hF
      repeat' first|refine lda ?_|refine srz ?_|(refine wo ?_; first|(refine ao ?_; first|refine oa ?_)|refine oa ?_|refine ld ?_|refine lnm ?_)|(refine gc ?_; first|(refine ci (fun hB => ?_) (fun hB => ?_) <;> try (exfalso; omega)))|refine sq ?_|refine rg ?_|refine xc ?_|refine nl ?_|refine xe ?_|refine rt ?_
      exact rca ⟨cv, ov, rfl, rfl, hcv, hov⟩
    | cons i B =>
      obtain ⟨j, A, hA⟩ : ∃ j A, u.A = j :: A := by
        cases hA : u.A with
        | nil => exact absurd hA (hI.more (by rw [hB]; simp))
        | cons j A => exact ⟨j, A, rfl⟩
      have hmu := hmu i j B A hB hA
      have hsl := hsl i j B A hB hA
      have hI' := hI.step (i := i) (j := j) (B := B) (A := A) (by omega) hB hA
      have hF' := (alEnd_step (all := t.sum) hB hA).symm.trans hF
      have hbi := hI.B i (by rw [hB]; simp)
      have haj := hI.A j (by rw [hA]; simp)
      have hij : i ≠ j := fun e => by subst e; omega
      have hu1 := hI.lr
      have hu2 := hI.lc
      have hu3 := hI.lo
      have hbl := hrb.len
      have hal := hra.len
      rw [hB] at hrb hbl hL hsl
      rw [hA] at hra hal hL hsl
      have hbh := hrb.head
      have hah := hra.head
      rw [List.length_cons] at hbl hal hL hsl
      rw [List.length_cons] at hL hsl
      have hst : alStep t.sum u i j B A = ⟨u.rest.set j.toNat (u.rest.getD j.toNat 0 - (t.sum - u.rest.getD i.toNat 0)), u.cut.set i.toNat (u.rest.getD i.toNat 0), u.oth.set i.toNat j, if u.rest.getD j.toNat 0 - (t.sum - u.rest.getD i.toNat 0) > t.sum then B else if u.rest.getD j.toNat 0 - (t.sum - u.rest.getD i.toNat 0) < t.sum then srt (j :: B) else B, if u.rest.getD j.toNat 0 - (t.sum - u.rest.getD i.toNat 0) > t.sum then j :: A else A⟩ := rfl
      clear hI hF hB hA
      generalize alStep t.sum u i j B A = u' at *
      generalize hri : u.rest.getD i.toNat 0 = ri at *
      generalize hrj : u.rest.getD j.toNat 0 = rj at *
      generalize hre : rj - (t.sum - ri) = r at *
      obtain ⟨⟨i0, i1⟩, i2, i3⟩ := hbi
      obtain ⟨⟨j0, j1⟩, j2, j3, j4⟩ := haj
      have hq := setI_get u.rest j.toNat r (by omega)
      have hu1' : (u.rest.set j.toNat r).length = t.length := by rw [List.length_set]; exact hu1
      repeat' first|refine rs (id := 17) (fun w => w.heap[pa]? = some (.cells #[av] THp (0, 0)) ∧ Sl w av (Is ha)) ?_ (fun w hw => ⟨pt_at (by (repeat (first | apply List.Mem.head | apply List.Mem.tail)); first | done | fail) hw, has_sl hw (by first | (apply has_vw; (repeat (first | apply List.Mem.head | apply List.Mem.tail)); first | done | fail) | (apply has_own; (repeat (first | apply List.Mem.head | apply List.Mem.tail)); first | done | fail) | (apply has_ro; (repeat (first | apply List.Mem.head | apply List.Mem.tail)); first | done | fail) | apply has_nil | ((with_reducible apply has_el); (focus (first | (apply has_vels; (repeat (first | apply List.Mem.head | apply List.Mem.tail)); first | done | fail) | (apply has_rels; (repeat (first | apply List.Mem.head | apply List.Mem.tail)); first | done | fail))); omega) | (apply has_pt; (repeat (first | apply List.Mem.head | apply List.Mem.tail)); first | done | fail) | (apply has_lpt; (repeat (first | apply List.Mem.head | apply List.Mem.tail)); first | done | fail) | (apply has_vels; (repeat (first | apply List.Mem.head | apply List.Mem.tail)); first | done | fail) | (apply has_rels; (repeat (first | apply List.Mem.head | apply List.Mem.tail)); first | done | fail) | with_reducible assumption | ((with_reducible apply has_elg); (focus (first | (apply has_velg; (repeat (first | apply List.Mem.head | apply List.Mem.tail)); first | done | fail) | (apply has_relg; (repeat (first | apply List.Mem.head | apply List.Mem.tail)); first | done | fail))); omega) | (apply has_velg; (repeat (first | apply List.Mem.head | apply List.Mem.tail)); first | done | fail) | (apply has_relg; (repeat (first | apply List.Mem.head | apply List.Mem.tail)); first | done | fail) | (apply has_vwf; (repeat (first | apply List.Mem.head | apply List.Mem.tail)); first | done | fail) | (apply has_oww; (repeat (first | apply List.Mem.head | apply List.Mem.tail)); first | done | fail))⟩)|(refine wo ?_; first|(refine ao ?_; first|refine oa ?_)|refine ld ?_|refine lnm ?_)|(refine gc ?_; first|(refine ci (fun hB => ?_) (fun hB => ?_) <;> try (exfalso; omega)))|refine sq ?_|refine rg ?_|refine xc ?_|refine nl ?_|refine sk ?_|refine bk ?_
      refine tkl 1 (cs := [av]) (fun w h => h.1) ?_
      refine tkx 2 (len := ha.length) (fun w h => ⟨_, h.2, Is_len ha⟩) ?_
      refine tkli 3 (fun w h => h.2) hah ?_
      refine t1 0 ?_
      refine ca (pop_tr pb bv hb hrb.1 (by omega) (by omega)) ?_
      rintro _ _ ⟨bv1, hb1, rfl, rfl, hh1, hp1⟩
      have hrb1 := hrb.pop hh1 hp1
      have hbl1 := hrb1.len
      rw [hbh]
      repeat' first|refine nl ?_
      refine te (fun w hw => ⟨pt_at (by (repeat (first | apply List.Mem.head | apply List.Mem.tail)); first | done | fail) hw, has_sl hw (by first | (apply has_vw; (repeat (first | apply List.Mem.head | apply List.Mem.tail)); first | done | fail) | (apply has_own; (repeat (first | apply List.Mem.head | apply List.Mem.tail)); first | done | fail) | (apply has_ro; (repeat (first | apply List.Mem.head | apply List.Mem.tail)); first | done | fail) | apply has_nil | ((with_reducible apply has_el); (focus (first | (apply has_vels; (repeat (first | apply List.Mem.head | apply List.Mem.tail)); first | done | fail) | (apply has_rels; (repeat (first | apply List.Mem.head | apply List.Mem.tail)); first | done | fail))); omega) | (apply has_pt; (repeat (first | apply List.Mem.head | apply List.Mem.tail)); first | done | fail) | (apply has_lpt; (repeat (first | apply List.Mem.head | apply List.Mem.tail)); first | done | fail) | (apply has_vels; (repeat (first | apply List.Mem.head | apply List.Mem.tail)); first | done | fail) | (apply has_rels; (repeat (first | apply List.Mem.head | apply List.Mem.tail)); first | done | fail) | with_reducible assumption | ((with_reducible apply has_elg); (focus (first | (apply has_velg; (repeat (first | apply List.Mem.head | apply List.Mem.tail)); first | done | fail) | (apply has_relg; (repeat (first | apply List.Mem.head | apply List.Mem.tail)); first | done | fail))); omega) | (apply has_velg; (repeat (first | apply List.Mem.head | apply List.Mem.tail)); first | done | fail) | (apply has_relg; (repeat (first | apply List.Mem.head | apply List.Mem.tail)); first | done | fail) | (apply has_vwf; (repeat (first | apply List.Mem.head | apply List.Mem.tail)); first | done | fail) | (apply has_oww; (repeat (first | apply List.Mem.head | apply List.Mem.tail)); first | done | fail))⟩) ?_
      refine tka 4 ?_
      refine tka 5 ?_
      refine t0 ?_
      repeat' first|refine rs (id := 18) (fun w => w.heap[bo]? = some (.cells #[I t.sum, cv, ov] TAl (0, 0)) ∧ (∃ xs, Sl w cv xs ∧ xs.length = t.length) ∧ (∃ xs, Sl w ov xs ∧ xs.length = t.length) ∧ Sl w rv (Is u.rest)) ?_ (fun w hw => ⟨pt_at (by (repeat (first | apply List.Mem.head | apply List.Mem.tail)); first | done | fail) hw, ⟨_, has_sl hw (by first | (apply has_vw; (repeat (first | apply List.Mem.head | apply List.Mem.tail)); first | done | fail) | (apply has_own; (repeat (first | apply List.Mem.head | apply List.Mem.tail)); first | done | fail) | (apply has_ro; (repeat (first | apply List.Mem.head | apply List.Mem.tail)); first | done | fail) | apply has_nil | ((with_reducible apply has_el); (focus (first | (apply has_vels; (repeat (first | apply List.Mem.head | apply List.Mem.tail)); first | done | fail) | (apply has_rels; (repeat (first | apply List.Mem.head | apply List.Mem.tail)); first | done | fail))); omega) | (apply has_pt; (repeat (first | apply List.Mem.head | apply List.Mem.tail)); first | done | fail) | (apply has_lpt; (repeat (first | apply List.Mem.head | apply List.Mem.tail)); first | done | fail) | (apply has_vels; (repeat (first | apply List.Mem.head | apply List.Mem.tail)); first | done | fail) | (apply has_rels; (repeat (first | apply List.Mem.head | apply List.Mem.tail)); first | done | fail) | with_reducible assumption | ((with_reducible apply has_elg); (focus (first | (apply has_velg; (repeat (first | apply List.Mem.head | apply List.Mem.tail)); first | done | fail) | (apply has_relg; (repeat (first | apply List.Mem.head | apply List.Mem.tail)); first | done | fail))); omega) | (apply has_velg; (repeat (first | apply List.Mem.head | apply List.Mem.tail)); first | done | fail) | (apply has_relg; (repeat (first | apply List.Mem.head | apply List.Mem.tail)); first | done | fail) | (apply has_vwf; (repeat (first | apply List.Mem.head | apply List.Mem.tail)); first | done | fail) | (apply has_oww; (repeat (first | apply List.Mem.head | apply List.Mem.tail)); first | done | fail)), by rw [Is_len]; first | assumption | (rw [List.length_set]; assumption)⟩, ⟨_, has_sl hw (by first | (apply has_vw; (repeat (first | apply List.Mem.head | apply List.Mem.tail)); first | done | fail) | (apply has_own; (repeat (first | apply List.Mem.head | apply List.Mem.tail)); first | done | fail) | (apply has_ro; (repeat (first | apply List.Mem.head | apply List.Mem.tail)); first | done | fail) | apply has_nil | ((with_reducible apply has_el); (focus (first | (apply has_vels; (repeat (first | apply List.Mem.head | apply List.Mem.tail)); first | done | fail) | (apply has_rels; (repeat (first | apply List.Mem.head | apply List.Mem.tail)); first | done | fail))); omega) | (apply has_pt; (repeat (first | apply List.Mem.head | apply List.Mem.tail)); first | done | fail) | (apply has_lpt; (repeat (first | apply List.Mem.head | apply List.Mem.tail)); first | done | fail) | (apply has_vels; (repeat (first | apply List.Mem.head | apply List.Mem.tail)); first | done | fail) | (apply has_rels; (repeat (first | apply List.Mem.head | apply List.Mem.tail)); first | done | fail) | with_reducible assumption | ((with_reducible apply has_elg); (focus (first | (apply has_velg; (repeat (first | apply List.Mem.head | apply List.Mem.tail)); first | done | fail) | (apply has_relg; (repeat (first | apply List.Mem.head | apply List.Mem.tail)); first | done | fail))); omega) | (apply has_velg; (repeat (first | apply List.Mem.head | apply List.Mem.tail)); first | done | fail) | (apply has_relg; (repeat (first | apply List.Mem.head | apply List.Mem.tail)); first | done | fail) | (apply has_vwf; (repeat (first | apply List.Mem.head | apply List.Mem.tail)); first | done | fail) | (apply has_oww; (repeat (first | apply List.Mem.head | apply List.Mem.tail)); first | done | fail)), by rw [Is_len]; first | assumption | (rw [List.length_set]; assumption)⟩, has_sl hw (by first | (apply has_vw; (repeat (first | apply List.Mem.head | apply List.Mem.tail)); first | done | fail) | (apply has_own; (repeat (first | apply List.Mem.head | apply List.Mem.tail)); first | done | fail) | (apply has_ro; (repeat (first | apply List.Mem.head | apply List.Mem.tail)); first | done | fail) | apply has_nil | ((with_reducible apply has_el); (focus (first | (apply has_vels; (repeat (first | apply List.Mem.head | apply List.Mem.tail)); first | done | fail) | (apply has_rels; (repeat (first | apply List.Mem.head | apply List.Mem.tail)); first | done | fail))); omega) | (apply has_pt; (repeat (first | apply List.Mem.head | apply List.Mem.tail)); first | done | fail) | (apply has_lpt; (repeat (first | apply List.Mem.head | apply List.Mem.tail)); first | done | fail) | (apply has_vels; (repeat (first | apply List.Mem.head | apply List.Mem.tail)); first | done | fail) | (apply has_rels; (repeat (first | apply List.Mem.head | apply List.Mem.tail)); first | done | fail) | with_reducible assumption | ((with_reducible apply has_elg); (focus (first | (apply has_velg; (repeat (first | apply List.Mem.head | apply List.Mem.tail)); first | done | fail) | (apply has_relg; (repeat (first | apply List.Mem.head | apply List.Mem.tail)); first | done | fail))); omega) | (apply has_velg; (repeat (first | apply List.Mem.head | apply List.Mem.tail)); first | done | fail) | (apply has_relg; (repeat (first | apply List.Mem.head | apply List.Mem.tail)); first | done | fail) | (apply has_vwf; (repeat (first | apply List.Mem.head | apply List.Mem.tail)); first | done | fail) | (apply has_oww; (repeat (first | apply List.Mem.head | apply List.Mem.tail)); first | done | fail))⟩)|refine sq ?_|refine xc ?_
      refine tka 0 ?_
      refine tkl 1 (cs := [I t.sum, cv, ov]) (fun w h => h.1) ?_
      refine tka 2 ?_
      refine tka 3 ?_
      refine tkl 4 (cs := [I t.sum, cv, ov]) (fun w h => h.1) ?_
      refine tka 5 ?_
      refine tka 6 ?_
      refine tka 7 ?_
      refine tkx 8 (len := t.length) (fun w h => ⟨_, h.2.2.2, by rw [Is_len, hu1]⟩) ?_
      refine tkli 9 (fun w h => h.2.2.2) hri ?_
      refine tka 10 ?_
      refine tkx 11 (len := t.length) (fun w h => h.2.1) ?_
      refine t1 12 ?_
      refine soi (m := ri) (l := u.cut) (j := i.toNat) ?_
      repeat' first|refine nl ?_
      refine te (fun w hw => ⟨pt_at (by (repeat (first | apply List.Mem.head | apply List.Mem.tail)); first | done | fail) hw, ⟨_, has_sl hw (by first | (apply has_vw; (repeat (first | apply List.Mem.head | apply List.Mem.tail)); first | done | fail) | (apply has_own; (repeat (first | apply List.Mem.head | apply List.Mem.tail)); first | done | fail) | (apply has_ro; (repeat (first | apply List.Mem.head | apply List.Mem.tail)); first | done | fail) | apply has_nil | ((with_reducible apply has_el); (focus (first | (apply has_vels; (repeat (first | apply List.Mem.head | apply List.Mem.tail)); first | done | fail) | (apply has_rels; (repeat (first | apply List.Mem.head | apply List.Mem.tail)); first | done | fail))); omega) | (apply has_pt; (repeat (first | apply List.Mem.head | apply List.Mem.tail)); first | done | fail) | (apply has_lpt; (repeat (first | apply List.Mem.head | apply List.Mem.tail)); first | done | fail) | (apply has_vels; (repeat (first | apply List.Mem.head | apply List.Mem.tail)); first | done | fail) | (apply has_rels; (repeat (first | apply List.Mem.head | apply List.Mem.tail)); first | done | fail) | with_reducible assumption | ((with_reducible apply has_elg); (focus (first | (apply has_velg; (repeat (first | apply List.Mem.head | apply List.Mem.tail)); first | done | fail) | (apply has_relg; (repeat (first | apply List.Mem.head | apply List.Mem.tail)); first | done | fail))); omega) | (apply has_velg; (repeat (first | apply List.Mem.head | apply List.Mem.tail)); first | done | fail) | (apply has_relg; (repeat (first | apply List.Mem.head | apply List.Mem.tail)); first | done | fail) | (apply has_vwf; (repeat (first | apply List.Mem.head | apply List.Mem.tail)); first | done | fail) | (apply has_oww; (repeat (first | apply List.Mem.head | apply List.Mem.tail)); first | done | fail)), by rw [Is_len]; first | assumption | (rw [List.length_set]; assumption)⟩, ⟨_, has_sl hw (by first | (apply has_vw; (repeat (first | apply List.Mem.head | apply List.Mem.tail)); first | done | fail) | (apply has_own; (repeat (first | apply List.Mem.head | apply List.Mem.tail)); first | done | fail) | (apply has_ro; (repeat (first | apply List.Mem.head | apply List.Mem.tail)); first | done | fail) | apply has_nil | ((with_reducible apply has_el); (focus (first | (apply has_vels; (repeat (first | apply List.Mem.head | apply List.Mem.tail)); first | done | fail) | (apply has_rels; (repeat (first | apply List.Mem.head | apply List.Mem.tail)); first | done | fail))); omega) | (apply has_pt; (repeat (first | apply List.Mem.head | apply List.Mem.tail)); first | done | fail) | (apply has_lpt; (repeat (first | apply List.Mem.head | apply List.Mem.tail)); first | done | fail) | (apply has_vels; (repeat (first | apply List.Mem.head | apply List.Mem.tail)); first | done | fail) | (apply has_rels; (repeat (first | apply List.Mem.head | apply List.Mem.tail)); first | done | fail) | with_reducible assumption | ((with_reducible apply has_elg); (focus (first | (apply has_velg; (repeat (first | apply List.Mem.head | apply List.Mem.tail)); first | done | fail) | (apply has_relg; (repeat (first | apply List.Mem.head | apply List.Mem.tail)); first | done | fail))); omega) | (apply has_velg; (repeat (first | apply List.Mem.head | apply List.Mem.tail)); first | done | fail) | (apply has_relg; (repeat (first | apply List.Mem.head | apply List.Mem.tail)); first | done | fail) | (apply has_vwf; (repeat (first | apply List.Mem.head | apply List.Mem.tail)); first | done | fail) | (apply has_oww; (repeat (first | apply List.Mem.head | apply List.Mem.tail)); first | done | fail)), by rw [Is_len]; first | assumption | (rw [List.length_set]; assumption)⟩, has_sl hw (by first | (apply has_vw; (repeat (first | apply List.Mem.head | apply List.Mem.tail)); first | done | fail) | (apply has_own; (repeat (first | apply List.Mem.head | apply List.Mem.tail)); first | done | fail) | (apply has_ro; (repeat (first | apply List.Mem.head | apply List.Mem.tail)); first | done | fail) | apply has_nil | ((with_reducible apply has_el); (focus (first | (apply has_vels; (repeat (first | apply List.Mem.head | apply List.Mem.tail)); first | done | fail) | (apply has_rels; (repeat (first | apply List.Mem.head | apply List.Mem.tail)); first | done | fail))); omega) | (apply has_pt; (repeat (first | apply List.Mem.head | apply List.Mem.tail)); first | done | fail) | (apply has_lpt; (repeat (first | apply List.Mem.head | apply List.Mem.tail)); first | done | fail) | (apply has_vels; (repeat (first | apply List.Mem.head | apply List.Mem.tail)); first | done | fail) | (apply has_rels; (repeat (first | apply List.Mem.head | apply List.Mem.tail)); first | done | fail) | with_reducible assumption | ((with_reducible apply has_elg); (focus (first | (apply has_velg; (repeat (first | apply List.Mem.head | apply List.Mem.tail)); first | done | fail) | (apply has_relg; (repeat (first | apply List.Mem.head | apply List.Mem.tail)); first | done | fail))); omega) | (apply has_velg; (repeat (first | apply List.Mem.head | apply List.Mem.tail)); first | done | fail) | (apply has_relg; (repeat (first | apply List.Mem.head | apply List.Mem.tail)); first | done | fail) | (apply has_vwf; (repeat (first | apply List.Mem.head | apply List.Mem.tail)); first | done | fail) | (apply has_oww; (repeat (first | apply List.Mem.head | apply List.Mem.tail)); first | done | fail))⟩) ?_
      refine tkx 13 (len := t.length) (fun w h => h.2.2.1) ?_
      refine t1 14 ?_
      refine soi (m := j) (l := u.oth) (j := i.toNat) ?_
      repeat' first|refine nl ?_
      refine te (fun w hw => ⟨pt_at (by (repeat (first | apply List.Mem.head | apply List.Mem.tail)); first | done | fail) hw, ⟨_, has_sl hw (by first | (apply has_vw; (repeat (first | apply List.Mem.head | apply List.Mem.tail)); first | done | fail) | (apply has_own; (repeat (first | apply List.Mem.head | apply List.Mem.tail)); first | done | fail) | (apply has_ro; (repeat (first | apply List.Mem.head | apply List.Mem.tail)); first | done | fail) | apply has_nil | ((with_reducible apply has_el); (focus (first | (apply has_vels; (repeat (first | apply List.Mem.head | apply List.Mem.tail)); first | done | fail) | (apply has_rels; (repeat (first | apply List.Mem.head | apply List.Mem.tail)); first | done | fail))); omega) | (apply has_pt; (repeat (first | apply List.Mem.head | apply List.Mem.tail)); first | done | fail) | (apply has_lpt; (repeat (first | apply List.Mem.head | apply List.Mem.tail)); first | done | fail) | (apply has_vels; (repeat (first | apply List.Mem.head | apply List.Mem.tail)); first | done | fail) | (apply has_rels; (repeat (first | apply List.Mem.head | apply List.Mem.tail)); first | done | fail) | with_reducible assumption | ((with_reducible apply has_elg); (focus (first | (apply has_velg; (repeat (first | apply List.Mem.head | apply List.Mem.tail)); first | done | fail) | (apply has_relg; (repeat (first | apply List.Mem.head | apply List.Mem.tail)); first | done | fail))); omega) | (apply has_velg; (repeat (first | apply List.Mem.head | apply List.Mem.tail)); first | done | fail) | (apply has_relg; (repeat (first | apply List.Mem.head | apply List.Mem.tail)); first | done | fail) | (apply has_vwf; (repeat (first | apply List.Mem.head | apply List.Mem.tail)); first | done | fail) | (apply has_oww; (repeat (first | apply List.Mem.head | apply List.Mem.tail)); first | done | fail)), by rw [Is_len]; first | assumption | (rw [List.length_set]; assumption)⟩, ⟨_, has_sl hw (by first | (apply has_vw; (repeat (first | apply List.Mem.head | apply List.Mem.tail)); first | done | fail) | (apply has_own; (repeat (first | apply List.Mem.head | apply List.Mem.tail)); first | done | fail) | (apply has_ro; (repeat (first | apply List.Mem.head | apply List.Mem.tail)); first | done | fail) | apply has_nil | ((with_reducible apply has_el); (focus (first | (apply has_vels; (repeat (first | apply List.Mem.head | apply List.Mem.tail)); first | done | fail) | (apply has_rels; (repeat (first | apply List.Mem.head | apply List.Mem.tail)); first | done | fail))); omega) | (apply has_pt; (repeat (first | apply List.Mem.head | apply List.Mem.tail)); first | done | fail) | (apply has_lpt; (repeat (first | apply List.Mem.head | apply List.Mem.tail)); first | done | fail) | (apply has_vels; (repeat (first | apply List.Mem.head | apply List.Mem.tail)); first | done | fail) | (apply has_rels; (repeat (first | apply List.Mem.head | apply List.Mem.tail)); first | done | fail) | with_reducible assumption | ((with_reducible apply has_elg); (focus (first | (apply has_velg; (repeat (first | apply List.Mem.head | apply List.Mem.tail)); first | done | fail) | (apply has_relg; (repeat (first | apply List.Mem.head | apply List.Mem.tail)); first | done | fail))); omega) | (apply has_velg; (repeat (first | apply List.Mem.head | apply List.Mem.tail)); first | done | fail) | (apply has_relg; (repeat (first | apply List.Mem.head | apply List.Mem.tail)); first | done | fail) | (apply has_vwf; (repeat (first | apply List.Mem.head | apply List.Mem.tail)); first | done | fail) | (apply has_oww; (repeat (first | apply List.Mem.head | apply List.Mem.tail)); first | done | fail)), by rw [Is_len]; first | assumption | (rw [List.length_set]; assumption)⟩, has_sl hw (by first | (apply has_vw; (repeat (first | apply List.Mem.head | apply List.Mem.tail)); first | done | fail) | (apply has_own; (repeat (first | apply List.Mem.head | apply List.Mem.tail)); first | done | fail) | (apply has_ro; (repeat (first | apply List.Mem.head | apply List.Mem.tail)); first | done | fail) | apply has_nil | ((with_reducible apply has_el); (focus (first | (apply has_vels; (repeat (first | apply List.Mem.head | apply List.Mem.tail)); first | done | fail) | (apply has_rels; (repeat (first | apply List.Mem.head | apply List.Mem.tail)); first | done | fail))); omega) | (apply has_pt; (repeat (first | apply List.Mem.head | apply List.Mem.tail)); first | done | fail) | (apply has_lpt; (repeat (first | apply List.Mem.head | apply List.Mem.tail)); first | done | fail) | (apply has_vels; (repeat (first | apply List.Mem.head | apply List.Mem.tail)); first | done | fail) | (apply has_rels; (repeat (first | apply List.Mem.head | apply List.Mem.tail)); first | done | fail) | with_reducible assumption | ((with_reducible apply has_elg); (focus (first | (apply has_velg; (repeat (first | apply List.Mem.head | apply List.Mem.tail)); first | done | fail) | (apply has_relg; (repeat (first | apply List.Mem.head | apply List.Mem.tail)); first | done | fail))); omega) | (apply has_velg; (repeat (first | apply List.Mem.head | apply List.Mem.tail)); first | done | fail) | (apply has_relg; (repeat (first | apply List.Mem.head | apply List.Mem.tail)); first | done | fail) | (apply has_vwf; (repeat (first | apply List.Mem.head | apply List.Mem.tail)); first | done | fail) | (apply has_oww; (repeat (first | apply List.Mem.head | apply List.Mem.tail)); first | done | fail))⟩) ?_
      refine t0 ?_
      repeat' first|refine rs (id := 19) (fun w => ∃ xs, Sl w rv xs ∧ xs.length = t.length) ?_ (fun w hw => ⟨_, has_sl hw (by first | (apply has_vw; (repeat (first | apply List.Mem.head | apply List.Mem.tail)); first | done | fail) | (apply has_own; (repeat (first | apply List.Mem.head | apply List.Mem.tail)); first | done | fail) | (apply has_ro; (repeat (first | apply List.Mem.head | apply List.Mem.tail)); first | done | fail) | apply has_nil | ((with_reducible apply has_el); (focus (first | (apply has_vels; (repeat (first | apply List.Mem.head | apply List.Mem.tail)); first | done | fail) | (apply has_rels; (repeat (first | apply List.Mem.head | apply List.Mem.tail)); first | done | fail))); omega) | (apply has_pt; (repeat (first | apply List.Mem.head | apply List.Mem.tail)); first | done | fail) | (apply has_lpt; (repeat (first | apply List.Mem.head | apply List.Mem.tail)); first | done | fail) | (apply has_vels; (repeat (first | apply List.Mem.head | apply List.Mem.tail)); first | done | fail) | (apply has_rels; (repeat (first | apply List.Mem.head | apply List.Mem.tail)); first | done | fail) | with_reducible assumption | ((with_reducible apply has_elg); (focus (first | (apply has_velg; (repeat (first | apply List.Mem.head | apply List.Mem.tail)); first | done | fail) | (apply has_relg; (repeat (first | apply List.Mem.head | apply List.Mem.tail)); first | done | fail))); omega) | (apply has_velg; (repeat (first | apply List.Mem.head | apply List.Mem.tail)); first | done | fail) | (apply has_relg; (repeat (first | apply List.Mem.head | apply List.Mem.tail)); first | done | fail) | (apply has_vwf; (repeat (first | apply List.Mem.head | apply List.Mem.tail)); first | done | fail) | (apply has_oww; (repeat (first | apply List.Mem.head | apply List.Mem.tail)); first | done | fail)), by rw [Is_len]; first | assumption | (rw [List.length_set]; assumption)⟩)|refine sq ?_|refine xc ?_
      refine tka 0 ?_
      refine tka 1 ?_
      refine tkx 2 (len := t.length) (fun w h => h) ?_
      refine tka 4 ?_
      refine tka 5 ?_
      refine tka 6 ?_
      refine tkx 7 (len := t.length) (fun w h => h) ?_
      refine t2 3 8 ?_ ?_
      · refine lie hrj ?_
        repeat' first|refine nl ?_
        refine te (fun w hw => ⟨_, has_sl hw (by first | (apply has_vw; (repeat (first | apply List.Mem.head | apply List.Mem.tail)); first | done | fail) | (apply has_own; (repeat (first | apply List.Mem.head | apply List.Mem.tail)); first | done | fail) | (apply has_ro; (repeat (first | apply List.Mem.head | apply List.Mem.tail)); first | done | fail) | apply has_nil | ((with_reducible apply has_el); (focus (first | (apply has_vels; (repeat (first | apply List.Mem.head | apply List.Mem.tail)); first | done | fail) | (apply has_rels; (repeat (first | apply List.Mem.head | apply List.Mem.tail)); first | done | fail))); omega) | (apply has_pt; (repeat (first | apply List.Mem.head | apply List.Mem.tail)); first | done | fail) | (apply has_lpt; (repeat (first | apply List.Mem.head | apply List.Mem.tail)); first | done | fail) | (apply has_vels; (repeat (first | apply List.Mem.head | apply List.Mem.tail)); first | done | fail) | (apply has_rels; (repeat (first | apply List.Mem.head | apply List.Mem.tail)); first | done | fail) | with_reducible assumption | ((with_reducible apply has_elg); (focus (first | (apply has_velg; (repeat (first | apply List.Mem.head | apply List.Mem.tail)); first | done | fail) | (apply has_relg; (repeat (first | apply List.Mem.head | apply List.Mem.tail)); first | done | fail))); omega) | (apply has_velg; (repeat (first | apply List.Mem.head | apply List.Mem.tail)); first | done | fail) | (apply has_relg; (repeat (first | apply List.Mem.head | apply List.Mem.tail)); first | done | fail) | (apply has_vwf; (repeat (first | apply List.Mem.head | apply List.Mem.tail)); first | done | fail) | (apply has_oww; (repeat (first | apply List.Mem.head | apply List.Mem.tail)); first | done | fail)), by rw [Is_len]; first | assumption | (rw [List.length_set]; assumption)⟩) ?_
        refine t1 8 ?_
        refine lie hri ?_
        repeat' first|refine nl ?_
        refine te (fun w hw => ⟨_, has_sl hw (by first | (apply has_vw; (repeat (first | apply List.Mem.head | apply List.Mem.tail)); first | done | fail) | (apply has_own; (repeat (first | apply List.Mem.head | apply List.Mem.tail)); first | done | fail) | (apply has_ro; (repeat (first | apply List.Mem.head | apply List.Mem.tail)); first | done | fail) | apply has_nil | ((with_reducible apply has_el); (focus (first | (apply has_vels; (repeat (first | apply List.Mem.head | apply List.Mem.tail)); first | done | fail) | (apply has_rels; (repeat (first | apply List.Mem.head | apply List.Mem.tail)); first | done | fail))); omega) | (apply has_pt; (repeat (first | apply List.Mem.head | apply List.Mem.tail)); first | done | fail) | (apply has_lpt; (repeat (first | apply List.Mem.head | apply List.Mem.tail)); first | done | fail) | (apply has_vels; (repeat (first | apply List.Mem.head | apply List.Mem.tail)); first | done | fail) | (apply has_rels; (repeat (first | apply List.Mem.head | apply List.Mem.tail)); first | done | fail) | with_reducible assumption | ((with_reducible apply has_elg); (focus (first | (apply has_velg; (repeat (first | apply List.Mem.head | apply List.Mem.tail)); first | done | fail) | (apply has_relg; (repeat (first | apply List.Mem.head | apply List.Mem.tail)); first | done | fail))); omega) | (apply has_velg; (repeat (first | apply List.Mem.head | apply List.Mem.tail)); first | done | fail) | (apply has_relg; (repeat (first | apply List.Mem.head | apply List.Mem.tail)); first | done | fail) | (apply has_vwf; (repeat (first | apply List.Mem.head | apply List.Mem.tail)); first | done | fail) | (apply has_oww; (repeat (first | apply List.Mem.head | apply List.Mem.tail)); first | done | fail)), by rw [Is_len]; first | assumption | (rw [List.length_set]; assumption)⟩) ?_
        refine tkw 9 (t.sum - ri) ?_
        refine tkw 10 r ?_
        refine tkx 11 (len := t.length) (fun w h => h) ?_
        refine t1 12 ?_
        refine soi (m := r) (l := u.rest) (j := j.toNat) ?_
        repeat' first|refine nl ?_
        refine te (fun w hw => ⟨_, has_sl hw (by first | (apply has_vw; (repeat (first | apply List.Mem.head | apply List.Mem.tail)); first | done | fail) | (apply has_own; (repeat (first | apply List.Mem.head | apply List.Mem.tail)); first | done | fail) | (apply has_ro; (repeat (first | apply List.Mem.head | apply List.Mem.tail)); first | done | fail) | apply has_nil | ((with_reducible apply has_el); (focus (first | (apply has_vels; (repeat (first | apply List.Mem.head | apply List.Mem.tail)); first | done | fail) | (apply has_rels; (repeat (first | apply List.Mem.head | apply List.Mem.tail)); first | done | fail))); omega) | (apply has_pt; (repeat (first | apply List.Mem.head | apply List.Mem.tail)); first | done | fail) | (apply has_lpt; (repeat (first | apply List.Mem.head | apply List.Mem.tail)); first | done | fail) | (apply has_vels; (repeat (first | apply List.Mem.head | apply List.Mem.tail)); first | done | fail) | (apply has_rels; (repeat (first | apply List.Mem.head | apply List.Mem.tail)); first | done | fail) | with_reducible assumption | ((with_reducible apply has_elg); (focus (first | (apply has_velg; (repeat (first | apply List.Mem.head | apply List.Mem.tail)); first | done | fail) | (apply has_relg; (repeat (first | apply List.Mem.head | apply List.Mem.tail)); first | done | fail))); omega) | (apply has_velg; (repeat (first | apply List.Mem.head | apply List.Mem.tail)); first | done | fail) | (apply has_relg; (repeat (first | apply List.Mem.head | apply List.Mem.tail)); first | done | fail) | (apply has_vwf; (repeat (first | apply List.Mem.head | apply List.Mem.tail)); first | done | fail) | (apply has_oww; (repeat (first | apply List.Mem.head | apply List.Mem.tail)); first | done | fail)), by rw [Is_len]; first | assumption | (rw [List.length_set]; assumption)⟩) ?_
        refine t0 ?_
        by_cases c1 : r > t.sum
        · rw [if_pos c1, if_pos c1] at hst
          repeat' first|refine lie hq ?_|(refine wo ?_; first|(refine ao ?_; first|refine oa ?_)|refine oa ?_|refine ixm ?_)|(refine gc ?_; first|(refine ci (fun hB => ?_) (fun hB => ?_) <;> try (exfalso; omega)))|refine sq ?_|refine rg ?_|refine xc ?_|refine nl ?_|refine xe ?_
          refine lp ⟨u', hb1, ha, bv1, av⟩ ⟨hI', by dsimp only; omega, by dsimp only; rw [hst]; exact hrb1, by dsimp only; rw [hst]; exact hra, hF'⟩ (hf := by dsimp only; rw [hst]; first | apply Fit.all | ((repeat (first | (apply Fit.nilN; (repeat (first | apply nrm_nil | apply nrm_cons)); try apply nrm_rfl) | (apply Fit.cons; focus ((repeat (first | apply Tk.here | apply Tk.there)); first | done | fail)))); first | done | fail)) (hlt := hmu)
        · rw [if_neg c1, if_neg c1] at hst
          by_cases c2 : r < t.sum
          · rw [if_pos c2] at hst
            repeat' first|(refine gca ?_; first|(refine ca (pop_tr pa av ha hra.1 (by omega) (by omega)) ?_; rintro _ _ ⟨av1, ha1, rfl, rfl, hh2, hp2⟩; have hra1 := hra.pop hh2 hp2)|(refine ca (push_tr pb bv1 hb1 j hrb1.1 (by omega)) ?_; rintro _ _ ⟨bv2, hb2, rfl, hh3, hp3⟩; have hrb2 := hrb1.push j hh3 hp3))|refine lie hq ?_|(refine wo ?_; first|(refine ao ?_; first|refine oa ?_)|refine oa ?_|refine ixm ?_)|(refine gc ?_; first|(refine ci (fun hB => ?_) (fun hB => ?_) <;> try (exfalso; omega)))|refine sq ?_|refine rg ?_|refine xc ?_|refine nl ?_|refine sk ?_|refine xb ?_
            refine lp ⟨u', hb2, ha1, bv2, av1⟩ ⟨hI', by dsimp only; omega, by dsimp only; rw [hst]; exact hrb2, by dsimp only; rw [hst]; exact hra1, hF'⟩ (hf := by dsimp only; rw [hst]; first | apply Fit.all | ((repeat (first | (apply Fit.nilN; (repeat (first | apply nrm_nil | apply nrm_cons)); try apply nrm_rfl) | (apply Fit.cons; focus ((repeat (first | apply Tk.here | apply Tk.there)); first | done | fail)))); first | done | fail)) (hlt := hmu)
          · rw [if_neg c2] at hst
            repeat' first|(refine gca ?_; first|(refine ca (pop_tr pa av ha hra.1 (by omega) (by omega)) ?_; rintro _ _ ⟨av1, ha1, rfl, rfl, hh2, hp2⟩; have hra1 := hra.pop hh2 hp2))|refine lie hq ?_|(refine wo ?_; first|(refine ao ?_; first|refine oa ?_)|refine oa ?_|refine ixm ?_)|(refine gc ?_; first|(refine ci (fun hB => ?_) (fun hB => ?_) <;> try (exfalso; omega)))|refine sq ?_|refine rg ?_|refine xc ?_|refine nl ?_|refine sk ?_|refine xb ?_
            refine lp ⟨u', hb1, ha1, bv1, av1⟩ ⟨hI', by dsimp only; omega, by dsimp only; rw [hst]; exact hrb1, by dsimp only; rw [hst]; exact hra1, hF'⟩ (hf := by dsimp only; rw [hst]; first | apply Fit.all | ((repeat (first | (apply Fit.nilN; (repeat (first | apply nrm_nil | apply nrm_cons)); try apply nrm_rfl) | (apply Fit.cons; focus ((repeat (first | apply Tk.here | apply Tk.there)); first | done | fail)))); first | done | fail)) (hlt := hmu)
      · refine lie hri ?_
        repeat' first|refine nl ?_
        refine te (fun w hw => ⟨_, has_sl hw (by first | (apply has_vw; (repeat (first | apply List.Mem.head | apply List.Mem.tail)); first | done | fail) | (apply has_own; (repeat (first | apply List.Mem.head | apply List.Mem.tail)); first | done | fail) | (apply has_ro; (repeat (first | apply List.Mem.head | apply List.Mem.tail)); first | done | fail) | apply has_nil | ((with_reducible apply has_el); (focus (first | (apply has_vels; (repeat (first | apply List.Mem.head | apply List.Mem.tail)); first | done | fail) | (apply has_rels; (repeat (first | apply List.Mem.head | apply List.Mem.tail)); first | done | fail))); omega) | (apply has_pt; (repeat (first | apply List.Mem.head | apply List.Mem.tail)); first | done | fail) | (apply has_lpt; (repeat (first | apply List.Mem.head | apply List.Mem.tail)); first | done | fail) | (apply has_vels; (repeat (first | apply List.Mem.head | apply List.Mem.tail)); first | done | fail) | (apply has_rels; (repeat (first | apply List.Mem.head | apply List.Mem.tail)); first | done | fail) | with_reducible assumption | ((with_reducible apply has_elg); (focus (first | (apply has_velg; (repeat (first | apply List.Mem.head | apply List.Mem.tail)); first | done | fail) | (apply has_relg; (repeat (first | apply List.Mem.head | apply List.Mem.tail)); first | done | fail))); omega) | (apply has_velg; (repeat (first | apply List.Mem.head | apply List.Mem.tail)); first | done | fail) | (apply has_relg; (repeat (first | apply List.Mem.head | apply List.Mem.tail)); first | done | fail) | (apply has_vwf; (repeat (first | apply List.Mem.head | apply List.Mem.tail)); first | done | fail) | (apply has_oww; (repeat (first | apply List.Mem.head | apply List.Mem.tail)); first | done | fail)), by rw [Is_len]; first | assumption | (rw [List.length_set]; assumption)⟩) ?_
        refine tkw 9 (t.sum - ri) ?_
        refine t1 3 ?_
        refine lie hrj ?_
        repeat' first|refine nl ?_
        refine te (fun w hw => ⟨_, has_sl hw (by first | (apply has_vw; (repeat (first | apply List.Mem.head | apply List.Mem.tail)); first | done | fail) | (apply has_own; (repeat (first | apply List.Mem.head | apply List.Mem.tail)); first | done | fail) | (apply has_ro; (repeat (first | apply List.Mem.head | apply List.Mem.tail)); first | done | fail) | apply has_nil | ((with_reducible apply has_el); (focus (first | (apply has_vels; (repeat (first | apply List.Mem.head | apply List.Mem.tail)); first | done | fail) | (apply has_rels; (repeat (first | apply List.Mem.head | apply List.Mem.tail)); first | done | fail))); omega) | (apply has_pt; (repeat (first | apply List.Mem.head | apply List.Mem.tail)); first | done | fail) | (apply has_lpt; (repeat (first | apply List.Mem.head | apply List.Mem.tail)); first | done | fail) | (apply has_vels; (repeat (first | apply List.Mem.head | apply List.Mem.tail)); first | done | fail) | (apply has_rels; (repeat (first | apply List.Mem.head | apply List.Mem.tail)); first | done | fail) | with_reducible assumption | ((with_reducible apply has_elg); (focus (first | (apply has_velg; (repeat (first | apply List.Mem.head | apply List.Mem.tail)); first | done | fail) | (apply has_relg; (repeat (first | apply List.Mem.head | apply List.Mem.tail)); first | done | fail))); omega) | (apply has_velg; (repeat (first | apply List.Mem.head | apply List.Mem.tail)); first | done | fail) | (apply has_relg; (repeat (first | apply List.Mem.head | apply List.Mem.tail)); first | done | fail) | (apply has_vwf; (repeat (first | apply List.Mem.head | apply List.Mem.tail)); first | done | fail) | (apply has_oww; (repeat (first | apply List.Mem.head | apply List.Mem.tail)); first | done | fail)), by rw [Is_len]; first | assumption | (rw [List.length_set]; assumption)⟩) ?_
        refine tkw 10 r ?_
        refine tkx 11 (len := t.length) (fun w h => h) ?_
        refine t1 12 ?_
        refine soi (m := r) (l := u.rest) (j := j.toNat) ?_
        repeat' first|refine nl ?_
        refine te (fun w hw => ⟨_, has_sl hw (by first | (apply has_vw; (repeat (first | apply List.Mem.head | apply List.Mem.tail)); first | done | fail) | (apply has_own; (repeat (first | apply List.Mem.head | apply List.Mem.tail)); first | done | fail) | (apply has_ro; (repeat (first | apply List.Mem.head | apply List.Mem.tail)); first | done | fail) | apply has_nil | ((with_reducible apply has_el); (focus (first | (apply has_vels; (repeat (first | apply List.Mem.head | apply List.Mem.tail)); first | done | fail) | (apply has_rels; (repeat (first | apply List.Mem.head | apply List.Mem.tail)); first | done | fail))); omega) | (apply has_pt; (repeat (first | apply List.Mem.head | apply List.Mem.tail)); first | done | fail) | (apply has_lpt; (repeat (first | apply List.Mem.head | apply List.Mem.tail)); first | done | fail) | (apply has_vels; (repeat (first | apply List.Mem.head | apply List.Mem.tail)); first | done | fail) | (apply has_rels; (repeat (first | apply List.Mem.head | apply List.Mem.tail)); first | done | fail) | with_reducible assumption | ((with_reducible apply has_elg); (focus (first | (apply has_velg; (repeat (first | apply List.Mem.head | apply List.Mem.tail)); first | done | fail) | (apply has_relg; (repeat (first | apply List.Mem.head | apply List.Mem.tail)); first | done | fail))); omega) | (apply has_velg; (repeat (first | apply List.Mem.head | apply List.Mem.tail)); first | done | fail) | (apply has_relg; (repeat (first | apply List.Mem.head | apply List.Mem.tail)); first | done | fail) | (apply has_vwf; (repeat (first | apply List.Mem.head | apply List.Mem.tail)); first | done | fail) | (apply has_oww; (repeat (first | apply List.Mem.head | apply List.Mem.tail)); first | done | fail)), by rw [Is_len]; first | assumption | (rw [List.length_set]; assumption)⟩) ?_
        refine t0 ?_
        by_cases c1 : r > t.sum
        · rw [if_pos c1, if_pos c1] at hst
          repeat' first|refine lie hq ?_|(refine wo ?_; first|(refine ao ?_; first|refine oa ?_)|refine oa ?_|refine ixm ?_)|(refine gc ?_; first|(refine ci (fun hB => ?_) (fun hB => ?_) <;> try (exfalso; omega)))|refine sq ?_|refine rg ?_|refine xc ?_|refine nl ?_|refine xe ?_
          refine lp ⟨u', hb1, ha, bv1, av⟩ ⟨hI', by dsimp only; omega, by dsimp only; rw [hst]; exact hrb1, by dsimp only; rw [hst]; exact hra, hF'⟩ (hf := by dsimp only; rw [hst]; first | apply Fit.all | ((repeat (first | (apply Fit.nilN; (repeat (first | apply nrm_nil | apply nrm_cons)); try apply nrm_rfl) | (apply Fit.cons; focus ((repeat (first | apply Tk.here | apply Tk.there)); first | done | fail)))); first | done | fail)) (hlt := hmu)
        · rw [if_neg c1, if_neg c1] at hst
          by_cases c2 : r < t.sum
          · rw [if_pos c2] at hst
            repeat' first|(refine gca ?_; first|(refine ca (pop_tr pa av ha hra.1 (by omega) (by omega)) ?_; rintro _ _ ⟨av1, ha1, rfl, rfl, hh2, hp2⟩; have hra1 := hra.pop hh2 hp2)|(refine ca (push_tr pb bv1 hb1 j hrb1.1 (by omega)) ?_; rintro _ _ ⟨bv2, hb2, rfl, hh3, hp3⟩; have hrb2 := hrb1.push j hh3 hp3))|refine lie hq ?_|(refine wo ?_; first|(refine ao ?_; first|refine oa ?_)|refine oa ?_|refine ixm ?_)|(refine gc ?_; first|(refine ci (fun hB => ?_) (fun hB => ?_) <;> try (exfalso; omega)))|refine sq ?_|refine rg ?_|refine xc ?_|refine nl ?_|refine sk ?_|refine xb ?_
            refine lp ⟨u', hb2, ha1, bv2, av1⟩ ⟨hI', by dsimp only; omega, by dsimp only; rw [hst]; exact hrb2, by dsimp only; rw [hst]; exact hra1, hF'⟩ (hf := by dsimp only; rw [hst]; first | apply Fit.all | ((repeat (first | (apply Fit.nilN; (repeat (first | apply nrm_nil | apply nrm_cons)); try apply nrm_rfl) | (apply Fit.cons; focus ((repeat (first | apply Tk.here | apply Tk.there)); first | done | fail)))); first | done | fail)) (hlt := hmu)
          · rw [if_neg c2] at hst
            repeat' first|(refine gca ?_; first|(refine ca (pop_tr pa av ha hra.1 (by omega) (by omega)) ?_; rintro _ _ ⟨av1, ha1, rfl, rfl, hh2, hp2⟩; have hra1 := hra.pop hh2 hp2))|refine lie hq ?_|(refine wo ?_; first|(refine ao ?_; first|refine oa ?_)|refine oa ?_|refine ixm ?_)|(refine gc ?_; first|(refine ci (fun hB => ?_) (fun hB => ?_) <;> try (exfalso; omega)))|refine sq ?_|refine rg ?_|refine xc ?_|refine nl ?_|refine sk ?_|refine xb ?_
            refine lp ⟨u', hb1, ha1, bv1, av1⟩ ⟨hI', by dsimp only; omega, by dsimp only; rw [hst]; exact hrb1, by dsimp only; rw [hst]; exact hra1, hF'⟩ (hf := by dsimp only; rw [hst]; first | apply Fit.all | ((repeat (first | (apply Fit.nilN; (repeat (first | apply nrm_nil | apply nrm_cons)); try apply nrm_rfl) | (apply Fit.cons; focus ((repeat (first | apply Tk.here | apply Tk.there)); first | done | fail)))); first | done | fail)) (hlt := hmu)
end Go.Art
set_option linter.unusedSimpArgs false
set_option linter.unusedVariables false
namespace Go.Art
open Go Go.Proofs Go.RowKit
attribute [local irreducible] Fit pt own ro vw mpc lpt vels rels mow lrc dfr
theorem Pick_tr (x m : Int) (hm : m ≤ 9223372036854775807) : Tr Tryz.prog 38 [I x, I m] [] [] fun v D => v = I (pick x m) ∧ D = [] := by
  have hf : m ≤ 0 ∨ (0 < m ∧ 0 ≤ x % m ∧ x % m < m ∧ (x.tmod m < 0 → x.tmod m = x % m - m) ∧ (¬ x.tmod m < 0 → x.tmod m = x % m)) := by
    by_cases h : m ≤ 0
    · exact .inl h
    · have h1 := tmod_pick x m (by omega)
      refine .inr ⟨by omega, Int.emod_nonneg x (by omega), Int.emod_lt_of_pos x (by omega), fun hc => ?_, fun hc => ?_⟩
      · rw [if_pos hc] at h1; exact h1
      · rw [if_neg hc] at h1; exact h1
  refine Tr.enter env _ Tryz.func38 (by kernel_rfl) rfl Tryz.ntmps38 rfl (by repeat (first | exact has00 | refine has01 ?_)) fun w0 => ?_
  repeat' first|refine amodw ?_|(refine wo ?_; first|(refine ao ?_; first|refine aw ?_|refine oa ?_)|refine oa ?_)|(refine gc ?_; first|(refine ci (fun hB => ?_) (fun hB => ?_) <;> try (exfalso; omega)))|refine sq ?_|refine rg ?_|refine xc ?_|refine nl ?_|refine sk ?_|refine rt ?_
  all_goals refine r1 ⟨?_, rfl⟩; simp only [pick]
  · rw [if_pos hB]
  · rw [if_neg (by omega)]; congr 1; omega
  · rw [if_neg (by omega)]; congr 1; omega

end Go.Art
set_option linter.unusedSimpArgs false
set_option linter.unusedVariables false
namespace Go.Art
open Go Go.Proofs Go.RowKit
attribute [local irreducible] Fit pt own ro vw mpc lpt vels rels mow lrc dfr
theorem SameInts_tr (a b : Value) (xs ys : List Int) : Tr Tryz.prog 21 [a, b] [vw a (Is xs), vw b (Is ys)] [] fun v D => v = .bool (decide (xs = ys)) ∧ D = [] := by
  refine Tr.enter env _ Tryz.func21 (by kernel_rfl) rfl Tryz.ntmps21 rfl (by repeat (first | exact has00 | refine has01 ?_)) fun w0 => ?_
  refine TC.leni (l := xs) fun hl => ?_
  repeat' first|(refine wo ?_; first|(refine ao ?_; first|refine oa ?_)|refine oa ?_|refine lnm ?_)|(refine gc ?_; first|(refine cn (fun hB => ?_) (fun hB => ?_) <;> try (exfalso; omega)))|refine sq ?_|refine rg ?_|refine xc ?_|refine nl ?_|refine sk ?_|refine bk ?_|refine rt ?_
  · refine r1 ⟨?_, rfl⟩
    rw [decide_eq_false]; intro e; subst e; omega
  · refine TC.loop (ι := Nat) (fun k => [(5, I k)]) (fun _ => []) (fun k => k ≤ xs.length ∧ ∀ j, j < k → xs.getD j 0 = ys.getD j 0) (fun k => xs.length - k) 0 [0, 1] ⟨by omega, by omega⟩ ?_
    rintro k ⟨hk, heq⟩
    repeat' first|(refine wo ?_; first|(refine ao ?_; first|refine aw ?_|refine oa ?_)|refine oa ?_|refine lnm ?_)|(refine gc ?_; first|(refine ci (fun hB => ?_) (fun hB => ?_) <;> try (exfalso; omega))|(refine cn (fun hB => ?_) (fun hB => ?_) <;> try (exfalso; omega)))|refine sq ?_|refine rg ?_|refine xc ?_|refine nl ?_|refine sk ?_|refine bk ?_|refine xe ?_|refine rt ?_|refine xb ?_|refine rq ?_|refine nq ?_|(refine wq ?_; first|(refine qao ?_; first|refine qa ?_)|refine qa ?_|refine qixmn ?_|refine qli ?_)
    · refine r1 ⟨?_, rfl⟩
      rw [decide_eq_false]; intro e; exact hB (by rw [e])
    · refine lp (k + 1) ⟨by omega, fun j hj => ?_⟩
      by_cases hjk : j < k
      · exact heq j hjk
      · obtain rfl : j = k := by omega
        assumption
    · refine r1 ⟨?_, rfl⟩
      rw [decide_eq_true]
      exact eq_of_getD (by omega) (fun j hj => heq j (by omega))

end Go.Art
set_option linter.unusedSimpArgs false
set_option linter.unusedVariables false
namespace Go.Art
open Go Go.Proofs Go.RowKit
theorem eq_of_getDN {xs ys : List Nat} (hl : xs.length = ys.length) (h : ∀ j, j < xs.length → xs.getD j 0 = ys.getD j 0) : xs = ys := by
  refine List.ext_getElem hl fun i h1 h2 => ?_
  have := h i h1
  simpa [List.getD_eq_getElem?_getD, h1, h2] using this
attribute [local irreducible] Fit pt own ro vw mpc lpt vels rels mow lrc dfr
attribute [local irreducible] lmp lme mit velg relg
theorem SameNat_tr (a b : Value) (xs ys : List Nat) : Tr Tryz.prog 61 [a, b] [vw a (Us xs), vw b (Us ys)] [] fun v D => v = .bool (decide (xs = ys)) ∧ D = [] := by
  refine Tr.enter env _ Tryz.func61 (by kernel_rfl) rfl Tryz.ntmps61 rfl (by repeat (first | exact has00 | refine has01 ?_)) fun w0 => ?_
  refine TC.lenu (l := xs) fun hl => ?_
  repeat' first|(refine wo ?_; first|(refine ao ?_; first|refine oa ?_)|refine oa ?_|refine lnm ?_)|(refine gc ?_; first|(refine cn (fun hB => ?_) (fun hB => ?_) <;> try (exfalso; omega)))|refine sq ?_|refine rg ?_|refine xc ?_|refine nl ?_|refine sk ?_|refine bk ?_|refine rt ?_
  · refine r1 ⟨?_, rfl⟩
    rw [decide_eq_false]; intro e; subst e; omega
  · refine TC.loop (ι := Nat) (fun k => [(5, I k)]) (fun _ => []) (fun k => k ≤ xs.length ∧ ∀ j, j < k → xs.getD j 0 = ys.getD j 0) (fun k => xs.length - k) 0 [0, 1] ⟨by omega, by omega⟩ ?_
    rintro k ⟨hk, heq⟩
    repeat' first|(refine wo ?_; first|(refine ao ?_; first|refine aw ?_|refine oa ?_)|refine oa ?_|refine lnm ?_)|(refine gc ?_; first|(refine ci (fun hB => ?_) (fun hB => ?_) <;> try (exfalso; omega))|(refine cn (fun hB => ?_) (fun hB => ?_) <;> try (exfalso; omega)))|refine sq ?_|refine rg ?_|refine xc ?_|refine nl ?_|refine sk ?_|refine bk ?_|refine xe ?_|refine rt ?_|refine xb ?_|refine rq ?_|refine nq ?_|(refine wq ?_; first|(refine qao ?_; first|refine qa ?_)|refine qlu ?_|refine qa ?_|refine qixmn ?_)
    · refine r1 ⟨?_, rfl⟩
      rw [decide_eq_false]; intro e; exact hB (by rw [e])
    · refine lp (k + 1) ⟨by omega, fun j hj => ?_⟩
      by_cases hjk : j < k
      · exact heq j hjk
      · obtain rfl : j = k := by omega
        omega
    · refine r1 ⟨?_, rfl⟩
      rw [decide_eq_true]
      exact eq_of_getDN (by omega) (fun j hj => heq j (by omega))
theorem SameWhole_tr (b1 b2 : Bool) (o1 o2 : Value) (l1 l2 : List Nat) : Tr Tryz.prog 60 [.agg #[.bool b1, o1], .agg #[.bool b2, o2]] [vw o1 (Us l1), vw o2 (Us l2)] [] fun v D => v = .bool (decide (b1 = b2 ∧ l1 = l2)) ∧ D = [] := by
  refine Tr.enter env _ Tryz.func60 (by kernel_rfl) rfl Tryz.ntmps60 rfl (by repeat (first | exact has00 | refine has01 ?_)) fun w0 => ?_
  repeat' first|(refine gca ?_; first|(refine ca (SameNat_tr o1 o2 l1 l2) ?_; rintro _ _ ⟨rfl, rfl⟩))|refine bx fun q => ?_|(refine wo ?_; first|(refine ao ?_; first|refine ibe ?_)|refine oa ?_|refine ld ?_|refine gy ?_|refine gn ?_|(refine gsi (fun hB => ?_) (fun hB => ?_) <;> try (exfalso; omega)))|refine sq ?_|refine rg ?_|refine xc ?_|refine nl ?_|refine rt ?_
  · have e : b1 = b2 := by simpa using hB
    refine r1 ⟨?_, rfl⟩
    congr 1; exact decide_eq_decide.2 ⟨fun h => ⟨e, h⟩, fun h => h.2⟩
  · have e : ¬ b1 = b2 := by simpa using hB
    refine r1 ⟨?_, rfl⟩
    rw [decide_eq_false fun h => e h.1]
theorem SameRatio_tr (t1 t2 : Fr3) (n1 d1 n2 d2 : Value) : Tr Tryz.prog 18 [.agg #[.bool t1.1, n1, d1], .agg #[.bool t2.1, n2, d2]] [vw n1 (Us t1.2.1), vw d1 (Us t1.2.2), vw n2 (Us t2.2.1), vw d2 (Us t2.2.2)] []
    fun v D => v = .bool (decide (t1 = t2)) ∧ D = [] := by
  obtain ⟨b1, x1, y1⟩ := t1
  obtain ⟨b2, x2, y2⟩ := t2
  dsimp only
  refine Tr.enter env _ Tryz.func18 (by kernel_rfl) rfl Tryz.ntmps18 rfl (by repeat (first | exact has00 | refine has01 ?_)) fun w0 => ?_
  repeat' first|(refine gca ?_; first|(refine ca (SameWhole_tr b1 b2 n1 n2 x1 x2) ?_; rintro _ _ ⟨rfl, rfl⟩)|(refine ca (SameNat_tr d1 d2 y1 y2) ?_; rintro _ _ ⟨rfl, rfl⟩))|refine bx fun q => ?_|refine lda ?_|(refine wo ?_; first|refine oa ?_|refine ld ?_|refine gy ?_|refine gn ?_|(refine gsi (fun hB => ?_) (fun hB => ?_) <;> try (exfalso; omega)))|refine sq ?_|refine rg ?_|refine xc ?_|refine nl ?_|refine rt ?_
  · refine r1 ⟨?_, rfl⟩
    congr 1; refine decide_eq_decide.2 ⟨fun h => by rw [hB.1, hB.2, h], fun h => by injection h with _ h; injection h⟩
  · refine r1 ⟨?_, rfl⟩
    rw [decide_eq_false fun h => hB (by injection h with h1 h; injection h with h2 _; exact ⟨h1, h2⟩)]
end Go.Art
set_option linter.unusedSimpArgs false
set_option linter.unusedVariables false
namespace Go.Art
open Go Go.Proofs Go.RowKit
theorem srt_id {xs : List Int} (h : xs.Pairwise (· ≤ ·)) : srt xs = xs := ((srt_perm xs)).eq_of_pairwise (fun a b _ _ h1 h2 => by omega) (srt_sorted xs) h
theorem pickO_of {k d : Int} {x : Lw} {l : List Int} (h : (ordO k d x).1 = (l, 0)) (hs : l.Pairwise (· ≤ ·)) : pickO k d x = (l, 0) := by
  unfold pickO; rw [h, srt_id hs]
theorem setW_of {tot : Int} {cut oth : List Int} {k : Int} {x : Lw} {at1 : Int} {x2 : Lw} {l : List Int} (h1 : rwE tot cut oth k = 0) (h2 : (plcW tot cut oth x).1 = (at1, 0)) (h3 : (plcW tot cut oth x).2.1 = x2) (h4 : (ordO k (at1 + 1) x2).1 = (l, 0)) (hs : l.Pairwise (· ≤ ·)) : (setW tot cut oth k x).1 = (l, 0) := by
  unfold setW
  rw [if_pos h1, h2, if_pos rfl, h3]
  exact pickO_of h4 hs
theorem few1 : (setW 4 [2, 4] [1, 1] 3 (.inr ([0, 1, 2], false))).1 = ([2], 0) := setW_of (at1 := 0) (x2 := .inr ([2], false)) (by decide) (by decide) (by kernel_rfl) (by decide) (by simp)
theorem few2 : (setW 4 [2, 4] [1, 1] 3 (.inr ([0, 2, 0, 1], false))).1 = ([0, 2], 0) := setW_of (at1 := 1) (x2 := .inr ([0, 1], false)) (by decide) (by decide) (by kernel_rfl) (by decide) (by simp)
theorem mea1 : meaW 4 [2, 4] [1, 1] 3 2 = (rqf (mkRat 1 48), 0) := by
  rw [meaW_ok (by decide) (by decide)]; rfl
theorem cha1 : chaW [1, 3] 3 1 = (rqf (mkRat 1 12), 0) := by
  unfold chaW; rw [if_pos (by decide), if_neg (by decide)]; rfl
attribute [local irreducible] Fit pt own ro vw mpc lpt vels rels mow lrc dfr
attribute [local irreducible] lmp lme mit velg relg
theorem few_tr : Tr Tryz.prog 35 [] [] [] fun v D => ∃ c o, v = .agg #[I 4, c, o] ∧ c.oneCell' = true ∧ o.oneCell' = true ∧ D = [own TLI c (Is [2, 4]), own TLI o (Is [1, 1])] := by
  refine Tr.enter env _ Tryz.func35 (by kernel_rfl) rfl Tryz.ntmps35 rfl (by repeat (first | exact has00 | refine has01 ?_)) fun w0 => ?_
  repeat' first|refine al fun q => ?_|refine slz fun v hv => ?_|refine bdz ?_|refine srz ?_|refine sq ?_|refine rg ?_|refine xc ?_|refine nl ?_|refine rt ?_
  rename_i c hc
  exact rca1 (cs := [I 4, c, v]) (vs := [I 4, c, v]) (T := TAl) ⟨c, v, rfl, hc, hv, rfl⟩
theorem draws_tr (k e : Int) (lv wv : Value) (l want : List Int) (hl : l.length ≤ 1000) : Tr Tryz.prog 36 [I k, lv, I e, wv] [vw lv (Is l), vw wv (Is want)] []
    fun v D => v = .bool (decide ((setW 4 [2, 4] [1, 1] k (.inr (l, false))).1 = (want, e))) ∧ D = [] := by
  have hS := fun b r sv c o hc ho => SetW_tr 4 k c o [2, 4] [1, 1] b r sv (.inr (l, false)) (okL_row l false) hc ho
  generalize setW 4 [2, 4] [1, 1] k (.inr (l, false)) = sw at *
  obtain ⟨⟨s, f⟩, x2, u2⟩ := sw
  dsimp only at hS ⊢
  refine Tr.enter env _ Tryz.func36 (by kernel_rfl) rfl Tryz.ntmps36 rfl (by repeat (first | exact has00 | refine has01 ?_)) fun w0 => ?_
  repeat' first|(refine gca ?_; first|(refine ca few_tr ?_; rintro _ _ ⟨c, o, rfl, hc, ho, rfl⟩)|(refine ca (LRow_tr lv l (by omega)) ?_; rintro _ _ ⟨b, r, sv, rfl, rfl⟩)|(refine ca (hS b r sv c o hc ho) ?_; rintro _ _ ⟨so, sv2, rfl, rfl⟩)|(refine ca (SameInts_tr so wv s want) ?_; rintro _ _ ⟨rfl, rfl⟩))|(refine wo ?_; first|(refine ao ?_; first|refine oa ?_)|refine oa ?_|refine gy ?_|refine gn ?_|(refine gsi (fun hB => ?_) (fun hB => ?_) <;> try (exfalso; omega)))|refine sq ?_|refine rg ?_|refine xc ?_|refine nl ?_|refine rt ?_
  · refine r1 ⟨?_, rfl⟩
    congr 1; exact decide_eq_decide.2 ⟨fun h => by rw [h, hB], fun h => by injection h⟩
  · refine r1 ⟨?_, rfl⟩
    rw [decide_eq_false fun h => hB (by injection h)]
theorem is_tr (t : Fr3) (e : Int) (n1 d1 : Value) (x y : Nat) (hx : x < 9223372036854775808) (hy : y < 9223372036854775808) (hy0 : y ≠ 0) : Tr Tryz.prog 37 [.agg #[.bool t.1, n1, d1], I e, I x, I y] [vw n1 (Us t.2.1), vw d1 (Us t.2.2)] []
    fun v D => v = .bool (decide (e = 0 ∧ t = rqf (mkRat x y))) ∧ D = [] := by
  have hP := FPair_tr x y hx hy hy0
  unfold FQ2 at hP
  have hl : 0 < (dg (mkRat (x : Int) y).den).length := by have := dg_len_pos (mkRat (x : Int) y).den_nz; omega
  generalize mkRat (x : Int) y = q at *
  refine Tr.enter env _ Tryz.func37 (by kernel_rfl) rfl Tryz.ntmps37 rfl (by repeat (first | exact has00 | refine has01 ?_)) fun w0 => ?_
  repeat' first|(refine gca ?_; first|(refine ca hP ?_; rintro _ _ ⟨vn, vd, rfl, hvn, hvd, rfl⟩)|(refine ca (SameRatio_tr t (rqf q) n1 d1 vn vd) ?_; rintro _ _ ⟨rfl, rfl⟩))|refine bx fun b1 => ?_|refine al fun b2 => ?_|refine lda ?_|refine srz ?_|(refine wo ?_; first|(refine ao ?_; first|refine oa ?_)|refine oa ?_|refine ld ?_|refine lnm ?_|refine gy ?_|refine gn ?_|(refine gsi (fun hB => ?_) (fun hB => ?_) <;> try (exfalso; omega)))|refine sq ?_|refine rg ?_|refine xc ?_|refine nl ?_|refine rt ?_
  · refine r1 ⟨?_, rfl⟩
    congr 1; exact decide_eq_decide.2 ⟨fun h => ⟨by assumption, h⟩, fun h => h.2⟩
  · refine r1 ⟨?_, rfl⟩
    rw [decide_eq_false fun h => absurd h.1 (by assumption)]
theorem awake_tr : Tr Tryz.prog 11 [] [] [] fun v D => v = .bool true ∧ D = [] := by
  have hM := fun c o hc ho => MeaW_tr 4 3 2 c o [2, 4] [1, 1] hc ho
  have hC := fun s => ChaW_tr s [1, 3] 3 1
  simp only [mea1] at hM
  simp only [cha1] at hC
  unfold FW at hM hC
  dsimp only at hM hC
  have hI1 := fun n1 d1 => is_tr (rqf (mkRat 1 48)) 0 n1 d1 1 48 (by decide) (by decide) (by decide)
  have hI2 := fun n1 d1 => is_tr (rqf (mkRat 1 12)) 0 n1 d1 1 12 (by decide) (by decide) (by decide)
  simp only [show ((1 : Nat) : Int) = 1 from rfl, and_self, decide_true] at hI1 hI2
  have hD1 := fun lv wv => draws_tr 3 0 lv wv [0, 1, 2] [2] (by decide)
  have hD2 := fun lv wv => draws_tr 3 0 lv wv [0, 2, 0, 1] [0, 2] (by decide)
  rw [few1] at hD1
  rw [few2] at hD2
  simp only [decide_true] at hD1 hD2
  generalize mkRat 1 48 = q1 at *
  generalize mkRat 1 12 = q2 at *
  refine Tr.enter env _ Tryz.func11 (by kernel_rfl) rfl Tryz.ntmps11 rfl (by repeat (first | exact has00 | refine has01 ?_)) fun w0 => ?_
  repeat' first|(refine gca ?_; first|(refine ca few_tr ?_; rintro _ _ ⟨c, o, rfl, hc, ho, rfl⟩)|(refine ca (hM c o hc ho) ?_; rintro _ _ ⟨n1, d1, rfl, hn1, hd1, rfl⟩)|(refine ca (hC _) ?_; rintro _ _ ⟨n2, d2, rfl, hn2, hd2, rfl⟩)|(refine ca (hD1 _ _) ?_; rintro _ _ ⟨rfl, rfl⟩)|(refine ca (hD2 _ _) ?_; rintro _ _ ⟨rfl, rfl⟩)|(refine ca (hI1 n1 d1) ?_; rintro _ _ ⟨rfl, rfl⟩)|(refine ca (hI2 n2 d2) ?_; rintro _ _ ⟨rfl, rfl⟩))|refine slz fun v hv => ?_|refine al fun b1 => ?_|refine srz ?_|refine lda ?_|(refine wo ?_; first|refine oa ?_|refine gy ?_)|refine sq ?_|refine rg ?_|refine xc ?_|refine nl ?_|refine rt ?_
  exact r1 ⟨rfl, rfl⟩
end Go.Art
set_option linter.unusedSimpArgs false
set_option linter.unusedVariables false
namespace Go.Art
open Go Go.Proofs Go.RowKit
def over (n : Int) : BitVec 64 := c64 18446744073709551615 % c64 n
attribute [local irreducible] Fit pt own ro vw mpc lpt vels rels mow lrc dfr
abbrev TRl : TypeId := 57
abbrev rloP (b : Nat) (st : BitVec 64) (used : Int) : List Ch := [pt b [nS, .bool true, U st, I used, .bool false] TRl]
end Go.Art
set_option linter.unusedSimpArgs false
set_option linter.unusedVariables false
namespace Go.Art
open Go Go.Proofs Go.RowKit
def ins (x : Int) (l : List Int) (k : Nat) : List Int := l.take k ++ x :: l.drop k
attribute [local irreducible] Fit pt own ro vw mpc lpt vels rels mow lrc dfr
attribute [local irreducible] lmp lme mit velg relg
structure RoG where
  i : Nat
  l : List Int
  st : BitVec 64
structure RiG where
  i : Nat
  o : Value
  ds : List Int
end Go.Art
set_option linter.unusedSimpArgs false
set_option linter.unusedVariables false
namespace Go.Art
open Go Go.Proofs Go.RowKit
abbrev w0u : Value := .int .u64 0
def rloC (b : Nat) (sv : Value) (x : Lw) (used : Int) : List Ch :=
  match x with
  | .inl st => rloP b st used
  | .inr (l, br) => [pt b [sv, .bool false, w0u, I used, .bool br] TRl, own TLI sv (Is l)]
abbrev rlot (b : Nat) (sv : Value) (x : Lw) (used : Int) : Ch := bnd (rloC b sv x used)
theorem rloC_nb (b : Nat) (sv : Value) (x : Lw) (used : Int) : ∀ c ∈ rloC b sv x used, ∀ b, ¬ c.bd b := by
  cases x with
  | inl st => unfold rloC; (repeat (first | exact nb0 | refine nb1 ?_))
  | inr p => unfold rloC; (repeat (first | exact nb0 | refine nb1 ?_))
instance (b : Nat) (sv : Value) (x : Lw) (used : Int) : NoB (rlot b sv x used) := ⟨fun b h => by obtain ⟨c, hc, h1⟩ := h; exact rloC_nb _ _ _ _ c hc b h1⟩
structure RwG where
  i : Nat
  l : List Int
  outs : List Int
  sv : Value
  x : Lw
attribute [local irreducible] Fit pt own ro vw mpc lpt vels rels mow lrc dfr
attribute [local irreducible] lmp lme mit velg relg
end Go.Art
set_option linter.unusedSimpArgs false
set_option linter.unusedVariables false
namespace Go.Art
open Go Go.Proofs Go.RowKit
def colBad (tot : Int) (cut oth : List Int) (i : Nat) : Prop := cut.getD i 0 < 0 ∨ tot < cut.getD i 0 ∨ oth.getD i 0 < 0 ∨ (cut.length : Int) ≤ oth.getD i 0
def alFst (tot : Int) (cut oth : List Int) : Prop := (1 ≤ tot ∧ tot ≤ 1099511627776) ∧ (1 ≤ cut.length ∧ cut.length ≤ 65536) ∧ oth.length = cut.length
attribute [local irreducible] Fit pt own ro vw mpc lpt vels rels mow lrc dfr
attribute [local irreducible] lmp lme mit velg relg
end Go.Art
set_option linter.unusedSimpArgs false
set_option linter.unusedVariables false
namespace Go.Art
open Go Go.Proofs Go.RowKit
attribute [local irreducible] Fit pt own ro vw mpc lpt vels rels mow lrc dfr
end Go.Art
set_option linter.unusedSimpArgs false
set_option linter.unusedVariables false
namespace Go.Art
open Go Go.Proofs Go.RowKit
attribute [local irreducible] Fit pt own ro vw mpc lpt vels rels mow lrc dfr
end Go.Art
set_option linter.unusedSimpArgs false
set_option linter.unusedVariables false
namespace Go.Art
open Go Go.Proofs Go.RowKit
def loH (r : Nat) (x : Lw) (used : Int) : List Value :=
  match x with
  | .inl _ => [.iface TpS (ptr r), I used, .bool false]
  | .inr (_, br) => [.iface TpR (ptr r), I used, .bool br]
def rloH (sv : Value) (x : Lw) (used : Int) : List Value :=
  match x with
  | .inl st => [nS, .bool true, U st, I used, .bool false]
  | .inr (_, br) => [sv, .bool false, w0u, I used, .bool br]
section
variable {P : Program} {E : Env P} {n : Sh} {X : Cx} {s : List K} {fr : Fr} {A : List Ch} {ops : Array Oper} {rest : List Oper} {d : Nat} {ty t : TypeId} {pos : String} {after : Array Edge} {x : Operand} {dt : TypeDesc} {sz by_ : Nat} {z : Value} {cs vs : List Value} {b j : Nat} {T : TypeId}
theorem qlda (k : TQ E n X s ops rest ((d, .agg vs.toArray) :: fr) A) (hx : ev fr x = some (.pointer (some ⟨b, j, none⟩)) := by rfl) (hm : pt b cs T ∈ A := by (repeat (first | apply List.Mem.head | apply List.Mem.tail)); first | done | fail) (ht : lk E.und t = some dt := by rfl) (hg : aggB dt = true := by rfl) (hi : lk E.inf t = some (z, sz, by_) := by rfl)
    (hv : (cs.drop j).take sz = vs := by rfl) (hl : vs.length = sz := by rfl) (hd : Nat.blt d n.n = true := by rfl) : TQ E n X s ops (⟨some d, .load t x, ty, pos, after, none⟩ :: rest) fr A := TQ.val (fun _ h => R_loadA ht hg hi hx (h.h (pt b cs T) hm) hv hl) k hd
end
attribute [local irreducible] Fit pt own ro vw mpc lpt vels rels mow lrc dfr
attribute [local irreducible] lmp lme mit velg relg
theorem SameIntsT_tr (a b : Value) (xs : List Int) : Tr Tryz.prog 21 [a, b] [vw a (Is xs), vw b (Is xs)] [] fun v D => v = .bool true ∧ D = [] :=
  (SameInts_tr a b xs xs).mono fun v D h => by rw [decide_eq_true rfl] at h; exact h
end Go.Art
set_option linter.unusedSimpArgs false
set_option linter.unusedVariables false
namespace Go.Art
open Go Go.Proofs Go.RowKit
def madeT (tbl : List Int) (k : Nat) : List Int := (tbl.take k).map fun x => pick x 6
theorem madeT_zero (tbl : List Int) : madeT tbl 0 = [] := rfl
theorem madeT_succ {tbl : List Int} {i : Nat} (h : i < tbl.length) : madeT tbl (i + 1) = madeT tbl i ++ [pick (tbl.getD i 0) 6] := by
  unfold madeT; rw [take_succ' h 0, List.map_append]; rfl
theorem madeT_len (tbl : List Int) (k : Nat) : (madeT tbl k).length = min k tbl.length := by unfold madeT; simp
theorem madeT_min (tbl : List Int) (k : Nat) : madeT tbl (min k tbl.length) = madeT tbl k := by
  unfold madeT
  congr 1
  rcases Nat.le_total k tbl.length with h | h
  · rw [Nat.min_eq_left h]
  · rw [Nat.min_eq_right h, List.take_length, List.take_of_length_le h]
theorem pick6 (x : Int) : 0 ≤ pick x 6 ∧ pick x 6 ≤ 5 := by
  unfold pick
  rw [if_neg (by decide)]
  omega
theorem madeT_in {tbl : List Int} {k : Nat} : ∀ w ∈ madeT tbl k, 0 ≤ w ∧ w ≤ 5 := fun w hw => by
  obtain ⟨x, _, rfl⟩ := List.mem_map.1 hw
  exact pick6 x
theorem madeT_sum {tbl : List Int} {k : Nat} : (madeT tbl k).sum ≤ 5 * (madeT tbl k).length := by
  have h := madeT_in (tbl := tbl) (k := k)
  generalize madeT tbl k = l at *
  induction l with
  | nil => simp
  | cons a r ih => have := h a (by simp); have := ih (fun w hw => h w (by simp [hw])); simp only [List.sum_cons, List.length_cons]; omega
section
variable {P : Program} {E : Env P} {X : Cx} {fr : Fr} {A D G : List Ch} {n : Sh}
theorem res_tat {fn : Func} {w : World} {a : Act} (ha : Holds n a fr) {p t u : Nat} {ty T : TypeId} {dt : TypeDesc} {z : Value} {sz by_ b : Nat} {cs vs : List Value} {v1 v3 : Value} (hr : fn.results = #[.tmp p, .cell t ty, .tmp u]) (h0 : get fr p = some v1) (ht : lk E.und ty = some dt) (hg : aggB dt = true) (hi : lk E.inf ty = some (z, sz, by_)) (h1 : get fr t = some (ptr b))
    (hb : w.heap[b]? = some (.cells cs.toArray T (0, 0))) (hv : cs.take sz = vs) (hl : vs.length = sz) (h2 : get fr u = some v3) : (results fn a.tmps).run P w = .ok (.tuple #[v1, .agg vs.toArray, v3]) w := by
  obtain ⟨inf, g1, _, g2, _⟩ := E.info hi
  have h3 := run_loadCells_list (P := P) w ⟨b, 0, none⟩ vs (fun m u hm => by
    rw [Addr.add_lit]
    refine blk_cell hb ?_
    rw [← hv, List.getElem?_take] at hm
    split at hm
    · simpa using hm
    · cases hm)
  rw [hl] at h3
  have e0 : a.tmps[p]?.getD undef = v1 := by have := ha.slot p _ h0; simpa using this
  have e1 : a.tmps[t]?.getD undef = ptr b := by have := ha.slot t _ h1; simpa using this
  have e2 : a.tmps[u]?.getD undef = v3 := by have := ha.slot u _ h2; simpa using this
  simp only [results, hr]
  simp [e0, e1, e2, asAddr, loadVar, aggB_t (w := w) ht hg, sizeOf, typeInfo, g1, g2, h3]
theorem rtat {w0 : World} {A0 : List Ch} {R' : Value → List Ch → Prop} {fn : Func} {p t u nn : Nat} {ty T : TypeId} {dt : TypeDesc} {z : Value} {sz by_ b : Nat} {cs vs : List Value} {v1 v3 : Value} (h : R' (.tuple #[v1, .agg vs.toArray, v3]) D) (hr : fn.results = #[.tmp p, .cell t ty, .tmp u] := by rfl) (h0 : get fr p = some v1 := by rfl) (ht : lk E.und ty = some dt := by rfl) (hg : aggB dt = true := by rfl) (hi : lk E.inf ty = some (z, sz, by_) := by rfl)
    (hv : get fr t = some (ptr b) := by rfl) (hm : pt b cs T ∈ A := by (repeat (first | apply List.Mem.head | apply List.Mem.tail)); first | done | fail) (hcs : cs.take sz = vs := by rfl) (hl : vs.length = sz := by rfl) (h2 : get fr u = some v3 := by rfl) (hf : Fit A D G := by first | apply Fit.all | ((repeat (first | (apply Fit.nilN; (repeat (first | apply nrm_nil | apply nrm_cons)); try apply nrm_rfl) | (apply Fit.cons; focus ((repeat (first | apply Tk.here | apply Tk.there)); first | done | fail)))); first | done | fail)) (nb : ∀ c ∈ D, ∀ b, ¬ c.bd b := by (repeat (first | exact nb0 | refine nb1 ?_)); first | done | fail) :
    TX E ⟨nn, [], none⟩ ⟨bodyPost P fn (RetP (PR w0 A0 R')), w0, A0⟩ [] .ret fr A := ⟨fun w hw => ⟨fun a ha =>
  bodyPost_ret (res_tat (E := E) ha hr h0 ht hg hi hv (hw.mem hm) hcs hl h2) (ha.defers.trans rfl) ⟨_, rfl, PR.mk h hw hf nb⟩⟩⟩
end
attribute [local irreducible] Fit pt own ro vw mpc lpt vels rels mow lrc dfr
attribute [local irreducible] lmp lme mit velg relg bnd owl madeT
theorem made_no (tv : Value) (tbl : List Int) (k : Nat) (hk : 1 ≤ k ∧ k ≤ 4) (hz : solE (madeT tbl k) k ≠ 0) : Tr Tryz.prog 39 [tv, I k] [vw tv (Is tbl)] [] fun u D => u = .tuple #[nS, .agg #[I 0, nS, nS], .bool false] ∧ D = [] := by
  have hC := fun s => SoCheck_tr s (madeT tbl k) k
  refine Tr.enter env _ Tryz.func39 (by kernel_rfl) rfl Tryz.ntmps39 rfl (by repeat (first | exact has00 | refine has01 ?_)) fun w0 => ?_
  refine TC.leni (v := tv) (l := tbl) fun htl => ?_
  refine TC.im (own_nil TLI _) ?_
  repeat' first|refine al fun c => ?_|(refine wo ?_; first|refine oa ?_)|refine sq ?_|refine rg ?_|refine xc ?_|refine nl ?_|refine bk ?_
  refine TC.loop (ι := Nat × Value) (fun g => [(8, I g.1), (7, g.2)]) (fun g => [own TLI g.2 (Is (madeT tbl g.1))]) (fun g => g.1 ≤ k ∧ g.1 ≤ tbl.length ∧ g.2.oneCell' = true) (fun g => k - g.1) (0, nS) [0, 1, 5] ⟨Nat.zero_le _, Nat.zero_le _, rfl⟩ ?_ (hf := by dsimp only; rw [madeT_zero tbl]; first | apply Fit.all | ((repeat (first | (apply Fit.nilN; (repeat (first | apply nrm_nil | apply nrm_cons)); try apply nrm_rfl) | (apply Fit.cons; focus ((repeat (first | apply Tk.here | apply Tk.there)); first | done | fail)))); first | done | fail))
  rintro ⟨i, o⟩ ⟨h1, h2, ho⟩
  dsimp only at h1 h2 ho ⊢
  by_cases hlt : i < k ∧ i < tbl.length
  · have hms := madeT_succ hlt.2
    have hml := madeT_len tbl i
    generalize hy : tbl.getD i 0 = y at *
    repeat' first|(refine gca ?_; first|(refine ca (Pick_tr y 6 (by decide)) ?_; rintro _ _ ⟨rfl, rfl⟩))|refine lie hy ?_|refine slii [pick y 6] fun v1 => ?_|(refine api (l := madeT tbl i) (news := [pick y 6]) (fun o2 => ?_) (hl := by simp only [List.length_cons, List.length_nil]; omega); refine TO.one (v := o2) (xs := Is (madeT tbl i ++ [pick y 6])) fun ho2 => ?_)|(refine wo ?_; first|(refine ao ?_; first|refine aw ?_|refine oa ?_)|refine oa ?_|refine lnm ?_|refine ixmn ?_|refine gy ?_|(refine gsi (fun hB => ?_) (fun hB => ?_) <;> try (exfalso; omega)))|(refine gc ?_; first|(refine ci (fun hB => ?_) (fun hB => ?_) <;> try (exfalso; omega)))|refine sq ?_|refine rg ?_|refine xc ?_|refine nl ?_|refine sk ?_|refine bk ?_|refine xb ?_
    exact lp (i + 1, o2) ⟨hlt.1, hlt.2, ho2⟩ (hf := by dsimp only; rw [hms]; first | apply Fit.all | ((repeat (first | (apply Fit.nilN; (repeat (first | apply nrm_nil | apply nrm_cons)); try apply nrm_rfl) | (apply Fit.cons; focus ((repeat (first | apply Tk.here | apply Tk.there)); first | done | fail)))); first | done | fail))
  · have hmi : madeT tbl i = madeT tbl k := by rw [← madeT_min tbl k]; congr 1; omega
    rw [hmi]
    repeat' first|(refine gca ?_; first|(refine ca (hC o) ?_; rintro _ _ ⟨rfl, rfl⟩))|refine bdz ?_|refine srz ?_|(refine wo ?_; first|(refine ao ?_; first|refine oa ?_)|refine oa ?_|refine lnm ?_|refine gy ?_|refine gn ?_|(refine gsi (fun hB => ?_) (fun hB => ?_) <;> try (exfalso; omega)))|(refine gc ?_; first|refine cf ?_|(refine ci (fun hB => ?_) (fun hB => ?_) <;> try (exfalso; omega))|(refine cn (fun hB => ?_) (fun hB => ?_) <;> try (exfalso; omega)))|refine sq ?_|refine rg ?_|refine xc ?_|refine nl ?_|refine xe ?_|refine rt ?_
    all_goals exact rtat (cs := [I 0, nS, nS]) (vs := [I 0, nS, nS]) (T := TAl) ⟨rfl, rfl⟩
theorem made_yes (tv : Value) (tbl : List Int) (k : Nat) (hk : 1 ≤ k ∧ k ≤ 4) (hz : solE (madeT tbl k) k = 0) : Tr Tryz.prog 39 [tv, I k] [vw tv (Is tbl)] [] fun u D => ∃ o cv ov, u = .tuple #[o, .agg #[I (madeT tbl k).sum, cv, ov], .bool true] ∧ o.oneCell' = true ∧ cv.oneCell' = true ∧ ov.oneCell' = true ∧
    D = [own TLI o (Is (madeT tbl k)), own TLI cv (Is (alF (madeT tbl k)).cut), own TLI ov (Is (alF (madeT tbl k)).oth)] := by
  have hC := fun s => SoCheck_tr s (madeT tbl k) k
  rw [hz] at hC
  obtain ⟨_, z2, z3, z4⟩ := solE_zero hz
  have hM := fun s => Make_tr s (madeT tbl k) (by omega) z3 (sum_posT z3 z4)
  refine Tr.enter env _ Tryz.func39 (by kernel_rfl) rfl Tryz.ntmps39 rfl (by repeat (first | exact has00 | refine has01 ?_)) fun w0 => ?_
  refine TC.leni (v := tv) (l := tbl) fun htl => ?_
  refine TC.im (own_nil TLI _) ?_
  repeat' first|refine al fun c => ?_|(refine wo ?_; first|refine oa ?_)|refine sq ?_|refine rg ?_|refine xc ?_|refine nl ?_|refine bk ?_
  refine TC.loop (ι := Nat × Value) (fun g => [(8, I g.1), (7, g.2)]) (fun g => [own TLI g.2 (Is (madeT tbl g.1))]) (fun g => g.1 ≤ k ∧ g.1 ≤ tbl.length ∧ g.2.oneCell' = true) (fun g => k - g.1) (0, nS) [0, 1, 5] ⟨Nat.zero_le _, Nat.zero_le _, rfl⟩ ?_ (hf := by dsimp only; rw [madeT_zero tbl]; first | apply Fit.all | ((repeat (first | (apply Fit.nilN; (repeat (first | apply nrm_nil | apply nrm_cons)); try apply nrm_rfl) | (apply Fit.cons; focus ((repeat (first | apply Tk.here | apply Tk.there)); first | done | fail)))); first | done | fail))
  rintro ⟨i, o⟩ ⟨h1, h2, ho⟩
  dsimp only at h1 h2 ho ⊢
  by_cases hlt : i < k ∧ i < tbl.length
  · have hms := madeT_succ hlt.2
    have hml := madeT_len tbl i
    clear hM hC z3 z4
    generalize hy : tbl.getD i 0 = y at *
    repeat' first|(refine gca ?_; first|(refine ca (Pick_tr y 6 (by decide)) ?_; rintro _ _ ⟨rfl, rfl⟩))|refine lie hy ?_|refine slii [pick y 6] fun v1 => ?_|(refine api (l := madeT tbl i) (news := [pick y 6]) (fun o2 => ?_) (hl := by simp only [List.length_cons, List.length_nil]; omega); refine TO.one (v := o2) (xs := Is (madeT tbl i ++ [pick y 6])) fun ho2 => ?_)|(refine wo ?_; first|(refine ao ?_; first|refine aw ?_|refine oa ?_)|refine oa ?_|refine lnm ?_|refine ixmn ?_|refine gy ?_|(refine gsi (fun hB => ?_) (fun hB => ?_) <;> try (exfalso; omega)))|(refine gc ?_; first|(refine ci (fun hB => ?_) (fun hB => ?_) <;> try (exfalso; omega)))|refine sq ?_|refine rg ?_|refine xc ?_|refine nl ?_|refine sk ?_|refine bk ?_|refine xb ?_
    exact lp (i + 1, o2) ⟨hlt.1, hlt.2, ho2⟩ (hf := by dsimp only; rw [hms]; first | apply Fit.all | ((repeat (first | (apply Fit.nilN; (repeat (first | apply nrm_nil | apply nrm_cons)); try apply nrm_rfl) | (apply Fit.cons; focus ((repeat (first | apply Tk.here | apply Tk.there)); first | done | fail)))); first | done | fail))
  · have hmi : madeT tbl i = madeT tbl k := by rw [← madeT_min tbl k]; congr 1; omega
    rw [hmi]
    generalize (madeT tbl k).sum = tot at *
    generalize (alF (madeT tbl k)).cut = cut at *
    generalize (alF (madeT tbl k)).oth = oth at *
    repeat' first|(refine gca ?_; first|(refine ca (hC o) ?_; rintro _ _ ⟨rfl, rfl⟩)|(refine ca (hM o) ?_; rintro _ _ ⟨cv, ov, rfl, rfl, hcv, hov⟩))|refine al fun c9 => ?_|refine srz ?_|(refine wo ?_; first|(refine ao ?_; first|refine oa ?_)|refine oa ?_|refine lnm ?_|refine gy ?_|refine gn ?_|(refine gsi (fun hB => ?_) (fun hB => ?_) <;> try (exfalso; omega)))|(refine gc ?_; first|refine cf ?_|(refine ci (fun hB => ?_) (fun hB => ?_) <;> try (exfalso; omega)))|refine sq ?_|refine rg ?_|refine xc ?_|refine nl ?_|refine sk ?_|refine xe ?_
    all_goals (
      refine rs (fun w => w.heap[c9]? = some (.cells [I tot, cv, ov].toArray TAl (0, 0))) ?_ (fun w hw => pt_at (b := c9) (cs := [I tot, cv, ov]) (T := TAl) (by (repeat (first | apply List.Mem.head | apply List.Mem.tail)); first | done | fail) hw)
      refine tka 0 ?_
      refine tk 1 (v := .agg #[I tot, cv, ov]) (fun w h => R_loadA (E := env) (vs := [I tot, cv, ov]) rfl rfl rfl rfl h rfl rfl) ?_
      refine tka 2 ?_
      refine tka 3 ?_
      refine tka 4 ?_
      refine t1 5 ?_
      refine srz ?_
      refine nl ?_
      refine te (fun w hw => pt_at (b := c9) (cs := [I tot, cv, ov]) (T := TAl) (by (repeat (first | apply List.Mem.head | apply List.Mem.tail)); first | done | fail) hw) ?_
      refine tka 6 ?_
      refine t0 ?_
      repeat' first|refine xc ?_|refine rt ?_
      exact rtat (cs := [I tot, cv, ov]) (vs := [I tot, cv, ov]) (T := TAl) ⟨o, cv, ov, rfl, ho, hcv, hov, rfl⟩
      )
section
variable {P : Program} {E : Env P} {n : Sh} {X : Cx} {s : List K} {fr : Fr} {A : List Ch} {ops : Array Oper} {rest : List Oper} {d : Nat} {ty tx asr : TypeId} {pos : String} {after : Array Edge} {v : Value} {x : Operand} {dd : TypeDesc}
end
end Go.Art
