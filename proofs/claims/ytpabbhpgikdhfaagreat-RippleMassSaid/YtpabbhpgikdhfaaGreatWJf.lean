/- Texts put together: Fp Qq Rx Rw Hp Hq Ak Mk Qr Qs Gl Gs Qv Qw Qx Rz Rv Ry Fr Sr StopF StopG StopH StopI StopJ. Conditions: none. -/
import Derived.Test.YtpabbhpgikdhfaaGreatWJe
set_option linter.unusedSimpArgs false
set_option linter.unusedVariables false
namespace Go.Art
open Go Go.Proofs Go.RowKit
theorem rmul_den (q r:Rat):(q * r).den = (q.den / Nat.gcd r.num.natAbs q.den) * (r.den / Nat.gcd q.num.natAbs r.den):=by
 show (Rat.mul q r).den = _
 unfold Rat.mul
 rfl
theorem rmul_num (q r:Rat):(q * r).num = (q.num / (Nat.gcd q.num.natAbs r.den:Nat)) * (r.num / (Nat.gcd r.num.natAbs q.den:Nat)):=by
 show (Rat.mul q r).num = _
 unfold Rat.mul
 simp only [Int.divExact_eq_ediv]
theorem rmul_abs (q r:Rat):(q * r).num.natAbs = (q.num.natAbs / Nat.gcd q.num.natAbs r.den) * (r.num.natAbs / Nat.gcd r.num.natAbs q.den):=by
 rw [rmul_num,Int.natAbs_mul,natAbs_div _ _ (Int.ofNat_dvd_left.2 (Nat.gcd_dvd_left _ _)),natAbs_div _ _ (Int.ofNat_dvd_left.2 (Nat.gcd_dvd_left _ _))]
theorem div_sgn {z:Int} {g:Nat} (h:g ∣ z.natAbs) (hg:g ≠ 0):decide (z / (g:Int) < 0) = decide (z < 0):=by
 refine decide_eq_decide.2 ⟨fun k=>?_,fun k=>?_⟩
 ·rcases Int.lt_or_le z 0 with h1 | h1
  ·exact h1
  ·have:=Int.ediv_nonneg h1 (Int.natCast_nonneg g);omega
 ·exact Int.ediv_neg_of_neg_of_pos k (by omega)
theorem rmul_sgn (q r:Rat):decide ((q * r).num < 0) = (!(decide (q.num < 0) == decide (r.num < 0)) && decide (0 < (q.num.natAbs / Nat.gcd q.num.natAbs r.den) * (r.num.natAbs / Nat.gcd r.num.natAbs q.den))):=by
 have g1:Nat.gcd q.num.natAbs r.den ≠ 0:=Nat.ne_of_gt (Nat.gcd_pos_of_pos_right _ (Nat.pos_of_ne_zero r.den_nz))
 have g2:Nat.gcd r.num.natAbs q.den ≠ 0:=Nat.ne_of_gt (Nat.gcd_pos_of_pos_right _ (Nat.pos_of_ne_zero q.den_nz))
 have h1:=div_sgn (z:=q.num) (Nat.gcd_dvd_left q.num.natAbs r.den) g1
 have h2:=div_sgn (z:=r.num) (Nat.gcd_dvd_left r.num.natAbs q.den) g2
 have h3:=natAbs_div q.num (Nat.gcd q.num.natAbs r.den) (Int.ofNat_dvd_left.2 (Nat.gcd_dvd_left _ _))
 have h4:=natAbs_div r.num (Nat.gcd r.num.natAbs q.den) (Int.ofNat_dvd_left.2 (Nat.gcd_dvd_left _ _))
 rw [rmul_num,← h1,← h2,← h3,← h4,← sg_mul,sg_neg]
attribute [local irreducible] Fit pt own ro vw mpc lpt vels rels mow lrc dfr
attribute [local irreducible] lmp lme mit velg relg bnd owl
theorem FProd_tr (q r:Rat) (v1 v2 v3 v4:Value) (h1:v1.oneCell' = true) (h2:v2.oneCell' = true) (h3:v3.oneCell' = true) (h4:v4.oneCell' = true) (hq:FB q 8589934592) (hr:FB r 8589934592) :
  Tr Tryz.prog 140 [rv q v1 v2,rv r v3 v4] [vw v1 (Us (dg q.num.natAbs)),vw v2 (Us (dg q.den)),vw v3 (Us (dg r.num.natAbs)),vw v4 (Us (dg r.den))] [] (FQ (q * r)):=by
 have hG1:=NGcd_tr v1 v4 (dg q.num.natAbs) (dg r.den) (Dg_dg _) (Dg_dg _) (by have:=hq.1;omega) (by have:=hr.2;omega)
 have hG2:=NGcd_tr v3 v2 (dg r.num.natAbs) (dg q.den) (Dg_dg _) (Dg_dg _) (by have:=hr.1;omega) (by have:=hq.2;omega)
 rw [nv_dg,nv_dg] at hG1 hG2
 have e1:=rmul_abs q r
 have e2:=rmul_den q r
 have e3:=rmul_sgn q r
 obtain ⟨g,hg⟩ : ∃ g,g = Nat.gcd q.num.natAbs r.den:=⟨_,rfl⟩
 obtain ⟨h,hh⟩ : ∃ h,h = Nat.gcd r.num.natAbs q.den:=⟨_,rfl⟩
 have g0:g ≠ 0:=by rw [hg];exact Nat.ne_of_gt (Nat.gcd_pos_of_pos_right _ (Nat.pos_of_ne_zero r.den_nz))
 have h0:h ≠ 0:=by rw [hh];exact Nat.ne_of_gt (Nat.gcd_pos_of_pos_right _ (Nat.pos_of_ne_zero q.den_nz))
 have gl:(dg g).length ≤ 8589934592:=by rw [hg];exact Nat.le_trans (dg_mono (Nat.gcd_le_right _ (Nat.pos_of_ne_zero r.den_nz))) hr.2
 have hl:(dg h).length ≤ 8589934592:=by rw [hh];exact Nat.le_trans (dg_mono (Nat.gcd_le_right _ (Nat.pos_of_ne_zero q.den_nz))) hq.2
 rw [← hg] at hG1 e1 e2 e3
 rw [← hh] at hG2 e1 e2 e3
 have q1:=hq.1
 have q2:=hq.2
 have r1':=hr.1
 have r2':=hr.2
 have hB1:=fun o=>by_tr v1 o (dg q.num.natAbs) (dg g) (Dg_dg _) (Dg_dg _) (by omega) (by omega) (by rw [nv_dg];exact g0)
 have hB2:=fun o=>by_tr v3 o (dg r.num.natAbs) (dg h) (Dg_dg _) (Dg_dg _) (by omega) (by omega) (by rw [nv_dg];exact h0)
 have hB3:=fun o=>by_tr v2 o (dg q.den) (dg h) (Dg_dg _) (Dg_dg _) (by omega) (by omega) (by rw [nv_dg];exact h0)
 have hB4:=fun o=>by_tr v4 o (dg r.den) (dg g) (Dg_dg _) (Dg_dg _) (by omega) (by omega) (by rw [nv_dg];exact g0)
 simp only [nv_dg] at hB1 hB2 hB3 hB4
 have m1:(dg (q.num.natAbs / g)).length ≤ 8589934592:=Nat.le_trans (dg_mono (Nat.div_le_self _ _)) q1
 have m2:(dg (r.num.natAbs / h)).length ≤ 8589934592:=Nat.le_trans (dg_mono (Nat.div_le_self _ _)) r1'
 have m3:(dg (q.den / h)).length ≤ 8589934592:=Nat.le_trans (dg_mono (Nat.div_le_self _ _)) q2
 have m4:(dg (r.den / g)).length ≤ 8589934592:=Nat.le_trans (dg_mono (Nat.div_le_self _ _)) r2'
 have hM1:=fun x y=>NMul_tr x y (dg (q.num.natAbs / g)) (dg (r.num.natAbs / h)) (Dg_dg _) (Dg_dg _) (by omega) (by omega)
 have hM2:=fun x y=>NMul_tr x y (dg (q.den / h)) (dg (r.den / g)) (Dg_dg _) (Dg_dg _) (by omega) (by omega)
 simp only [nv_dg] at hM1 hM2
 have ml:=dg_mul_len m1 m2
 have hI:=fun b o=>IMake_tr b o (dg (q.num.natAbs / g * (r.num.natAbs / h))) (Dg_dg _) (by omega)
 rw [← e1] at hM1 hI e3
 rw [← e2] at hM2
 simp only [nv_dg] at hI
 unfold IR at hI
 simp only [sg_abs,sg_neg] at hI
 obtain ⟨s,hs⟩ : ∃ s,s = q * r:=⟨_,rfl⟩
 rw [← hs] at hM1 hM2 hI e3 ⊢
 clear e1 e2 hs ml
 show Tr _ _ [.agg #[.bool (decide (q.num < 0)),v1,v2],.agg #[.bool (decide (r.num < 0)),v3,v4]] _ _ _
 have hI2:=hI (!(decide (q.num < 0) == decide (r.num < 0)))
 rw [← e3] at hI2
 clear hI e3
 clear m1 m2 m3 m4 gl hl q1 q2 r1' r2' hq hr
 generalize dg (q.num.natAbs / g) = x1 at *
 generalize dg (r.num.natAbs / h) = x2 at *
 generalize dg (q.den / h) = x3 at *
 generalize dg (r.den / g) = x4 at *
 clear hg hh g0 h0
 generalize dg q.num.natAbs = lq at *
 generalize dg q.den = lqd at *
 generalize dg r.num.natAbs = lr at *
 generalize dg r.den = lrd at *
 generalize decide (q.num < 0) = b1 at *
 generalize decide (r.num < 0) = b2 at *
 refine Tr.enter env _ Tryz.func140 (by kernel_rfl) rfl Tryz.ntmps140 rfl (by repeat (first | exact has00 | refine has01 ?_)) fun w0=>?_
 repeat' first|refine bx fun q=>?_|refine al fun c=>?_|refine sq ?_|refine rg ?_|refine xc ?_|refine nl ?_
 rename_i q1
 refine rs (fun w=>w.heap[q1]? = some (.cells [.bool b1,v1,v2].toArray TRt (0,0))∧w.heap[q]? = some (.cells [.bool b2,v3,v4].toArray TRt (0,0))) ?_ (fun w hw=>⟨pt_at memA hw,pt_at memA hw⟩)
 refine tka 0 ?_
 refine tka 1 ?_
 refine tkl 2 (cs:=[.bool b1,v1,v2]) (fun w h=>h.1) ?_
 refine tka 3 ?_
 refine tkl 4 (cs:=[.bool b2,v3,v4]) (fun w h=>h.2) ?_
 refine tka 6 ?_
 refine tka 7 ?_
 refine tkl 8 (cs:=[.bool b2,v3,v4]) (fun w h=>h.2) ?_
 refine tka 9 ?_
 refine tkl 10 (cs:=[.bool b1,v1,v2]) (fun w h=>h.1) ?_
 refine t1 5 ?_
 refine ca hG1 ?_
 rintro o1 _ ⟨ho1,rfl⟩
 refine nl ?_
 refine te (fun w hw=>⟨pt_at memA hw,pt_at memA hw⟩) ?_
 refine t1 11 ?_
 refine ca hG2 ?_
 rintro o2 _ ⟨ho2,rfl⟩
 refine nl ?_
 refine te (fun w hw=>⟨pt_at memA hw,pt_at memA hw⟩) ?_
 refine tka 12 ?_
 refine tka 13 ?_
 refine t0 ?_
 repeat' first|refine sq ?_|refine xc ?_
 refine cutY (ι:=Nat × Value) (fun u=>u.2.oneCell' = true) (fun u=>[(2,ptr q1),(3,ptr q),(4,ptr c),(5,o1),(6,o2),(7,ptr u.1)]) (fun u=>[pt q1 [.bool b1,v1,v2] TRt,pt q [.bool b2,v3,v4] TRt,pt c [.bool false,nS,nS] TRt,pt u.1 [.bool (decide (s.num < 0)),u.2] TIt,own T64 u.2 (Us (dg s.num.natAbs)),vw v2 (Us lqd),vw v4 (Us lrd),own T64 o1 (Us (dg g)),own T64 o2 (Us (dg h))]) ?_ ?_
 ·rintro ⟨c2,o3⟩ ho3
  dsimp only at ho3 ⊢
  repeat' first|refine sq ?_
  refine rs (fun w=>w.heap[q1]? = some (.cells [.bool b1,v1,v2].toArray TRt (0,0))∧w.heap[q]? = some (.cells [.bool b2,v3,v4].toArray TRt (0,0))∧w.heap[c2]? = some (.cells [.bool (decide (s.num < 0)),o3].toArray TIt (0,0))) ?_ (fun w hw=>⟨pt_at memA hw,pt_at memA hw,pt_at memA hw⟩)
  refine tk 0 (v:=.agg #[.bool (decide (s.num < 0)),o3]) (fun w h=>R_loadA (E:=env) (vs:=[.bool (decide (s.num < 0)),o3]) rfl rfl rfl rfl h.2.2 rfl rfl) ?_
  refine tka 1 ?_
  refine tkl 2 (cs:=[.bool b1,v1,v2]) (fun w h=>h.1) ?_
  refine tka 3 ?_
  refine tka 5 ?_
  refine tkl 6 (cs:=[.bool b2,v3,v4]) (fun w h=>h.2.1) ?_
  refine tka 7 ?_
  refine t1 4 ?_
  refine ca (hB3 o2) ?_
  rintro y4 _ ⟨hy4,rfl⟩
  refine nl ?_
  refine te (fun w hw=>⟨pt_at memA hw,pt_at memA hw,pt_at memA hw⟩) ?_
  refine t1 8 ?_
  refine ca (hB4 o1) ?_
  rintro y5 _ ⟨hy5,rfl⟩
  refine nl ?_
  refine te (fun w hw=>⟨pt_at memA hw,pt_at memA hw,pt_at memA hw⟩) ?_
  refine t1 9 ?_
  refine ca (hM2 y4 y5) ?_
  rintro y6 _ ⟨hy6,rfl⟩
  refine nl ?_
  refine te (fun w hw=>⟨pt_at memA hw,pt_at memA hw,pt_at memA hw⟩) ?_
  refine t1 10 ?_
  refine bdm ?_
  refine nl ?_
  refine te (fun w hw=>⟨pt_at memA hw,pt_at memA hw,pt_at memA hw⟩) ?_
  refine t1 11 ?_
  refine srz ?_
  refine nl ?_
  refine te (fun w hw=>⟨pt_at memA hw,pt_at memA hw,pt_at memA hw⟩) ?_
  refine t0 ?_
  repeat' first|refine xc ?_|refine rt ?_
  exact rca1 (cs:=[.bool (decide (s.num < 0)),o3,y6]) (vs:=[.bool (decide (s.num < 0)),o3,y6]) (T:=TRt) ⟨o3,y6,rfl,ho3,hy6,rfl⟩
 ·intro b' kb
  refine rs (fun w=>w.heap[q1]? = some (.cells [.bool b1,v1,v2].toArray TRt (0,0))∧w.heap[q]? = some (.cells [.bool b2,v3,v4].toArray TRt (0,0))) ?_ (fun w hw=>⟨pt_at memA hw,pt_at memA hw⟩)
  refine tka 0 ?_
  refine tka 1 ?_
  refine tkl 2 (cs:=[.bool b1,v1,v2]) (fun w h=>h.1) ?_
  refine tka 3 ?_
  refine tka 4 ?_
  refine tkl 5 (cs:=[.bool b2,v3,v4]) (fun w h=>h.2) ?_
  refine tk 6 (v:=.bool (!(b1 == b2))) (fun _ _=>R_bne (E:=env) (b1:=b1) (b2:=b2) rfl rfl rfl) ?_
  refine tka 7 ?_
  refine tka 8 ?_
  refine tkl 9 (cs:=[.bool b1,v1,v2]) (fun w h=>h.1) ?_
  refine tka 10 ?_
  refine tka 12 ?_
  refine tka 13 ?_
  refine tkl 14 (cs:=[.bool b2,v3,v4]) (fun w h=>h.2) ?_
  refine tka 15 ?_
  refine t2 11 19 ?_ ?_
  ·refine ca (hB1 o1) ?_
   rintro y1 _ ⟨hy1,rfl⟩
   refine nl ?_
   refine te (fun w hw=>⟨pt_at memA hw,pt_at memA hw⟩) ?_
   refine t2 16 19 ?_ ?_
   ·refine ca (hB2 o2) ?_
    rintro y2 _ ⟨hy2,rfl⟩
    refine nl ?_
    refine te (fun w hw=>⟨pt_at memA hw,pt_at memA hw⟩) ?_
    refine t2 17 19 ?_ ?_
    ·refine ca (hM1 y1 y2) ?_
     rintro y3 _ ⟨hy3,rfl⟩
     refine nl ?_
     refine te (fun w hw=>⟨pt_at memA hw,pt_at memA hw⟩) ?_
     refine t2 18 19 ?_ ?_
     ·refine ca (hI2 y3) ?_
      rintro _ _ ⟨o3,rfl,ho3,rfl⟩
      refine nl ?_
      refine te (fun w hw=>⟨pt_at memA hw,pt_at memA hw⟩) ?_
      refine t1 19 ?_
      refine al fun c2=>?_
      refine nl ?_
      refine te (fun w hw=>⟨pt_at memA hw,pt_at memA hw⟩) ?_
      refine t1 20 ?_
      refine srz ?_
      refine nl ?_
      refine te (fun w hw=>⟨pt_at memA hw,pt_at memA hw⟩) ?_
      refine t0 ?_
      repeat' first|refine xc ?_
      exact kb (c2,o3) ho3 _ _ (by (repeat (refine Sub.cons rfl (by first | rfl | go_num) ?_));exact Sub.nil) fitA
     ·refine al fun c2=>?_
      refine nl ?_
      refine te (fun w hw=>⟨pt_at memA hw,pt_at memA hw⟩) ?_
      refine t1 18 ?_
      refine ca (hI2 y3) ?_
      rintro _ _ ⟨o3,rfl,ho3,rfl⟩
      refine nl ?_
      refine te (fun w hw=>⟨pt_at memA hw,pt_at memA hw⟩) ?_
      refine t1 20 ?_
      refine srz ?_
      refine nl ?_
      refine te (fun w hw=>⟨pt_at memA hw,pt_at memA hw⟩) ?_
      refine t0 ?_
      repeat' first|refine xc ?_
      exact kb (c2,o3) ho3 _ _ (by (repeat (refine Sub.cons rfl (by first | rfl | go_num) ?_));exact Sub.nil) fitA
    ·refine al fun c2=>?_
     refine nl ?_
     refine te (fun w hw=>⟨pt_at memA hw,pt_at memA hw⟩) ?_
     refine t1 17 ?_
     refine ca (hM1 y1 y2) ?_
     rintro y3 _ ⟨hy3,rfl⟩
     refine nl ?_
     refine te (fun w hw=>⟨pt_at memA hw,pt_at memA hw⟩) ?_
     refine t1 18 ?_
     refine ca (hI2 y3) ?_
     rintro _ _ ⟨o3,rfl,ho3,rfl⟩
     refine nl ?_
     refine te (fun w hw=>⟨pt_at memA hw,pt_at memA hw⟩) ?_
     refine t1 20 ?_
     refine srz ?_
     refine nl ?_
     refine te (fun w hw=>⟨pt_at memA hw,pt_at memA hw⟩) ?_
     refine t0 ?_
     repeat' first|refine xc ?_
     exact kb (c2,o3) ho3 _ _ (by (repeat (refine Sub.cons rfl (by first | rfl | go_num) ?_));exact Sub.nil) fitA
   ·refine al fun c2=>?_
    refine nl ?_
    refine te (fun w hw=>⟨pt_at memA hw,pt_at memA hw⟩) ?_
    refine t1 16 ?_
    refine ca (hB2 o2) ?_
    rintro y2 _ ⟨hy2,rfl⟩
    refine nl ?_
    refine te (fun w hw=>⟨pt_at memA hw,pt_at memA hw⟩) ?_
    refine t1 17 ?_
    refine ca (hM1 y1 y2) ?_
    rintro y3 _ ⟨hy3,rfl⟩
    refine nl ?_
    refine te (fun w hw=>⟨pt_at memA hw,pt_at memA hw⟩) ?_
    refine t1 18 ?_
    refine ca (hI2 y3) ?_
    rintro _ _ ⟨o3,rfl,ho3,rfl⟩
    refine nl ?_
    refine te (fun w hw=>⟨pt_at memA hw,pt_at memA hw⟩) ?_
    refine t1 20 ?_
    refine srz ?_
    refine nl ?_
    refine te (fun w hw=>⟨pt_at memA hw,pt_at memA hw⟩) ?_
    refine t0 ?_
    repeat' first|refine xc ?_
    exact kb (c2,o3) ho3 _ _ (by (repeat (refine Sub.cons rfl (by first | rfl | go_num) ?_));exact Sub.nil) fitA
  ·refine al fun c2=>?_
   refine nl ?_
   refine te (fun w hw=>⟨pt_at memA hw,pt_at memA hw⟩) ?_
   refine t1 11 ?_
   refine ca (hB1 o1) ?_
   rintro y1 _ ⟨hy1,rfl⟩
   refine nl ?_
   refine te (fun w hw=>⟨pt_at memA hw,pt_at memA hw⟩) ?_
   refine t1 16 ?_
   refine ca (hB2 o2) ?_
   rintro y2 _ ⟨hy2,rfl⟩
   refine nl ?_
   refine te (fun w hw=>⟨pt_at memA hw,pt_at memA hw⟩) ?_
   refine t1 17 ?_
   refine ca (hM1 y1 y2) ?_
   rintro y3 _ ⟨hy3,rfl⟩
   refine nl ?_
   refine te (fun w hw=>⟨pt_at memA hw,pt_at memA hw⟩) ?_
   refine t1 18 ?_
   refine ca (hI2 y3) ?_
   rintro _ _ ⟨o3,rfl,ho3,rfl⟩
   refine nl ?_
   refine te (fun w hw=>⟨pt_at memA hw,pt_at memA hw⟩) ?_
   refine t1 20 ?_
   refine srz ?_
   refine nl ?_
   refine te (fun w hw=>⟨pt_at memA hw,pt_at memA hw⟩) ?_
   refine t0 ?_
   repeat' first|refine xc ?_
   exact kb (c2,o3) ho3 _ _ (by (repeat (refine Sub.cons rfl (by first | rfl | go_num) ?_));exact Sub.nil) fitA
theorem FMul_tr (lv:Value) (qs:List Rat) (hs:List (Value × Value)) (hl:hs.length = qs.length) (hFB:∀ i,i < qs.length→FB (qs.getD i 0) 8589934592) (hP:∀ i,i < qs.length→FB ((qs.take i).foldl (· * ·) 1) 8589934592) :
  Tr Tryz.prog 79 [lv] [vwf lv qs.length (rcs qs hs),vfr hs qs] [] (FQ2 (qs.foldl (· * ·) 1) 0):=by
 have hF:=fun o o2 ho ho2=>Fold_tr (· * ·) 140 1 o o2 lv qs hs ho ho2 hl (fun i hi=>(hFB i hi).le (by decide)) (fun i hi v1 v2 h1 h2 h3 h4=>FProd_tr _ _ v1 v2 _ _ h1 h2 h3 h4 (hP i hi) (hFB i hi))
 have e1:dg (1:Rat).num.natAbs = [1]:=by rw [show (1:Rat).num.natAbs = 1 from rfl,dg_pos (by decide)];rw [show 1 / 18446744073709551616 = 0 from rfl,dg_zero]
 have e2:dg (1:Rat).den = [1]:=by rw [show (1:Rat).den = 1 from rfl,dg_pos (by decide)];rw [show 1 / 18446744073709551616 = 0 from rfl,dg_zero]
 rw [e1,e2] at hF
 unfold FQ2 at hF ⊢
 generalize qs.foldl (· * ·) (1:Rat) = p at *
 refine Tr.enter env _ Tryz.func79 (by kernel_rfl) rfl Tryz.ntmps79 rfl (by repeat (first | exact has00 | refine has01 ?_)) fun w0=>?_
 repeat' first|(refine gca ?_;first|(refine ca one_tr ?_;rintro o _ ⟨ho,rfl⟩))|refine al fun c=>?_|refine bdm ?_|(refine wo ?_;first|refine oa ?_)|refine sq ?_|refine rg ?_|refine xc ?_|refine nl ?_
 rename_i oo hoo
 repeat' first|(refine gca ?_;first|(refine ca (hF oo o hoo ho) ?_;rintro _ _ ⟨vn,vd,rfl,hvn,hvd,rfl⟩))|refine srz ?_|(refine wo ?_;first|refine oa ?_)|refine xc ?_|refine nl ?_|refine rt ?_
 exact rca (cs:=[.bool (decide (p.num < 0)),vn,vd]) (vs:=[.bool (decide (p.num < 0)),vn,vd]) (T:=TRt) ⟨vn,vd,rfl,hvn,hvd,rfl⟩
end Go.Art
namespace Go.Art
open Go Go.Proofs Go.RowKit
theorem R_ntu {P:Program} {E:Env P} {n:Sh} {fr:Fr} {w:World} {t t' ty:TypeId} {x:Operand} {k0:IntKind} {m:Int} (ht:lk E.und t' = some (.int .u64)) (hs:(lk E.und t).isSome = true) (hx:ev fr x = some (.int k0 m)) (hb:0 ≤ m∧m < 18446744073709551616):OpV P n fr (.convert t t' x) ty w (Un m.toNat) w:=by
 have:=R_conv (P:=P) (n:=n) (w:=w) (ty:=ty) ht hs hx;rwa [wrapN m m.toNat (by omega)] at this
theorem R_ntuk {P:Program} {E:Env P} {n:Sh} {fr:Fr} {w:World} {t t' ty:TypeId} {x:Operand} {k0:IntKind} {m:Nat} (ht:lk E.und t' = some (.int .u64)) (hs:(lk E.und t).isSome = true) (hx:ev fr x = some (.int k0 (m:Int))) (hb:m < 18446744073709551616):OpV P n fr (.convert t t' x) ty w (Un m) w:=by
 have:=R_ntu (P:=P) (n:=n) (w:=w) (ty:=ty) ht hs hx (by omega);rwa [Int.toNat_natCast] at this
theorem dg_grow_len {a x L:Nat} (h:(dg a).length ≤ L) (hx:x < 18446744073709551616):(dg (a * x)).length ≤ L + 1:=(dg_len _ _).2 (by
 rw [Nat.pow_succ];exact Nat.mul_lt_mul_of_lt_of_le ((dg_len _ _).1 h) (by omega) (by decide))
theorem meaW_ok {tot:Int} {cut oth:List Int} {k d:Int} (hk:rwE tot cut oth k = 0) (hd:¬ (d < 1∨cut.length < d)):meaW tot cut oth k d = (rqf (mkRat 1 (fall k.toNat d.toNat * cut.length * tot.toNat)),0):=by
 unfold meaW;rw [if_pos hk,if_neg hd]
theorem sum_wOk {t:List Int} (h:∀ w ∈ t,0 ≤ w∧w ≤ 16777215):0 ≤ t.sum∧t.sum ≤ 16777215 * t.length:=sum_bound h
theorem sum_posT {t:List Int} (h:∀ w ∈ t,0 ≤ w∧w ≤ 16777215) (hp:∃ w ∈ t,0 < w):0 < t.sum:=by
 induction t with
 | nil=>obtain ⟨w,hw,_⟩:=hp;cases hw
 | cons a r ih=>
  have h1:=h a (by simp)
  have h2:=sum_bound (t:=r) fun w hw=>h w (by simp [hw])
  rw [List.sum_cons]
  obtain ⟨w,hw,hw0⟩:=hp
  rcases List.mem_cons.1 hw with rfl | hw
  ·omega
  ·have:=ih (fun w hw=>h w (by simp [hw])) ⟨w,hw,hw0⟩;omega
attribute [local irreducible] Fit pt own ro vw mpc lpt vels rels mow lrc dfr
attribute [local irreducible] lmp lme mit velg relg
theorem MeaW_tr (tot k d:Int) (cv ov:Value) (cut oth:List Int) (hc:cv.oneCell' = true) (ho:ov.oneCell' = true):Tr Tryz.prog 88 [.agg #[I tot,cv,ov],I k,I d] [vw cv (Is cut),vw ov (Is oth)] []
  (FW (meaW tot cut oth k d)):=by
 have hck:=RwE_tr tot k cv ov cut oth hc ho
 by_cases hk:rwE tot cut oth k = 0
 rotate_left
 ·unfold meaW
  rw [if_neg hk]
  generalize rwE tot cut oth k = e at *
  refine Tr.mono (R:=fun u D=>u = tup2 rv0 (I e)∧D = [own T64 nS (Us []),own T64 nS (Us [])]) ?_ fun u D h=>FW.of0 h
  refine Tr.enter env _ Tryz.func88 (by kernel_rfl) rfl Tryz.ntmps88 rfl (by repeat (first | exact has00 | refine has01 ?_)) fun w0=>?_
  repeat' first|(refine gca ?_;first|(refine ca hck ?_;rintro _ _ ⟨rfl,rfl⟩))|refine bx fun b=>?_|refine al fun b2=>?_|refine lda ?_|refine bdm ?_|refine srz ?_|(refine wo ?_;first|(refine ao ?_;first|refine oa ?_)|refine oa ?_)|(refine gc ?_;first|(refine cn (fun hB=>?_) (fun hB=>?_) <;> try (exfalso;omega)))|refine sq ?_|refine rg ?_|refine xc ?_|refine nl ?_|refine rt ?_
  refine TX.im (own_nil T64 _) (TX.im (own_nil T64 _) ?_)
  exact rca (cs:=[.bool false,nS,nS]) (vs:=[.bool false,nS,nS]) (T:=TRt) ⟨rfl,rfl⟩
 rw [hk] at hck
 obtain ⟨hE,k1,k2,k3⟩:=rwE_ok hk
 have hb:=alE_bnd hE
 by_cases hd:d < 1∨cut.length < d
 ·unfold meaW
  rw [if_pos hk,if_pos hd]
  clear hk hE
  refine Tr.mono (R:=fun u D=>u = tup2 rv0 (I 3)∧D = [own T64 nS (Us []),own T64 nS (Us [])]) ?_ fun u D h=>FW.of0 h
  refine Tr.enter env _ Tryz.func88 (by kernel_rfl) rfl Tryz.ntmps88 rfl (by repeat (first | exact has00 | refine has01 ?_)) fun w0=>?_
  repeat' first|(refine gca ?_;first|(refine ca hck ?_;rintro _ _ ⟨rfl,rfl⟩))|refine bx fun b=>?_|refine al fun b2=>?_|refine lda ?_|refine bdm ?_|refine srz ?_|(refine wo ?_;first|(refine ao ?_;first|refine oa ?_)|refine oa ?_|refine ld ?_|refine lnm ?_|refine gy ?_|refine gn ?_|(refine gsi (fun hB=>?_) (fun hB=>?_) <;> try (exfalso;omega)))|(refine gc ?_;first|refine ct ?_|refine cf ?_|(refine ci (fun hB=>?_) (fun hB=>?_) <;> try (exfalso;omega)))|refine sq ?_|refine rg ?_|refine xc ?_|refine nl ?_|refine sk ?_|refine rt ?_
  all_goals
   refine TX.im (own_nil T64 _) (TX.im (own_nil T64 _) ?_)
   exact rca (cs:=[.bool false,nS,nS]) (vs:=[.bool false,nS,nS]) (T:=TRt) ⟨rfl,rfl⟩
 rw [meaW_ok hk hd]
 obtain ⟨kn,rfl⟩ : ∃ kn:Nat,k = kn:=⟨k.toNat,by omega⟩
 obtain ⟨dn,rfl⟩ : ∃ dn:Nat,d = dn:=⟨d.toNat,by omega⟩
 obtain ⟨tn,rfl⟩ : ∃ tn:Nat,tot = tn:=⟨tot.toNat,by omega⟩
 simp only [Int.toNat_natCast]
 have hF:=Falling_tr kn dn (by omega) (by omega)
 have hfl:=fall_len (n:=kn) (by omega) dn
 have hfp:=fall_pos (n:=kn) (k:=dn) (by omega)
 obtain ⟨f0,hf0⟩ : ∃ f0,f0 = fall kn dn:=⟨_,rfl⟩
 rw [← hf0] at hF hfl hfp ⊢
 have hG1:=fun v=>NGrow_tr v (dg f0) cut.length (Dg_dg _) (by omega) (by omega)
 have hl2:=dg_grow_len (x:=cut.length) hfl (by omega)
 have hG2:=fun v=>NGrow_tr v (dg (f0 * cut.length)) tn (Dg_dg _) (by omega) (by omega)
 have hl3:=dg_grow_len (x:=tn) hl2 (by omega)
 have hp3:f0 * cut.length * tn ≠ 0:=Nat.mul_ne_zero (Nat.mul_ne_zero hfp (by omega)) (by omega)
 have hO:=fun v=>over1_tr v (dg (f0 * cut.length * tn)) (Dg_dg _) (by omega) (by rw [nv_dg];exact hp3)
 simp only [nv_dg] at hG1 hG2 hO
 clear hk hE hf0 hfp hp3 hl2 hl3
 obtain ⟨f1,hf1⟩ : ∃ f1,f1 = f0 * cut.length:=⟨_,rfl⟩
 simp only [← hf1] at hG1 hG2 hO ⊢
 obtain ⟨f2,hf2⟩ : ∃ f2,f2 = f1 * tn:=⟨_,rfl⟩
 simp only [← hf2] at hG2 hO ⊢
 obtain ⟨q,hq⟩ : ∃ q,q = mkRat 1 f2:=⟨_,rfl⟩
 simp only [← hq] at hO ⊢
 clear hq hf1 hf2
 unfold FQ at hO
 refine Tr.enter env _ Tryz.func88 (by kernel_rfl) rfl Tryz.ntmps88 rfl (by repeat (first | exact has00 | refine has01 ?_)) fun w0=>?_
 repeat' first|(refine gca ?_;first|(refine ca hck ?_;rintro _ _ ⟨rfl,rfl⟩)|(refine ca hF ?_;rintro _ _ ⟨o,rfl,ho2,rfl⟩))|refine bx fun b=>?_|refine al fun b2=>?_|refine lda ?_|(refine wo ?_;first|(refine ao ?_;first|refine oa ?_)|refine oa ?_|refine ld ?_|refine lnm ?_|refine gy ?_|(refine gsi (fun hB=>?_) (fun hB=>?_) <;> try (exfalso;omega)))|(refine gc ?_;first|refine cf ?_|(refine ci (fun hB=>?_) (fun hB=>?_) <;> try (exfalso;omega)))|refine sq ?_|refine rg ?_|refine xc ?_|refine nl ?_|refine sk ?_
 refine rs (fun w=>w.heap[b]? = some (.cells [I tn,cv,ov].toArray TAl (0,0))∧Sl w cv (Is cut)) ?_ (fun w hw=>⟨pt_at memA hw,vw_sl (hw.h (vw cv (Is cut)) memA)⟩)
 refine tka 0 ?_
 refine tka 1 ?_
 refine tkl 2 (cs:=[I tn,cv,ov]) (fun w h=>h.1) ?_
 refine tke 3 (v:=I cut.length) (by rw [Is_len]) (fun w h=>R_len (E:=env) (xs:=Is cut) rfl rfl h.2) ?_
 refine tk 4 (v:=Un cut.length) (fun w h=>R_ntuk (E:=env) (m:=cut.length) rfl rfl rfl (by omega)) ?_
 refine tka 6 ?_
 refine tkl 7 (cs:=[I tn,cv,ov]) (fun w h=>h.1) ?_
 refine tk 8 (v:=Un tn) (fun w h=>R_ntuk (E:=env) (m:=tn) rfl rfl rfl (by omega)) ?_
 refine t1 5 ?_
 refine ca (hG1 o) ?_
 rintro u1 _ ⟨hu1,rfl⟩
 refine nl ?_
 refine te (fun w hw=>⟨pt_at memA hw,vw_sl (hw.h (vw cv (Is cut)) memA)⟩) ?_
 refine t1 9 ?_
 refine ca (hG2 u1) ?_
 rintro u2 _ ⟨hu2,rfl⟩
 refine nl ?_
 refine te (fun w hw=>⟨pt_at memA hw,vw_sl (hw.h (vw cv (Is cut)) memA)⟩) ?_
 refine t1 10 ?_
 refine ca (hO u2) ?_
 rintro _ _ ⟨vn,vd,rfl,hvn,hvd,rfl⟩
 refine nl ?_
 refine te (fun w hw=>⟨pt_at memA hw,vw_sl (hw.h (vw cv (Is cut)) memA)⟩) ?_
 refine t1 11 ?_
 refine srz ?_
 refine nl ?_
 refine te (fun w hw=>⟨pt_at memA hw,vw_sl (hw.h (vw cv (Is cut)) memA)⟩) ?_
 refine tka 12 ?_
 refine t0 ?_
 repeat' first|refine xc ?_|refine rt ?_
 exact rca (cs:=[.bool (decide (q.num < 0)),vn,vd]) (vs:=[.bool (decide (q.num < 0)),vn,vd]) (T:=TRt) ⟨vn,vd,rfl,hvn,hvd,rfl⟩
theorem ChaW_tr (s:Value) (t:List Int) (k d:Int):Tr Tryz.prog 78 [s,I k,I d] [vw s (Is t)] [] (FW (chaW t k d)):=by
 have hck:=SoCheck_tr s t k
 by_cases hk:solE t k = 0
 rotate_left
 ·unfold chaW
  rw [if_neg hk]
  rw [(solE_cases t k).resolve_left hk] at hck
  refine Tr.mono (R:=fun u D=>u = tup2 rv0 (I 13)∧D = [own T64 nS (Us []),own T64 nS (Us [])]) ?_ fun u D h=>FW.of0 h
  refine Tr.enter env _ Tryz.func78 (by kernel_rfl) rfl Tryz.ntmps78 rfl (by repeat (first | exact has00 | refine has01 ?_)) fun w0=>?_
  repeat' first|(refine gca ?_;first|(refine ca hck ?_;rintro _ _ ⟨rfl,rfl⟩))|refine al fun b2=>?_|refine bdm ?_|refine srz ?_|(refine wo ?_;first|(refine ao ?_;first|refine oa ?_)|refine oa ?_)|(refine gc ?_;first|refine ct ?_)|refine sq ?_|refine rg ?_|refine xc ?_|refine nl ?_|refine bk ?_|refine rt ?_
  refine TX.im (own_nil T64 _) (TX.im (own_nil T64 _) ?_)
  exact rca (cs:=[.bool false,nS,nS]) (vs:=[.bool false,nS,nS]) (T:=TRt) ⟨rfl,rfl⟩
 rw [hk] at hck
 obtain ⟨⟨k1,k2⟩,⟨t1,t2⟩,hw,hpos⟩:=solE_zero hk
 by_cases hd:d < 1∨t.length < d
 ·unfold chaW
  rw [if_pos hk,if_pos hd]
  clear hk hpos
  refine Tr.mono (R:=fun u D=>u = tup2 rv0 (I 3)∧D = [own T64 nS (Us []),own T64 nS (Us [])]) ?_ fun u D h=>FW.of0 h
  refine Tr.enter env _ Tryz.func78 (by kernel_rfl) rfl Tryz.ntmps78 rfl (by repeat (first | exact has00 | refine has01 ?_)) fun w0=>?_
  repeat' first|(refine gca ?_;first|(refine ca hck ?_;rintro _ _ ⟨rfl,rfl⟩))|refine al fun b2=>?_|refine bdm ?_|refine srz ?_|(refine wo ?_;first|(refine ao ?_;first|refine oa ?_)|refine oa ?_|refine lnm ?_|refine gy ?_|refine gn ?_|(refine gsi (fun hB=>?_) (fun hB=>?_) <;> try (exfalso;omega)))|(refine gc ?_;first|refine ct ?_|refine cf ?_|(refine ci (fun hB=>?_) (fun hB=>?_) <;> try (exfalso;omega)))|refine sq ?_|refine rg ?_|refine xc ?_|refine nl ?_|refine bk ?_|refine rt ?_
  all_goals
   refine TX.im (own_nil T64 _) (TX.im (own_nil T64 _) ?_)
   exact rca (cs:=[.bool false,nS,nS]) (vs:=[.bool false,nS,nS]) (T:=TRt) ⟨rfl,rfl⟩
 rw [show chaW t k d = (rqf (mkRat (t.getD (d - 1).toNat 0) (chs k.toNat d.toNat * t.sum.toNat)),0) by unfold chaW;rw [if_pos hk,if_neg hd]]
 obtain ⟨kn,rfl⟩ : ∃ kn:Nat,k = kn:=⟨k.toNat,by omega⟩
 obtain ⟨dn,rfl⟩ : ∃ dn:Nat,d = dn:=⟨d.toNat,by omega⟩
 have hT:=SoTotal_tr s t ⟨by omega,by omega⟩ hw
 have hsb:=sum_wOk hw
 have hsp:0 < t.sum:=sum_posT hw hpos
 obtain ⟨tn,htn⟩ : ∃ tn:Nat,t.sum = tn:=⟨t.sum.toNat,by omega⟩
 rw [htn] at hT hsb hsp ⊢
 have hwb:=hw (t.getD ((dn:Int) - 1).toNat 0) (mem_getD.2 ⟨_,by omega,rfl⟩)
 obtain ⟨wn,hwn⟩ : ∃ wn:Nat,t.getD ((dn:Int) - 1).toNat 0 = wn:=⟨(t.getD ((dn:Int) - 1).toNat 0).toNat,by omega⟩
 rw [hwn] at hwb ⊢
 simp only [Int.toNat_natCast]
 have hF:=Choose_tr kn dn (by omega) (by omega)
 have hfl:=chs_len kn dn
 have hfp:=chs_pos (n:=kn) (k:=dn) (by omega)
 obtain ⟨f0,hf0⟩ : ∃ f0,f0 = chs kn dn:=⟨_,rfl⟩
 rw [← hf0] at hF hfl hfp ⊢
 have hG1:=fun v=>NGrow_tr v (dg f0) tn (Dg_dg _) (by omega) (by omega)
 have hl2:=dg_grow_len (x:=tn) hfl (by omega)
 have hp2:f0 * tn ≠ 0:=Nat.mul_ne_zero hfp (by omega)
 have hw1:=dg_len1 (n:=wn) (by omega)
 have hM:=fun o=>IMake_tr false o (dg wn) (Dg_dg wn) (by omega)
 have hs:sg false wn = (wn:Int):=rfl
 have hR:=fun o dv=>FMake_tr (wn:Int) o dv (dg (f0 * tn)) (Dg_dg _) (by unfold dz;rw [Int.natAbs_natCast];omega) (by omega) (by rw [nv_dg];exact hp2)
 simp only [nv_dg,hs] at hG1 hM hR
 unfold IR at hM
 unfold dz at hR
 simp only [Int.natAbs_natCast] at hM hR
 unfold FQ2 at hR
 clear hk hpos hf0 hfp hp2 hl2 hs hw
 obtain ⟨f1,hf1⟩ : ∃ f1,f1 = f0 * tn:=⟨_,rfl⟩
 simp only [← hf1] at hG1 hR ⊢
 obtain ⟨q,hq⟩ : ∃ q,q = mkRat (wn:Int) f1:=⟨_,rfl⟩
 simp only [← hq] at hR ⊢
 clear hq hf1
 refine Tr.enter env _ Tryz.func78 (by kernel_rfl) rfl Tryz.ntmps78 rfl (by repeat (first | exact has00 | refine has01 ?_)) fun w0=>?_
 repeat' first|(refine gca ?_;first|(refine ca hck ?_;rintro _ _ ⟨rfl,rfl⟩)|(refine ca hF ?_;rintro _ _ ⟨o,rfl,ho,rfl⟩)|(refine ca (Of_tr wn (by omega)) ?_;rintro o1 _ ⟨ho1,rfl⟩)|(refine ca (hM o1) ?_;rintro _ _ ⟨o2,rfl,ho2,rfl⟩)|(refine ca hT ?_;rintro _ _ ⟨rfl,rfl⟩)|(refine ca (hG1 o) ?_;rintro u1 _ ⟨hu1,rfl⟩)|(refine ca (hR o2 u1) ?_;rintro _ _ ⟨vn,vd,rfl,hvn,hvd,rfl⟩))|refine al fun b2=>?_|(refine lie hwn ?_)|(refine ntu (m:=(wn:Int)) ?_;rw [Int.toNat_natCast])|(refine ntu (m:=(tn:Int)) ?_;rw [Int.toNat_natCast])|refine srz ?_|(refine wo ?_;first|(refine ao ?_;first|refine aw ?_|refine oa ?_)|refine oa ?_|refine lnm ?_|refine ixm ?_|refine gy ?_|(refine gsi (fun hB=>?_) (fun hB=>?_) <;> try (exfalso;omega)))|(refine gc ?_;first|refine cf ?_|(refine ci (fun hB=>?_) (fun hB=>?_) <;> try (exfalso;omega)))|refine sq ?_|refine rg ?_|refine xc ?_|refine nl ?_|refine sk ?_|refine bk ?_|refine rt ?_|refine xb ?_
 exact rca (cs:=[.bool (decide (q.num < 0)),vn,vd]) (vs:=[.bool (decide (q.num < 0)),vn,vd]) (T:=TRt) ⟨vn,vd,rfl,hvn,hvd,rfl⟩
end Go.Art
namespace Go.Art
open Go Go.Proofs Go.RowKit
theorem endsL_pre:∀ (d k:Nat) (b:List Int),endsL d k b = (endsL d k []).map (b ++ ·)
 | 0,k,b=>by simp [endsL]
 | d + 1,k,b=>by
  show ((List.range k).flatMap fun i:Nat=>endsL d (k - 1) (b ++ [(i:Int)])) = ((List.range k).flatMap fun i:Nat=>endsL d (k - 1) ([] ++ [(i:Int)])).map (b ++ ·)
  rw [List.map_flatMap]
  refine congrArg (fun f=>(List.range k).flatMap f) (funext fun i=>?_)
  rw [endsL_pre d (k - 1) (b ++ [(i:Int)]),endsL_pre d (k - 1) ([] ++ [(i:Int)]),List.map_map]
  refine List.map_congr_left fun l _=>?_
  simp
theorem endsL_cons {d k:Nat} {l:List Int} (h:l ∈ endsL (d + 1) k []):∃ (i:Nat) (js:List Int),i < k∧l = (i:Int) :: js∧js ∈ endsL d (k - 1) []:=by
 obtain ⟨i,hi,h1⟩:=List.mem_flatMap.1 h
 rw [endsL_pre] at h1
 obtain ⟨js,h2,rfl⟩:=List.mem_map.1 h1
 exact ⟨i,js,List.mem_range.1 hi,rfl,h2⟩
theorem drw_row {n j:Int} {l:List Int} (h:1 ≤ n∧n ≤ 1099511627776) (hj:0 ≤ j∧j < n):drw n (.inr (j :: l,false)) = ((j,0),.inr (l,false)):=by
 rw [drw_inr,if_pos h,if_pos (show rowOk n (j :: l) false from ⟨rfl,by simp,hj.1,hj.2⟩)]
 rfl
def ordF:Nat→List Int→List Int→List Int
 | _,_,[]=>[]
 | i,l,j :: js=>l.getD (i + j.toNat) 0 :: ordF (i + 1) (swp l i (i + j.toNat)) js
theorem ordF_len:∀ (i:Nat) (l js:List Int),(ordF i l js).length = js.length
 | _,_,[]=>rfl
 | i,l,j :: js=>by simp [ordF,ordF_len]
theorem ordW_row (k:Nat) (hk:k ≤ 65536):∀ (m i:Nat) (l js:List Int),i + m ≤ k→js ∈ endsL m (k - i) []→ordW k m i l (.inr (js,false)) = ((ordF i l js,0),.inr ([],false))
 | 0,i,l,js,_,h=>by
  have h:js ∈ [([]:List Int)]:=h
  rw [List.mem_singleton.1 h];rfl
 | m + 1,i,l,js,hm,h=>by
  obtain ⟨j,js2,hj,rfl,h2⟩:=endsL_cons h
  have hd:drw ((k:Int) - i) (.inr ((j:Int) :: js2,false)) = (((j:Int),0),.inr (js2,false)):=drw_row (by omega) (by omega)
  have ih:=ordW_row k hk m (i + 1) (swp l i (i + j)) js2 (by omega) (by rwa [show k - (i + 1) = k - i - 1 by omega])
  unfold ordW
  rw [hd]
  simp only [Int.toNat_natCast,if_true]
  rw [ih]
  rfl
theorem setW_row {tot:Int} {cut oth:List Int} {k c x:Nat} {js:List Int} (hk:rwE tot cut oth k = 0) (hc:c < cut.length) (hx:x < tot.toNat) (hj:js ∈ endsL (alPick tot cut oth c x + 1).toNat k []) :
  setW tot cut oth k (.inr ((c:Int) :: (x:Int) :: js,false)) = ((srt (ordF 0 (upto k) js),0),(.inr ([],false),(js.length:Int) + 2)):=by
 obtain ⟨hE,k1,k2,k3⟩:=rwE_ok hk
 have hb:=alE_bnd hE
 have hin:=alPick_in hE (c:=c) (l:=x) (by omega)
 have hjl:=endsL_mem _ _ _ _ hj
 have d1:drw cut.length (.inr ((c:Int) :: (x:Int) :: js,false)) = (((c:Int),0),.inr ((x:Int) :: js,false)):=drw_row (by omega) (by omega)
 have d2:drw tot (.inr ((x:Int) :: js,false)) = (((x:Int),0),.inr (js,false)):=drw_row (by omega) (by omega)
 have hp:plcW tot cut oth (.inr ((c:Int) :: (x:Int) :: js,false)) = ((alPick tot cut oth c x,0),(.inr (js,false),2)):=by
  unfold plcW
  rw [d1]
  simp only [if_true]
  rw [d2]
  simp
 obtain ⟨d,hd⟩ : ∃ d:Nat,alPick tot cut oth c x + 1 = d:=⟨(alPick tot cut oth c x + 1).toNat,by omega⟩
 rw [hd] at hj hjl
 rw [Int.toNat_natCast] at hj hjl
 have ho:ordO k (alPick tot cut oth c x + 1) (.inr (js,false)) = ((ordF 0 (upto k) js,0),(.inr ([],false),(js.length:Int))):=by
  rw [hd]
  unfold ordO
  rw [if_pos (show Sized k d by unfold Sized;omega),Int.toNat_natCast,Int.toNat_natCast,ordW_row k (by omega) d 0 (upto k) js (by omega) hj]
  simp [ordF_len]
 unfold setW
 rw [if_pos hk,hp]
 simp only [if_true]
 unfold pickO
 rw [ho]
 simp only [Prod.mk.injEq,true_and]
 omega
theorem allL_row {tot:Int} {cut oth:List Int} {k:Nat} {l:List Int} (h:l ∈ allL tot cut oth k):∃ (c x:Nat) (js:List Int),c < cut.length∧x < tot.toNat∧js ∈ endsL (alPick tot cut oth c x + 1).toNat k []∧l = (c:Int) :: (x:Int) :: js:=by
 obtain ⟨c,hc,h1⟩:=List.mem_flatMap.1 h
 obtain ⟨x,hx,h2⟩:=List.mem_flatMap.1 h1
 have h3:l ∈ endsL (alPick tot cut oth c x + 1).toNat k [(c:Int),(x:Int)]:=h2
 rw [endsL_pre] at h3
 obtain ⟨js,h4,rfl⟩:=List.mem_map.1 h3
 exact ⟨c,x,js,List.mem_range.1 hc,List.mem_range.1 hx,h4,rfl⟩
theorem sum_const {α:Type} (w:α→Nat) (m:Nat):∀ (l:List α),(∀ x ∈ l,w x = m)→(l.map w).sum = l.length * m
 | [],_=>by simp
 | a :: l,h=>by
  rw [List.map_cons,List.sum_cons,h a (by simp),sum_const w m l (fun x hx=>h x (by simp [hx])),List.length_cons,Nat.succ_mul];omega
theorem fall24:∀ k,k ≤ 4→∀ d,d ≤ k→fall k d ≠ 0∧fall k d ≤ 24∧fall k d * (24 / fall k d) = 24:=by decide
def wt (k:Nat) (l:List Int):Nat:=24 / fall k (l.length - 2)
theorem mk_add (a b D:Nat) (hD:D ≠ 0):mkRat (a:Int) D + mkRat (b:Int) D = mkRat ((a + b:Nat):Int) D:=by
 rw [Rat.mkRat_add_mkRat _ _ hD hD,Rat.mkRat_eq_iff (Nat.mul_ne_zero hD hD) hD]
 push_cast
 grind
theorem mk_scale (a D m:Nat) (hD:D ≠ 0) (hm:m ≠ 0):mkRat (a:Int) D = mkRat ((a * m:Nat):Int) (D * m):=by
 rw [Rat.mkRat_eq_iff hD (Nat.mul_ne_zero hD hm)]
 push_cast
 grind
open Go Go.Proofs Go.RowKit
attribute [local irreducible] Fit pt own ro vw mpc lpt vels rels mow lrc dfr
attribute [local irreducible] lmp lme mit velg relg
end Go.Art
namespace Go.Art
open Go Go.Proofs Go.RowKit
def par (j:Nat):Nat:=(j - 1) / 2
structure HpUp (l:List Int) (i:Nat):Prop where
 a:∀ j,0 < j→j < l.length→j ≠ i→l.getD (par j) 0 ≤ l.getD j 0
 b:∀ j,0 < j→j < l.length→par j = i→0 < i→l.getD (par i) 0 ≤ l.getD j 0
structure HpDn (l:List Int) (i:Nat):Prop where
 a:∀ j,0 < j→j < l.length→par j ≠ i→l.getD (par j) 0 ≤ l.getD j 0
 b:∀ j,0 < j→j < l.length→par j = i→0 < i→l.getD (par i) 0 ≤ l.getD j 0
def Heap (l:List Int):Prop:=∀ j,0 < j→j < l.length→l.getD (par j) 0 ≤ l.getD j 0
theorem par_lt {j:Nat} (h:0 < j):par j < j:=by unfold par;omega
theorem Heap.head {l:List Int} (h:Heap l):∀ j,j < l.length→l.getD 0 0 ≤ l.getD j 0:=fun j=>by
 induction j using Nat.strongRecOn with
 | ind j ih=>
  intro hj
  by_cases h0:j = 0
  ·subst h0;exact Int.le_refl _
  ·have h1:=par_lt (j:=j) (by omega)
   exact Int.le_trans (ih _ h1 (by omega)) (h j (by omega) hj)
def swq (l:List Int) (i j:Nat):List Int:=(l.set i (l.getD j 0)).set j (l.getD i 0)
theorem swq_len (l:List Int) (i j:Nat):(swq l i j).length = l.length:=by simp [swq]
theorem swq_get (l:List Int) {i j:Nat} (hi:i < l.length) (hj:j < l.length) (t:Nat):(swq l i j).getD t 0 = if t = i then l.getD j 0 else if t = j then l.getD i 0 else l.getD t 0:=by
 unfold swq
 rw [getD_set _ _ _ _ (by simpa using hj),getD_set _ _ _ _ hi]
 by_cases h1:t = i
 ·subst h1
  rw [if_pos rfl,if_pos rfl]
  by_cases h2:j = t
  ·subst h2;rw [if_pos rfl]
  ·rw [if_neg h2]
 ·rw [if_neg h1,if_neg (Ne.symm h1)]
  by_cases h2:t = j
  ·subst h2;rw [if_pos rfl]
  ·rw [if_neg h2,if_neg (Ne.symm h2)]
theorem swq_perm (l:List Int) {i j:Nat} (hi:i < l.length) (hj:j < l.length):(swq l i j).Perm l:=by
 have e1:l.getD j 0 = l[j]:=by simp [List.getD_eq_getElem?_getD,hj]
 have e2:l.getD i 0 = l[i]:=by simp [List.getD_eq_getElem?_getD,hi]
 unfold swq
 rw [e1,e2]
 exact List.set_set_perm hi hj
theorem HpUp.snoc {l:List Int} (h:Heap l) (x:Int):HpUp (l ++ [x]) l.length:=by
 refine ⟨fun j h0 hj hne=>?_,fun j h0 hj hp _=>?_⟩
 ·have h1:j < l.length:=by simp at hj;omega
  have h2:=par_lt h0
  rw [getD_snoc,getD_snoc,if_pos h1,if_pos (by omega)]
  exact h j h0 h1
 ·have h2:=par_lt h0
  simp at hj;omega
theorem HpUp.stop {l:List Int} {i:Nat} (h:HpUp l i) (hs:i = 0∨l.getD (par i) 0 ≤ l.getD i 0):Heap l:=fun j h0 hj=>by
 by_cases e:j = i
 ·subst e;rcases hs with hs | hs
  ·omega
  ·exact hs
 ·exact h.a j h0 hj e
theorem HpUp.step {l:List Int} {i:Nat} (h:HpUp l i) (hi:0 < i) (hil:i < l.length) (hs:¬ l.getD (par i) 0 ≤ l.getD i 0):HpUp (swq l (par i) i) (par i):=by
 have hp:=par_lt hi
 have G:=fun t=>swq_get l (i:=par i) (j:=i) (by omega) hil t
 have hL:=swq_len l (par i) i
 refine ⟨fun j h0 hj hne=>?_,fun j h0 hj hpj hpi=>?_⟩
 ·rw [hL] at hj
  rw [G,G]
  have hjp:=par_lt h0
  by_cases e1:j = i
  ·subst e1;rw [if_pos rfl,if_neg (by omega),if_pos rfl];omega
  ·rw [if_neg hne,if_neg e1]
   by_cases e2:par j = i
   ·rw [if_neg (by omega),if_pos e2];exact h.b j h0 hj e2 hi
   ·by_cases e3:par j = par i
    ·rw [if_pos e3];have:=h.a j h0 hj e1;rw [e3] at this;omega
    ·rw [if_neg e3,if_neg e2];exact h.a j h0 hj e1
 ·rw [hL] at hj
  rw [G,G]
  have hjp:=par_lt h0
  have hpp:=par_lt hpi
  rw [if_neg (by omega),if_neg (by omega)]
  have h1:=h.a (par i) hpi (by omega) (by omega)
  by_cases e1:j = i
  ·subst e1;rw [if_neg (by omega),if_pos rfl];exact h1
  ·rw [if_neg (by omega),if_neg e1]
   have:=h.a j h0 hj e1
   rw [hpj] at this;omega
theorem HpDn.stop {l:List Int} {i:Nat} (h:HpDn l i) (h1:2 * i + 1 < l.length→l.getD i 0 ≤ l.getD (2 * i + 1) 0) (h2:2 * i + 2 < l.length→l.getD i 0 ≤ l.getD (2 * i + 2) 0):Heap l:=fun j h0 hj=>by
 by_cases e:par j = i
 ·have:j = 2 * i + 1∨j = 2 * i + 2:=by unfold par at e;omega
  rw [e]
  rcases this with rfl | rfl
  ·exact h1 hj
  ·exact h2 hj
 ·exact h.a j h0 hj e
theorem HpDn.step {l:List Int} {i c:Nat} (h:HpDn l i) (hc:c = 2 * i + 1∨c = 2 * i + 2) (hcl:c < l.length) (hs:l.getD c 0 < l.getD i 0) (h1:2 * i + 1 < l.length→l.getD c 0 ≤ l.getD (2 * i + 1) 0) (h2:2 * i + 2 < l.length→l.getD c 0 ≤ l.getD (2 * i + 2) 0):HpDn (swq l i c) c:=by
 have hpc:par c = i:=by unfold par;omega
 have hic:i < c:=by omega
 have G:=fun t=>swq_get l (i:=i) (j:=c) (by omega) hcl t
 have hL:=swq_len l i c
 refine ⟨fun j h0 hj hne=>?_,fun j h0 hj hpj hc0=>?_⟩
 ·rw [hL] at hj
  rw [G,G]
  have hjp:=par_lt h0
  by_cases e1:par j = i
  ·rw [if_pos e1,if_neg (by omega)]
   by_cases e2:j = c
   ·rw [if_pos e2];omega
   ·rw [if_neg e2]
    have:j = 2 * i + 1∨j = 2 * i + 2:=by unfold par at e1;omega
    rcases this with rfl | rfl
    ·exact h1 hj
    ·exact h2 hj
  ·rw [if_neg e1,if_neg hne]
   by_cases e2:j = i
   ·subst e2;rw [if_pos rfl];exact h.b c (by omega) hcl hpc h0
   ·rw [if_neg e2,if_neg (fun e=>e1 (by rw [e];exact hpc))];exact h.a j h0 hj e1
 ·rw [hL] at hj
  rw [G,G,hpc,if_pos rfl]
  have hjp:=par_lt h0
  rw [if_neg (by omega),if_neg (by omega)]
  have:=h.a j h0 hj (by omega)
  rw [hpj] at this;exact this
open Go Go.Proofs Go.RowKit
attribute [local irreducible] Fit pt own ro vw mpc lpt vels rels mow lrc dfr
attribute [local irreducible] lmp lme mit velg relg
section
variable {P:Program} {E:Env P} {n:Sh} {X:Cx} {s:List K} {fr:Fr} {A:List Ch} {ops:Array Oper} {d:Nat} {ty t el:TypeId} {pos:String} {after:Array Edge} {v z:Value} {fuel by_:Nat} {listed:Array Bool} {S:World→Prop} {x y:Operand} {k1:IntKind}
theorem tkx (i:Nat) {m:Int} {len:Nat} (hS:∀ w,S w→∃ xs,Sl w v xs∧xs.length = len) (k:TS E n X s S ops fuel (listed.setIfInBounds i true) ((d,.pointer (some (addrAt v m.toNat))) :: fr) A) (hi:ops[i]? = some ⟨some d,.indexAddr t x y,ty,pos,after,none⟩:=by rfl)
  (hx:ev fr x = some v:=by rfl) (hy:ev fr y = some (.int k1 m):=by rfl) (hb:0 ≤ m∧m < len:=by omega) (ht:lk E.und t = some (.slice el):=by rfl) (he:lk E.inf el = some (z,1,by_):=by rfl)
  (hs:Region.noSelect ops = true:=by kernel_rfl) (hf:Region.free .any ops listed i = true:=by kernel_rfl) (hr:(Region.ready .any ops listed).contains i = true:=by kernel_rfl) (hrd:n.r = none:=by rfl) (hd:Nat.blt d n.n = true:=by rfl):TS E n X s S ops (fuel + 1) listed fr A:=
 tk i (fun w hw=>by obtain ⟨xs,h1,h2⟩:=hS w hw;exact R_idx ht he hx hy h1 (by omega)) k hi hs hf hr hrd hd
theorem tkli (i:Nat) {l:List Int} {j:Nat} {c:Int} {dt:TypeDesc} (hS:∀ w,S w→Sl w v (Is l)) (hc:l.getD j 0 = c) (k:TS E n X s S ops fuel (listed.setIfInBounds i true) ((d,I c) :: fr) A) (hi:ops[i]? = some ⟨some d,.load t x,ty,pos,after,none⟩:=by rfl)
  (hx:ev fr x = some (.pointer (some (addrAt v j))):=by rfl) (hj:j < l.length:=by omega) (ht:lk E.und t = some dt:=by rfl) (hg:aggB dt = false:=by rfl)
  (hs:Region.noSelect ops = true:=by kernel_rfl) (hf:Region.free .any ops listed i = true:=by kernel_rfl) (hr:(Region.ready .any ops listed).contains i = true:=by kernel_rfl) (hrd:n.r = none:=by rfl) (hd:Nat.blt d n.n = true:=by rfl):TS E n X s S ops (fuel + 1) listed fr A:=
 tk i (fun w hw=>by subst hc;exact R_load ht hg hx ((hS w hw).geti hj)) k hi hs hf hr hrd hd
end
section
variable {P:Program} {E:Env P} {n:Sh} {X:Cx} {s:List K} {fr:Fr} {A:List Ch} {ops:Array Oper} {rest:List Oper} {d:Nat} {ty t t':TypeId} {pos:String} {after:Array Edge} {x y:Operand} {m q:Int}
theorem adve {c:Int} (he:m / q = c) (k:TO E n X s ops rest ((d,I c) :: fr) A) (hx:ev fr x = some (I m):=by rfl) (hy:ev fr y = some (I q):=by rfl) (hb:0 ≤ m∧m ≤ 9223372036854775807∧1 ≤ q:=by omega) (hd:Nat.blt d n.n = true:=by rfl) :
  TO E n X s ops (⟨some d,.binOp .quo t x y t',ty,pos,after,none⟩ :: rest) fr A:=adiv (by rw [he];exact k) hx hy hb hd
end
section
variable {P:Program} {E:Env P} {n:Sh} {X:Cx} {s:List K} {fr:Fr} {A:List Ch} {ops:Array Oper} {rest:List Oper} {d:Nat} {ty t:TypeId} {pos:String} {after:Array Edge} {v:Value} {x:Operand}
theorem qlie {l:List Int} {j:Nat} {c:Int} {dt:TypeDesc} (he:l.getD j 0 = c) (k:TQ E n X s ops rest ((d,I c) :: fr) A) (hx:ev fr x = some (.pointer (some (addrAt v j))):=by rfl) (hh:Has A (vw v (Is l)):=by exact hasA) (hj:j < l.length:=by omega)
  (ht:lk E.und t = some dt:=by rfl) (hg:aggB dt = false:=by rfl) (hd:Nat.blt d n.n = true:=by rfl):TQ E n X s ops (⟨some d,.load t x,ty,pos,after,none⟩ :: rest) fr A:=qli (l:=l) (by rw [he];exact k) hx hh hj ht hg hd
end
theorem b2 (a b:Int) (w:World):(Instr.build 85 #[(0,I a),(1,I b)]).run Tryz.prog w = .ok (.agg #[I a,I b]) w:=run_build w 85 #[(0,I a),(1,I b)] #[I a,I b] (by kernel_rfl)
theorem i20 (a b:Int) (w:World):(Instr.index 85 (.agg #[I a,I b]) (I 0)).run Tryz.prog w = .ok (I a) w:=by kernel_rfl
theorem i21 (a b:Int) (w:World):(Instr.index 85 (.agg #[I a,I b]) (I 1)).run Tryz.prog w = .ok (I b) w:=by kernel_rfl
section
variable {n:Sh} {X:Cx} {s:List K} {fr:Fr} {A:List Ch} {ops:Array Oper} {rest:List Oper} {d:Nat} {ty:TypeId} {pos:String} {after:Array Edge} {x y:Operand} {a b:Int} {parts:List (Nat × Operand)}
theorem bd2 (k:TO env n X s ops rest ((d,.agg #[I a,I b]) :: fr) A) (hv:evps fr parts = some [(0,I a),(1,I b)]:=by rfl) (hd:Nat.blt d n.n = true:=by rfl):TO env n X s ops (⟨some d,.build 85 parts.toArray,ty,pos,after,none⟩ :: rest) fr A:=
 TO.val (fun w _=>⟨fun c hc _ _ _ _=>by
  have h1:=hc.evps hv
  have h2:=b2 a b w
  simp only [execOp]
  simp [h1,h2]⟩) k hd
theorem ix0 (k:TO env n X s ops rest ((d,I a) :: fr) A) (hx:ev fr x = some (.agg #[I a,I b]):=by rfl) (hy:ev fr y = some (I 0):=by rfl) (hd:Nat.blt d n.n = true:=by rfl):TO env n X s ops (⟨some d,.index 85 x y,ty,pos,after,none⟩ :: rest) fr A:=
 TO.val (fun w _=>⟨fun c hc _ _ _ _=>by
  have h2:=i20 a b w
  simp only [execOp,hc.ev hx,hc.ev hy]
  simp [h2]⟩) k hd
theorem ix1 (k:TO env n X s ops rest ((d,I b) :: fr) A) (hx:ev fr x = some (.agg #[I a,I b]):=by rfl) (hy:ev fr y = some (I 1):=by rfl) (hd:Nat.blt d n.n = true:=by rfl):TO env n X s ops (⟨some d,.index 85 x y,ty,pos,after,none⟩ :: rest) fr A:=
 TO.val (fun w _=>⟨fun c hc _ _ _ _=>by
  have h2:=i21 a b w
  simp only [execOp,hc.ev hx,hc.ev hy]
  simp [h2]⟩) k hd
end
abbrev THp:TypeId:=170
theorem push_tr (ph:Nat) (hv:Value) (h:List Int) (x:Int) (hh:Heap h) (hl:h.length ≤ 65536):Tr Tryz.prog 145 [ptr ph,I x] [] [pt ph [hv] THp,own 3 hv (Is h)]
  fun _ D=>∃ hv' h',D = [pt ph [hv'] THp,own 3 hv' (Is h')]∧Heap h'∧h'.Perm (x :: h):=by
 refine Tr.enter env _ Tryz.func145 (by kernel_rfl) rfl Tryz.ntmps145 rfl (by repeat (first | exact has00 | refine has01 ?_)) fun w0=>?_
 repeat' first|refine slii [x] fun v1=>?_|(refine wo ?_;first|refine oa ?_|refine ld ?_)|refine sq ?_|refine rg ?_
 refine api (v:=hv) (l:=h) (news:=[x]) fun v2=>?_
 refine TO.one (v:=v2) (xs:=Is (h ++ [x])) fun hv2=>?_
 have hln:(h ++ [x]).length = h.length + 1:=by simp
 have hpm:(h ++ [x]).Perm (x :: h):=List.perm_append_comm (l₁:=h) (l₂:=[x])
 have hup:=HpUp.snoc hh x
 repeat' first|(refine wo ?_;first|(refine ao ?_;first|refine aw ?_)|refine oa ?_|refine ld ?_|refine lnm ?_|refine sr ?_)|refine sq ?_|refine rg ?_|refine xc ?_|refine nl ?_|refine bk ?_
 generalize hL:h ++ [x] = L at *
 have hi0:h.length < L.length:=by omega
 clear hL hl
 refine TC.loop (ι:=Nat × List Int) (fun i=>[(4,I i.1)]) (fun i=>[own 3 v2 (Is i.2)]) (fun i=>i.1 < i.2.length∧i.2.length = L.length∧HpUp i.2 i.1∧i.2.Perm (x :: h)) (fun i=>i.1) (h.length,L) [0] ⟨hi0,rfl,hup,hpm⟩ ?_ (hs:=by dsimp only;rw [show ((h.length:Nat):Int) = (L.length:Int) - 1 by omega];(repeat (refine Sub.cons rfl (by first | rfl | go_num) ?_));exact Sub.nil)
 clear hup hpm hi0
 rintro ⟨i,l⟩ ⟨hi,hlen,hup,hpm⟩
 dsimp only at hi hlen hup hpm ⊢
 refine TC.leni (l:=l) fun hll=>?_
 by_cases h0:0 < i
 ·have hpar:((i:Int) - 1) / 2 = ((par i:Nat):Int):=by unfold par;omega
  have hpl:=par_lt h0
  generalize hb:l.getD (par i) 0 = lb at *
  generalize ha:l.getD i 0 = la at *
  repeat' first|refine rs (id:=5) (fun w=>w.heap[ph]? = some (.cells #[v2] THp (0,0))∧∃ xs,Sl w v2 xs∧xs.length = l.length) ?_ (fun w hw=>⟨pt_at memA hw,_,has_sl hw hasA,Is_len l⟩)|refine adve hpar ?_|(refine qlie ha ?_)|(refine qlie hb ?_)|(refine wo ?_;first|(refine ao ?_;first|refine aw ?_|refine oa ?_)|refine oa ?_)|(refine gc ?_;first|(refine ci (fun hB=>?_) (fun hB=>?_) <;> try (exfalso;omega)))|refine sq ?_|refine rg ?_|refine xc ?_|refine nl ?_|refine sk ?_|refine bk ?_|refine rt ?_|refine rq ?_|refine nq ?_|(refine wq ?_;first|(refine qao ?_;first|refine qa ?_)|refine qa ?_|refine qld ?_|refine qixmn ?_)
  ·exact r0 ⟨v2,l,rfl,hup.stop (.inr (by omega)),hpm⟩
  refine tka 0 ?_
  refine tka 1 ?_
  refine tkl 2 (cs:=[v2]) (fun w h=>h.1) ?_
  refine tka 3 ?_
  refine tka 4 ?_
  refine tka 5 ?_
  refine tkl 6 (cs:=[v2]) (fun w h=>h.1) ?_
  refine tka 7 ?_
  refine tka 8 ?_
  refine tka 9 ?_
  refine tkl 10 (cs:=[v2]) (fun w h=>h.1) ?_
  refine tka 11 ?_
  refine tkx 12 (len:=l.length) (fun w h=>h.2) ?_
  refine tka 14 ?_
  refine tka 15 ?_
  refine tkl 16 (cs:=[v2]) (fun w h=>h.1) ?_
  refine tka 17 ?_
  refine tkx 18 (len:=l.length) (fun w h=>h.2) ?_
  refine t2 13 19 ?_ ?_
  ·refine lie ha ?_
   repeat' first|refine nl ?_
   refine te (fun w hw=>⟨pt_at memA hw,_,has_sl hw hasA,Is_len l⟩) ?_
   refine t1 19 ?_
   refine lie hb ?_
   repeat' first|refine nl ?_
   refine te (fun w hw=>⟨pt_at memA hw,_,has_sl hw hasA,Is_len l⟩) ?_
   refine tkx 20 (len:=l.length) (fun w h=>h.2) ?_
   refine t1 21 ?_
   refine soi (m:=la) (l:=l) (j:=par i) ?_
   repeat' first|refine nl ?_
   refine te (fun w hw=>⟨pt_at memA hw,_,has_sl hw hasA,by rw [Is_len,List.length_set]⟩) ?_
   refine tkx 22 (len:=l.length) (fun w h=>h.2) ?_
   refine t1 23 ?_
   refine soi (m:=lb) (l:=l.set (par i) la) (j:=i) ?_ (hj:=by rw [List.length_set];exact hi)
   repeat' first|refine nl ?_
   refine te (fun w hw=>⟨pt_at memA hw,_,has_sl hw hasA,by rw [Is_len,List.length_set,List.length_set]⟩) ?_
   refine t0 ?_
   repeat' first|(refine wo ?_;first|refine oa ?_)|refine rg ?_|refine xc ?_|refine nl ?_|refine xb ?_
   exact lp (par i,swq l (par i) i) ⟨by dsimp only;rw [swq_len];omega,by dsimp only;rw [swq_len];exact hlen,hup.step h0 hi (by omega),(swq_perm l (by omega) hi).trans hpm⟩ (hf:=by dsimp only;unfold swq;rw [ha,hb];exact fitA) (hlt:=hpl)
  ·refine lie hb ?_
   repeat' first|refine nl ?_
   refine te (fun w hw=>⟨pt_at memA hw,_,has_sl hw hasA,Is_len l⟩) ?_
   refine t1 13 ?_
   refine lie ha ?_
   repeat' first|refine nl ?_
   refine te (fun w hw=>⟨pt_at memA hw,_,has_sl hw hasA,Is_len l⟩) ?_
   refine tkx 20 (len:=l.length) (fun w h=>h.2) ?_
   refine t1 21 ?_
   refine soi (m:=la) (l:=l) (j:=par i) ?_
   repeat' first|refine nl ?_
   refine te (fun w hw=>⟨pt_at memA hw,_,has_sl hw hasA,by rw [Is_len,List.length_set]⟩) ?_
   refine tkx 22 (len:=l.length) (fun w h=>h.2) ?_
   refine t1 23 ?_
   refine soi (m:=lb) (l:=l.set (par i) la) (j:=i) ?_ (hj:=by rw [List.length_set];exact hi)
   repeat' first|refine nl ?_
   refine te (fun w hw=>⟨pt_at memA hw,_,has_sl hw hasA,by rw [Is_len,List.length_set,List.length_set]⟩) ?_
   refine t0 ?_
   repeat' first|(refine wo ?_;first|refine oa ?_)|refine rg ?_|refine xc ?_|refine nl ?_|refine xb ?_
   exact lp (par i,swq l (par i) i) ⟨by dsimp only;rw [swq_len];omega,by dsimp only;rw [swq_len];exact hlen,hup.step h0 hi (by omega),(swq_perm l (by omega) hi).trans hpm⟩ (hf:=by dsimp only;unfold swq;rw [ha,hb];exact fitA) (hlt:=hpl)
 ·obtain rfl:i = 0:=by omega
  repeat' first|(refine wo ?_;first|(refine ao ?_;first|refine oa ?_)|refine oa ?_)|(refine gc ?_;first|refine cf ?_)|refine sq ?_|refine rg ?_|refine xc ?_|refine nl ?_|refine xe ?_
  exact e0 ⟨v2,l,rfl,hup.stop (.inl rfl),hpm⟩
def hcut (h:List Int):List Int:=(h.set 0 (h.getD (h.length - 1) 0)).take (h.length - 1)
theorem hcut_len (h:List Int):(hcut h).length = h.length - 1:=by unfold hcut;rw [List.length_take,List.length_set];omega
theorem hcut_get (h:List Int) {t:Nat} (h0:0 < t) (ht:t < h.length - 1):(hcut h).getD t 0 = h.getD t 0:=by
 unfold hcut
 simp only [List.getD_eq_getElem?_getD,List.getElem?_take,List.getElem?_set]
 rw [if_pos ht,if_neg (by omega)]
theorem hcut_dn {h:List Int} (hh:Heap h):HpDn (hcut h) 0:=⟨fun j h0 hj hp=>by
 rw [hcut_len] at hj
 have:=par_lt h0
 rw [hcut_get h (by omega) (by omega),hcut_get h h0 hj]
 exact hh j h0 (by omega),fun j _ _ _ h=>by omega⟩
theorem hcut_perm {h:List Int} (h0:0 < h.length):h.Perm (h.getD 0 0 :: hcut h):=by
 cases h with
 | nil=>simp at h0
 | cons a t=>
  cases hr:t.reverse with
  | nil=>
   have:t = []:=by simpa using hr
   subst this;exact List.Perm.refl _
  | cons z r=>
   have ht:t = r.reverse ++ [z]:=by rw [← List.reverse_reverse t,hr,List.reverse_cons]
   subst ht
   have e:hcut (a :: (r.reverse ++ [z])) = z :: r.reverse:=by
    unfold hcut
    simp [List.getD_eq_getElem?_getD]
   rw [e]
   show (a :: (r.reverse ++ [z])).Perm (a :: z :: r.reverse)
   exact List.Perm.cons _ (List.perm_append_comm (l₁:=r.reverse) (l₂:=[z]))
theorem pop_tr (ph:Nat) (hv:Value) (h:List Int) (hh:Heap h) (h0:0 < h.length) (hl:h.length ≤ 65537):Tr Tryz.prog 146 [ptr ph] [] [pt ph [hv] THp,own 3 hv (Is h)]
  fun v D=>∃ hv' h',v = I (h.getD 0 0)∧D = [pt ph [hv'] THp,own 3 hv' (Is h')]∧Heap h'∧h.Perm (h.getD 0 0 :: h'):=by
 have hc1:=hcut_len h
 have hc2:=hcut_dn hh
 have hc3:=hcut_perm h0
 refine Tr.enter env _ Tryz.func146 (by kernel_rfl) rfl Tryz.ntmps146 rfl (by repeat (first | exact has00 | refine has01 ?_)) fun w0=>?_
 have hi1:((h.length:Int) - 1).toNat = h.length - 1:=by omega
 repeat' first|(refine wo ?_;first|(refine ao ?_;first|refine aw ?_)|refine oa ?_|refine ld ?_|refine lnm ?_|refine ixmn ?_|refine ixm ?_|refine li ?_|refine soi ?_)|refine sq ?_|refine rg ?_|refine xc ?_|refine nl ?_
 rw [hi1]
 have hHl:(h.set 0 (h.getD (h.length - 1) 0)).length = h.length:=List.length_set ..
 have hHc:hcut h = (h.set 0 (h.getD (h.length - 1) 0)).take (h.length - 1):=rfl
 generalize h.set 0 (h.getD (h.length - 1) 0) = H at *
 refine schm (l:=H) ?_
 rw [hi1]
 refine TO.im (Im1.im (im_subi 3 hv H (lo:=0) (hi:=h.length - 1) (Nat.zero_le _) (by omega)) _) ?_
 rw [List.drop_zero,← hHc]
 refine TO.one (v:=slSub hv 0 (h.length - 1)) (xs:=Is (hcut h)) fun hv2=>?_
 generalize slSub hv 0 (h.length - 1) = v2 at *
 repeat' first|(refine wo ?_;first|refine oa ?_|refine sr ?_)|refine sq ?_|refine rg ?_|refine xc ?_|refine nl ?_|refine bk ?_
 clear hHl hHc
 refine TC.loop (ι:=Nat × List Int) (fun i=>[(6,I i.1)]) (fun i=>[own 3 v2 (Is i.2)]) (fun i=>(i.1 = 0∨i.1 < i.2.length)∧i.2.length = h.length - 1∧HpDn i.2 i.1∧h.Perm (h.getD 0 0 :: i.2)) (fun i=>h.length - i.1) (0,hcut h) [0,3,4] ⟨.inl rfl,hc1,hc2,hc3⟩ ?_
 clear hc1 hc2 hc3
 rintro ⟨i,l⟩ ⟨hi,hlen,hdn,hpm⟩
 dsimp only at hi hlen hdn hpm ⊢
 refine TC.leni (l:=l) fun hll=>?_
 have hk1:2 * (i:Int) + 1 = ((2 * i + 1:Nat):Int):=by omega
 have hk2:2 * (i:Int) + 2 = ((2 * i + 2:Nat):Int):=by omega
 repeat' first|refine bd2 ?_|(refine wo ?_;first|(refine ao ?_;first|refine aw ?_)|refine oa ?_)|refine sq ?_|refine rg ?_|refine xc ?_|refine nl ?_|refine bk ?_
 rw [hk1,hk2]
 refine TC.loop (ι:=Nat × Nat) (fun u=>[(39,I u.1),(7,I u.2)]) (fun _=>[]) (fun u=>u.1 ≤ 2∧(u.2 = i∨(u.2 = 2 * i + 1∨u.2 = 2 * i + 2)∧u.2 < l.length∧l.getD u.2 0 < l.getD i 0)∧(1 ≤ u.1→2 * i + 1 < l.length→l.getD u.2 0 ≤ l.getD (2 * i + 1) 0)∧(2 ≤ u.1→2 * i + 2 < l.length→l.getD u.2 0 ≤ l.getD (2 * i + 2) 0))
  (fun u=>2 - u.1) (0,i) [0,3,4,6,38] ⟨by simp,.inl rfl,fun h=>by simp at h,fun h=>by simp at h⟩ ?_
 rintro ⟨c,m⟩ ⟨g1,g2,g3,g4⟩
 dsimp only at g1 g2 g3 g4 ⊢
 have hm:m < l.length∨m = i:=by rcases g2 with h | h;exact .inr h;exact .inl h.2.1
 by_cases hc0:c = 0
 ·subst hc0
  by_cases hk:2 * i + 1 < l.length
  ·have hml:m < l.length:=by omega
   generalize hlm:l.getD m 0 = lm at *
   generalize hlk:l.getD (2 * i + 1) 0 = lk at *
   repeat' first|refine ix0 ?_|(refine qlie hlm ?_)|(refine qlie hlk ?_)|(refine wo ?_;first|(refine ao ?_;first|refine aw ?_|refine oa ?_)|refine oa ?_)|(refine gc ?_;first|refine ct ?_|(refine ci (fun hB=>?_) (fun hB=>?_) <;> try (exfalso;omega)))|refine sq ?_|refine rg ?_|refine xc ?_|refine nl ?_|refine sk ?_|refine bk ?_|refine xb ?_|refine rq ?_|refine nq ?_|(refine wq ?_;first|(refine qao ?_;first|refine qa ?_)|refine qa ?_|refine qlnm ?_|refine qixmn ?_|refine qgy ?_|(refine qgsi (fun hB=>?_) (fun hB=>?_) <;> try (exfalso;omega)))
   ·refine lp (1,2 * i + 1) ⟨by dsimp only;omega,.inr ⟨.inl rfl,hk,?_⟩,fun _ _=>by dsimp only;rw [hlk];exact Int.le_refl _,fun h=>by simp at h⟩
    dsimp only;rw [hlk];rcases g2 with h | h
    ·subst h;rw [hlm];assumption
    ·omega
   ·refine lp (1,m) ⟨by dsimp only;omega,?_,fun _ _=>by dsimp only;rw [hlm];omega,fun h=>by simp at h⟩
    dsimp only;rw [hlm];exact g2
  ·repeat' first|refine ix0 ?_|(refine wo ?_;first|(refine ao ?_;first|refine aw ?_|refine oa ?_)|refine oa ?_)|(refine gc ?_;first|refine ct ?_|refine cf ?_)|refine sq ?_|refine rg ?_|refine xc ?_|refine nl ?_|refine sk ?_|refine bk ?_|refine xb ?_|refine rq ?_|refine nq ?_|(refine wq ?_;first|(refine qao ?_;first|refine qa ?_)|refine qa ?_|refine qlnm ?_|refine qgn ?_|(refine qgsi (fun hB=>?_) (fun hB=>?_) <;> try (exfalso;omega)))
   exact lp (1,m) ⟨by dsimp only;omega,g2,fun _ h=>absurd h hk,fun h=>by simp at h⟩
 ·by_cases hc1:c = 1
  ·subst hc1
   by_cases hk:2 * i + 2 < l.length
   ·have hml:m < l.length:=by omega
    have g5:=g3 (by decide) (by omega)
    generalize hlm:l.getD m 0 = lm at *
    generalize hlk:l.getD (2 * i + 2) 0 = lk at *
    generalize hlj:l.getD (2 * i + 1) 0 = lj at *
    repeat' first|refine ix1 ?_|(refine qlie hlm ?_)|(refine qlie hlk ?_)|(refine wo ?_;first|(refine ao ?_;first|refine aw ?_|refine oa ?_)|refine oa ?_)|(refine gc ?_;first|refine ct ?_|(refine ci (fun hB=>?_) (fun hB=>?_) <;> try (exfalso;omega)))|refine sq ?_|refine rg ?_|refine xc ?_|refine nl ?_|refine sk ?_|refine bk ?_|refine xb ?_|refine rq ?_|refine nq ?_|(refine wq ?_;first|(refine qao ?_;first|refine qa ?_)|refine qa ?_|refine qlnm ?_|refine qixmn ?_|refine qgy ?_|(refine qgsi (fun hB=>?_) (fun hB=>?_) <;> try (exfalso;omega)))
    ·refine lp (2,2 * i + 2) ⟨by dsimp only;omega,.inr ⟨.inr rfl,hk,?_⟩,fun _ _=>by dsimp only;rw [hlk];omega,fun _ _=>by dsimp only;rw [hlk];exact Int.le_refl _⟩
     dsimp only;rw [hlk];rcases g2 with h | h
     ·subst h;rw [hlm];assumption
     ·omega
    ·refine lp (2,m) ⟨by dsimp only;omega,?_,fun _ _=>by dsimp only;rw [hlm];omega,fun _ _=>by dsimp only;rw [hlm];omega⟩
     dsimp only;rw [hlm];exact g2
   ·repeat' first|refine ix1 ?_|(refine wo ?_;first|(refine ao ?_;first|refine aw ?_|refine oa ?_)|refine oa ?_)|(refine gc ?_;first|refine ct ?_|refine cf ?_)|refine sq ?_|refine rg ?_|refine xc ?_|refine nl ?_|refine sk ?_|refine bk ?_|refine xb ?_|refine rq ?_|refine nq ?_|(refine wq ?_;first|(refine qao ?_;first|refine qa ?_)|refine qa ?_|refine qlnm ?_|refine qgn ?_|(refine qgsi (fun hB=>?_) (fun hB=>?_) <;> try (exfalso;omega)))
    exact lp (2,m) ⟨by dsimp only;omega,g2,fun _ h=>g3 (by decide) h,fun _ h=>absurd h hk⟩
  ·obtain rfl:c = 2:=by omega
   have g3:=g3 (by decide)
   have g4:=g4 (by decide)
   by_cases hmi:m = i
   ·subst hmi
    repeat' first|(refine wo ?_;first|(refine ao ?_;first|refine oa ?_)|refine oa ?_)|(refine gc ?_;first|refine cf ?_|(refine ci (fun hB=>?_) (fun hB=>?_) <;> try (exfalso;omega)))|refine sq ?_|refine rg ?_|refine xc ?_|refine nl ?_|refine xe ?_|refine rt ?_
    exact r1 ⟨v2,l,rfl,rfl,hdn.stop g3 g4,hpm⟩
   ·obtain ⟨g5,g6,g7⟩:=g2.resolve_left hmi
    have hil:i < l.length:=by omega
    have hst:=hdn.step g5 g6 g7 g3 g4
    have hsp:=swq_perm l hil g6
    have hsl:=swq_len l i m
    have hsw:swq l i m = (l.set i (l.getD m 0)).set m (l.getD i 0):=rfl
    generalize hlm:l.getD m 0 = lm at *
    generalize hli:l.getD i 0 = li at *
    repeat' first|refine rs (id:=16) (fun w=>∃ xs,Sl w v2 xs∧xs.length = l.length) ?_ (fun w hw=>⟨_,has_sl hw hasA,Is_len l⟩)|(refine wo ?_;first|(refine ao ?_;first|refine oa ?_)|refine oa ?_)|(refine gc ?_;first|refine cf ?_|(refine ci (fun hB=>?_) (fun hB=>?_) <;> try (exfalso;omega)))|refine sq ?_|refine rg ?_|refine xc ?_|refine nl ?_|refine sk ?_|refine xe ?_
    refine tka 0 ?_
    refine tka 1 ?_
    refine tka 2 ?_
    refine tka 3 ?_
    refine tka 4 ?_
    refine tka 5 ?_
    refine tkx 6 (len:=l.length) (fun w h=>h) ?_
    refine tka 8 ?_
    refine tka 9 ?_
    refine tkx 10 (len:=l.length) (fun w h=>h) ?_
    refine t2 7 11 ?_ ?_
    ·refine lie hlm ?_
     repeat' first|refine nl ?_
     refine te (fun w hw=>⟨_,has_sl hw hasA,Is_len l⟩) ?_
     refine t1 11 ?_
     refine lie hli ?_
     repeat' first|refine nl ?_
     refine te (fun w hw=>⟨_,has_sl hw hasA,Is_len l⟩) ?_
     refine tkx 12 (len:=l.length) (fun w h=>h) ?_
     refine t1 13 ?_
     refine soi (m:=lm) (l:=l) (j:=i) ?_
     repeat' first|refine nl ?_
     refine te (fun w hw=>⟨_,has_sl hw hasA,by rw [Is_len,List.length_set]⟩) ?_
     refine tkx 14 (len:=l.length) (fun w h=>h) ?_
     refine t1 15 ?_
     refine soi (m:=li) (l:=l.set i lm) (j:=m) ?_ (hj:=by rw [List.length_set];exact g6)
     repeat' first|refine nl ?_
     refine te (fun w hw=>⟨_,has_sl hw hasA,by rw [Is_len,List.length_set,List.length_set]⟩) ?_
     refine t0 ?_
     rw [← hsw]
     repeat' first|(refine wo ?_;first|refine oa ?_)|refine rg ?_|refine xc ?_|refine nl ?_|refine xb ?_
     exact lp (m,swq l i m) ⟨.inr (by dsimp only;omega),by dsimp only;omega,hst,hpm.trans (List.Perm.cons _ hsp.symm)⟩ (hlt:=by dsimp only;omega)
    ·refine lie hli ?_
     repeat' first|refine nl ?_
     refine te (fun w hw=>⟨_,has_sl hw hasA,Is_len l⟩) ?_
     refine t1 7 ?_
     refine lie hlm ?_
     repeat' first|refine nl ?_
     refine te (fun w hw=>⟨_,has_sl hw hasA,Is_len l⟩) ?_
     refine tkx 12 (len:=l.length) (fun w h=>h) ?_
     refine t1 13 ?_
     refine soi (m:=lm) (l:=l) (j:=i) ?_
     repeat' first|refine nl ?_
     refine te (fun w hw=>⟨_,has_sl hw hasA,by rw [Is_len,List.length_set]⟩) ?_
     refine tkx 14 (len:=l.length) (fun w h=>h) ?_
     refine t1 15 ?_
     refine soi (m:=li) (l:=l.set i lm) (j:=m) ?_ (hj:=by rw [List.length_set];exact g6)
     repeat' first|refine nl ?_
     refine te (fun w hw=>⟨_,has_sl hw hasA,by rw [Is_len,List.length_set,List.length_set]⟩) ?_
     refine t0 ?_
     rw [← hsw]
     repeat' first|(refine wo ?_;first|refine oa ?_)|refine rg ?_|refine xc ?_|refine nl ?_|refine xb ?_
     exact lp (m,swq l i m) ⟨.inr (by dsimp only;omega),by dsimp only;omega,hst,hpm.trans (List.Perm.cons _ hsp.symm)⟩ (hlt:=by dsimp only;omega)
end Go.Art
namespace Go.Art
open Go
def Rep (h S:List Int):Prop:=Heap h∧h.Perm S∧S.Pairwise (· ≤ ·)
theorem Rep.head {h S:List Int} {a:Int} (r:Rep h (a :: S)):h.getD 0 0 = a:=by
 obtain ⟨h1,h2,h3⟩:=r
 obtain ⟨h4,h5⟩:=List.pairwise_cons.1 h3
 have ha:a ∈ h:=h2.mem_iff.2 (by simp)
 obtain ⟨j,hj,e⟩:=mem_getD.1 ha
 have hl:=h1.head j hj
 have h0:h.getD 0 0 ∈ a :: S:=h2.mem_iff.1 (mem_getD.2 ⟨0,by omega,rfl⟩)
 rcases List.mem_cons.1 h0 with h0 | h0
 ·exact h0
 ·have:=h4 _ h0;omega
theorem Rep.pop {h h' S:List Int} {a:Int} (r:Rep h (a :: S)) (hh:Heap h') (hp:h.Perm (h.getD 0 0 :: h')):Rep h' S:=by
 have e:=r.head
 obtain ⟨h1,h2,h3⟩:=r
 rw [e] at hp
 exact ⟨hh,List.Perm.cons_inv (hp.symm.trans h2),(List.pairwise_cons.1 h3).2⟩
theorem Rep.push {h h' S:List Int} (r:Rep h S) (x:Int) (hh:Heap h') (hp:h'.Perm (x :: h)):Rep h' (srt (x :: S)):=
 ⟨hh,(hp.trans (List.Perm.cons x r.2.1)).trans (srt_perm _).symm,srt_sorted _⟩
theorem Rep.nil:Rep [] []:=⟨fun j _ h=>by simp at h,List.Perm.refl _,.nil⟩
theorem Rep.len {h S:List Int} (r:Rep h S):h.length = S.length:=r.2.1.length_eq
structure AlS where
 rest:List Int
 cut:List Int
 oth:List Int
 B:List Int
 A:List Int
def alStep (all:Int) (u:AlS) (i j:Int) (B A:List Int):AlS:=
 let ri:=u.rest.getD i.toNat 0
 let r:=u.rest.getD j.toNat 0 - (all - ri)
 ⟨u.rest.set j.toNat r,u.cut.set i.toNat ri,u.oth.set i.toNat j,if r > all then B else if r < all then srt (j :: B) else B,if r > all then j :: A else A⟩
def alRun (all:Int):Nat→AlS→AlS
 | 0,u=>u
 | f + 1,u=>match u.B,u.A with
  | i :: B,j :: A=>alRun all f (alStep all u i j B A)
  | _,_=>u
def alIn (t:List Int) (all:Int):Nat→AlS
 | 0=>⟨List.replicate t.length 0,List.replicate t.length 0,List.replicate t.length 0,[],[]⟩
 | i + 1=>let u:=alIn t all i
  let r:=t.getD i 0 * t.length
  ⟨u.rest.set i r,u.cut.set i all,u.oth.set i i,if r < all then srt ((i:Int) :: u.B) else u.B,if r < all then u.A else if r > all then srt ((i:Int) :: u.A) else u.A⟩
structure AlI (t:List Int) (all:Int) (u:AlS):Prop where
 lr:u.rest.length = t.length
 lc:u.cut.length = t.length
 lo:u.oth.length = t.length
 nd:(u.B ++ u.A).Nodup
 B:∀ i ∈ u.B,(0 ≤ i∧i < t.length)∧0 ≤ u.rest.getD i.toNat 0∧u.rest.getD i.toNat 0 < all
 A:∀ j ∈ u.A,(0 ≤ j∧j < t.length)∧all < u.rest.getD j.toNat 0∧u.rest.getD j.toNat 0 ≤ 1099511627776∧0 < t.getD j.toNat 0
 sum:(u.B.map fun i=>all - u.rest.getD i.toNat 0).sum = (u.A.map fun j=>u.rest.getD j.toNat 0 - all).sum
 cut:∀ c:Nat,c < t.length→0 ≤ u.cut.getD c 0∧u.cut.getD c 0 ≤ all
 oth:∀ c:Nat,c < t.length→(0 ≤ u.oth.getD c 0∧u.oth.getD c 0 < t.length)∧(u.cut.getD c 0 = all∨0 < t.getD (u.oth.getD c 0).toNat 0)
 zero:∀ c:Nat,c < t.length→¬ 0 < t.getD c 0→u.rest.getD c 0 = 0∧((c:Int) ∈ u.B∨u.cut.getD c 0 = 0)
theorem sum_pos {l:List Int} {f:Int→Int} (h:∀ x ∈ l,0 < f x) (hl:l ≠ []):0 < (l.map f).sum:=by
 induction l with
 | nil=>exact absurd rfl hl
 | cons a r ih=>
  have h1:=h a (by simp)
  simp only [List.map_cons,List.sum_cons]
  by_cases hr:r = []
  ·subst hr;simp;omega
  ·have:=ih (fun x hx=>h x (by simp [hx])) hr;omega
theorem AlI.more {t:List Int} {all:Int} {u:AlS} (h:AlI t all u) (hB:u.B ≠ []):u.A ≠ []:=fun hA=>by
 have h1:=sum_pos (l:=u.B) (f:=fun i=>all - u.rest.getD i.toNat 0) (fun i hi=>by have:=(h.B i hi).2;omega) hB
 have h2:=h.sum
 rw [hA] at h2
 simp only [List.map_nil,List.sum_nil] at h2
 omega
theorem getD_setI (l:List Int) (i j:Int) (x:Int) (hi:0 ≤ i∧i < l.length) (hj:0 ≤ j):(l.set i.toNat x).getD j.toNat 0 = if j = i then x else l.getD j.toNat 0:=by
 rw [getD_set _ _ _ _ (by omega)]
 by_cases e:j = i
 ·subst e;rw [if_pos rfl,if_pos rfl]
 ·rw [if_neg e,if_neg (by omega)]
theorem map_sum_congr {l:List Int} {f g:Int→Int} (h:∀ x ∈ l,f x = g x):(l.map f).sum = (l.map g).sum:=by rw [List.map_congr_left h]
theorem perm_sum {l m:List Int} (h:l.Perm m):l.sum = m.sum:=by
 induction h with
 | nil=>rfl
 | cons x _ ih=>simp [ih]
 | swap x y l=>simp only [List.sum_cons];omega
 | trans _ _ a b=>exact a.trans b
theorem srt_sum (x:Int) (B:List Int) (f:Int→Int):((srt (x :: B)).map f).sum = f x + (B.map f).sum:=by
 rw [perm_sum ((srt_perm (x :: B)).map f)];rfl
theorem AlI.step {t:List Int} {all:Int} {u:AlS} {i j:Int} {B A:List Int} (h:AlI t all u) (ha:0 < all∧all ≤ 1099511627776) (hB:u.B = i :: B) (hA:u.A = j :: A):AlI t all (alStep all u i j B A):=by
 have hbi:=h.B i (by rw [hB];simp)
 have haj:=h.A j (by rw [hA];simp)
 have hnd:=h.nd
 rw [hB,hA] at hnd
 have hsum:=h.sum
 rw [hB,hA] at hsum
 simp only [List.map_cons,List.sum_cons] at hsum
 have hlr:=h.lr
 have hlc:=h.lc
 have hlo:=h.lo
 obtain ⟨n1,n2,n3⟩:=List.nodup_append.1 hnd
 obtain ⟨hiB,nB⟩:=List.nodup_cons.1 n1
 obtain ⟨hjA,nA⟩:=List.nodup_cons.1 n2
 have hij:i ≠ j:=n3 i (by simp) j (by simp)
 have hiA:i ∉ A:=fun hm=>n3 i (by simp) i (by simp [hm]) rfl
 have hjB:j ∉ B:=fun hm=>n3 j (by simp [hm]) j (by simp) rfl
 have hBA:∀ x ∈ B,∀ y ∈ A,x ≠ y:=fun x hx y hy=>n3 x (by simp [hx]) y (by simp [hy])
 have hBm:∀ x,x ∈ u.B ↔ x = i∨x ∈ B:=fun x=>by rw [hB,List.mem_cons]
 have hAm:∀ x,x ∈ u.A ↔ x = j∨x ∈ A:=fun x=>by rw [hA,List.mem_cons]
 generalize hri:u.rest.getD i.toNat 0 = ri at *
 generalize hrj:u.rest.getD j.toNat 0 = rj at *
 obtain ⟨⟨i0,i1⟩,i2,i3⟩:=hbi
 obtain ⟨⟨j0,j1⟩,j2,j3,j4⟩:=haj
 have hr:∀ x:Int,0 ≤ x→(u.rest.set j.toNat (rj - (all - ri))).getD x.toNat 0 = if x = j then rj - (all - ri) else u.rest.getD x.toNat 0:=fun x hx=>getD_setI _ _ _ _ (by omega) hx
 have hrB:∀ x ∈ B,(u.rest.set j.toNat (rj - (all - ri))).getD x.toNat 0 = u.rest.getD x.toNat 0:=fun x hx=>by rw [hr x (h.B x ((hBm x).2 (.inr hx))).1.1,if_neg (show ¬ x = j from fun e=>hjB (by rw [← e];exact hx))]
 have hrA:∀ x ∈ A,(u.rest.set j.toNat (rj - (all - ri))).getD x.toNat 0 = u.rest.getD x.toNat 0:=fun x hx=>by rw [hr x (h.A x ((hAm x).2 (.inr hx))).1.1,if_neg (show ¬ x = j from fun e=>hjA (by rw [← e];exact hx))]
 have hrjj:=hr j j0
 rw [if_pos rfl] at hrjj
 have hcs:∀ c:Nat,c < t.length→(u.cut.set i.toNat ri).getD c 0 = if (c:Int) = i then ri else u.cut.getD c 0:=fun c hc=>by
  have:=getD_setI u.cut i c ri (by omega) (by omega)
  simpa using this
 have hos:∀ c:Nat,c < t.length→(u.oth.set i.toNat j).getD c 0 = if (c:Int) = i then j else u.oth.getD c 0:=fun c hc=>by
  have:=getD_setI u.oth i c j (by omega) (by omega)
  simpa using this
 have hsB:=map_sum_congr (l:=B) (f:=fun x=>all - (u.rest.set j.toNat (rj - (all - ri))).getD x.toNat 0) (g:=fun x=>all - u.rest.getD x.toNat 0) (fun x hx=>by rw [hrB x hx])
 have hsA:=map_sum_congr (l:=A) (f:=fun x=>(u.rest.set j.toNat (rj - (all - ri))).getD x.toNat 0 - all) (g:=fun x=>u.rest.getD x.toNat 0 - all) (fun x hx=>by rw [hrA x hx])
 have hcut:∀ c:Nat,c < t.length→0 ≤ (u.cut.set i.toNat ri).getD c 0∧(u.cut.set i.toNat ri).getD c 0 ≤ all:=fun c hc=>by
  rw [hcs c hc];split
  ·omega
  ·exact h.cut c hc
 have hoth:∀ c:Nat,c < t.length→(0 ≤ (u.oth.set i.toNat j).getD c 0∧(u.oth.set i.toNat j).getD c 0 < t.length)∧((u.cut.set i.toNat ri).getD c 0 = all∨0 < t.getD ((u.oth.set i.toNat j).getD c 0).toNat 0):=fun c hc=>by
  rw [hos c hc,hcs c hc];split
  ·exact ⟨⟨j0,j1⟩,.inr j4⟩
  ·exact h.oth c hc
 have hzero:∀ c:Nat,c < t.length→¬ 0 < t.getD c 0→(u.rest.set j.toNat (rj - (all - ri))).getD c 0 = 0∧((c:Int) ∈ B∨(u.cut.set i.toNat ri).getD c 0 = 0):=fun c hc hp=>by
  obtain ⟨z1,z2⟩:=h.zero c hc hp
  have hcj:(c:Int) ≠ j:=fun e=>by rw [← e] at j4;exact hp (by simpa using j4)
  have e1:=hr c (by omega)
  rw [if_neg hcj] at e1
  rw [Int.toNat_natCast] at e1
  refine ⟨e1.trans z1,?_⟩
  rw [hcs c hc]
  by_cases hci:(c:Int) = i
  ·rw [if_pos hci];right
   rw [← hri,← hci,Int.toNat_natCast];exact z1
  ·rw [if_neg hci]
   rcases z2 with z2 | z2
   ·exact .inl (((hBm _).1 z2).resolve_left hci)
   ·exact .inr z2
 have hBk:∀ x ∈ B,(0 ≤ x∧x < t.length)∧0 ≤ (u.rest.set j.toNat (rj - (all - ri))).getD x.toNat 0∧(u.rest.set j.toNat (rj - (all - ri))).getD x.toNat 0 < all:=fun x hx=>by rw [hrB x hx];exact h.B x ((hBm x).2 (.inr hx))
 have hAk:∀ x ∈ A,(0 ≤ x∧x < t.length)∧all < (u.rest.set j.toNat (rj - (all - ri))).getD x.toNat 0∧(u.rest.set j.toNat (rj - (all - ri))).getD x.toNat 0 ≤ 1099511627776∧0 < t.getD x.toNat 0:=fun x hx=>by rw [hrA x hx];exact h.A x ((hAm x).2 (.inr hx))
 unfold alStep
 rw [hri,hrj]
 dsimp only
 by_cases c1:rj - (all - ri) > all
 ·rw [if_pos c1,if_pos c1]
  refine ⟨by simp [hlr],by simp [hlc],by simp [hlo],?_,hBk,fun x hx=>?_,?_,hcut,hoth,hzero⟩
  ·refine List.nodup_append.2 ⟨nB,List.nodup_cons.2 ⟨hjA,nA⟩,fun a ha b hb=>?_⟩
   rcases List.mem_cons.1 hb with rfl | hb
   ·exact fun e=>hjB (e ▸ ha)
   ·exact hBA a ha b hb
  ·rcases List.mem_cons.1 hx with rfl | hx
   ·dsimp only;rw [hrjj];exact ⟨⟨j0,j1⟩,by omega,by omega,j4⟩
   ·exact hAk x hx
  ·dsimp only
   rw [List.map_cons,List.sum_cons,hsB,hsA,hrjj];omega
 ·rw [if_neg c1,if_neg c1]
  by_cases c2:rj - (all - ri) < all
  ·rw [if_pos c2]
   have hsm:∀ x,x ∈ srt (j :: B) ↔ x = j∨x ∈ B:=fun x=>by rw [(srt_perm _).mem_iff,List.mem_cons]
   refine ⟨by simp [hlr],by simp [hlc],by simp [hlo],?_,fun x hx=>?_,hAk,?_,hcut,hoth,fun c hc hp=>⟨(hzero c hc hp).1,(hzero c hc hp).2.imp (fun hm=>(hsm _).2 (.inr hm)) id⟩⟩
   ·refine List.nodup_append.2 ⟨(srt_perm _).nodup_iff.2 (List.nodup_cons.2 ⟨hjB,nB⟩),nA,fun a ha b hb=>?_⟩
    rcases (hsm a).1 ha with rfl | ha
    ·exact fun e=>hjA (e ▸ hb)
    ·exact hBA a ha b hb
   ·rcases (hsm x).1 hx with rfl | hx
    ·dsimp only;rw [hrjj];exact ⟨⟨j0,j1⟩,by omega,by omega⟩
    ·exact hBk x hx
   ·dsimp only
    rw [srt_sum,hsB,hsA,hrjj];omega
  ·rw [if_neg c2]
   refine ⟨by simp [hlr],by simp [hlc],by simp [hlo],?_,hBk,hAk,?_,hcut,hoth,hzero⟩
   ·exact List.nodup_append.2 ⟨nB,nA,hBA⟩
   ·dsimp only
    rw [hsB,hsA];omega
structure AlJ (t:List Int) (all:Int) (n:Nat) (u:AlS):Prop where
 lr:u.rest.length = t.length
 lc:u.cut.length = t.length
 lo:u.oth.length = t.length
 nd:(u.B ++ u.A).Nodup
 B:∀ i ∈ u.B,(0 ≤ i∧i < n)∧0 ≤ u.rest.getD i.toNat 0∧u.rest.getD i.toNat 0 < all
 A:∀ j ∈ u.A,(0 ≤ j∧j < n)∧all < u.rest.getD j.toNat 0∧u.rest.getD j.toNat 0 ≤ 1099511627776∧0 < t.getD j.toNat 0
 sum:(u.B.map fun i=>all - u.rest.getD i.toNat 0).sum - (u.A.map fun j=>u.rest.getD j.toNat 0 - all).sum = n * all - t.length * (t.take n).sum
 cut:∀ c:Nat,c < n→u.cut.getD c 0 = all
 oth:∀ c:Nat,c < n→u.oth.getD c 0 = c
 zero:∀ c:Nat,c < n→¬ 0 < t.getD c 0→u.rest.getD c 0 = 0∧(c:Int) ∈ u.B
theorem AlJ.start (t:List Int) (all:Int):AlJ t all 0 (alIn t all 0):=⟨by simp [alIn],by simp [alIn],by simp [alIn],by simp [alIn],by simp [alIn],by simp [alIn],by simp [alIn],fun c h=>by omega,fun c h=>by omega,fun c h=>by omega⟩
theorem AlJ.step {t:List Int} {all:Int} {n:Nat} (hw:∀ w ∈ t,0 ≤ w∧w ≤ 16777215) (hl:t.length ≤ 65536) (ha:0 < all) (hn:n < t.length) (h:AlJ t all n (alIn t all n)):AlJ t all (n + 1) (alIn t all (n + 1)):=by
 have hb:=hw _ (mem_getD.2 ⟨n,hn,rfl⟩)
 have hts:(t.take (n + 1)).sum = (t.take n).sum + t.getD n 0:=by rw [take_succ' hn 0,List.sum_append];simp
 unfold alIn
 generalize alIn t all n = u at *
 obtain ⟨h1,h2,h3,h4,h5,h6,h7,h8,h9,h10⟩:=h
 have hr0:0 ≤ t.getD n 0 * t.length:=Int.mul_nonneg hb.1 (by omega)
 have hr1:t.getD n 0 * t.length ≤ 16777215 * 65536:=Int.mul_le_mul hb.2 (by omega) (by omega) (by omega)
 have hr2:t.getD n 0 * t.length = t.length * t.getD n 0:=Int.mul_comm _ _
 have hr3:¬ 0 < t.getD n 0→t.getD n 0 * t.length = 0:=fun hz=>by rw [show t.getD n 0 = 0 by omega,Int.zero_mul]
 have hS:((n + 1:Nat):Int) * all - t.length * (t.take (n + 1)).sum = n * all + all - (t.length * (t.take n).sum + t.getD n 0 * (t.length:Int)):=by
  rw [hts,Int.mul_add,← hr2,show ((n + 1:Nat):Int) = (n:Int) + 1 by omega,Int.add_mul,Int.one_mul]
 generalize hr:t.getD n 0 * (t.length:Int) = r at *
 dsimp only
 have G:∀ x:Int,0 ≤ x→(u.rest.set n r).getD x.toNat 0 = if x = n then r else u.rest.getD x.toNat 0:=fun x hx=>by
  have:=getD_setI u.rest n x r (by omega) hx
  rwa [Int.toNat_natCast] at this
 have GB:∀ x ∈ u.B,(u.rest.set n r).getD x.toNat 0 = u.rest.getD x.toNat 0:=fun x hx=>by rw [G x (h5 x hx).1.1,if_neg (by have:=(h5 x hx).1;omega)]
 have GA:∀ x ∈ u.A,(u.rest.set n r).getD x.toNat 0 = u.rest.getD x.toNat 0:=fun x hx=>by rw [G x (h6 x hx).1.1,if_neg (by have:=(h6 x hx).1;omega)]
 have Gn:=G n (by omega)
 rw [if_pos rfl] at Gn
 have hnB:(n:Int) ∉ u.B:=fun hm=>by have:=(h5 _ hm).1;omega
 have hnA:(n:Int) ∉ u.A:=fun hm=>by have:=(h6 _ hm).1;omega
 have hsB:=map_sum_congr (l:=u.B) (f:=fun x=>all - (u.rest.set n r).getD x.toNat 0) (g:=fun x=>all - u.rest.getD x.toNat 0) (fun x hx=>by rw [GB x hx])
 have hsA:=map_sum_congr (l:=u.A) (f:=fun x=>(u.rest.set n r).getD x.toNat 0 - all) (g:=fun x=>u.rest.getD x.toNat 0 - all) (fun x hx=>by rw [GA x hx])
 have hBk:∀ x ∈ u.B,(0 ≤ x∧x < (n + 1:Nat))∧0 ≤ (u.rest.set n r).getD x.toNat 0∧(u.rest.set n r).getD x.toNat 0 < all:=fun x hx=>by
  rw [GB x hx];have:=h5 x hx;exact ⟨by omega,this.2⟩
 have hAk:∀ x ∈ u.A,(0 ≤ x∧x < (n + 1:Nat))∧all < (u.rest.set n r).getD x.toNat 0∧(u.rest.set n r).getD x.toNat 0 ≤ 1099511627776∧0 < t.getD x.toNat 0:=fun x hx=>by
  rw [GA x hx];have:=h6 x hx;exact ⟨by omega,this.2⟩
 have hcut:∀ c:Nat,c < n + 1→(u.cut.set n all).getD c 0 = all:=fun c hc=>by
  rw [getD_set _ _ _ _ (by omega)];split
  ·rfl
  ·exact h8 c (by omega)
 have hoth:∀ c:Nat,c < n + 1→(u.oth.set n (n:Int)).getD c 0 = c:=fun c hc=>by
  rw [getD_set _ _ _ _ (by omega)];split
  ·omega
  ·exact h9 c (by omega)
 have hz:∀ c:Nat,c < n→¬ 0 < t.getD c 0→(u.rest.set n r).getD c 0 = 0∧(c:Int) ∈ u.B:=fun c hc hp=>by
  obtain ⟨z1,z2⟩:=h10 c hc hp
  rw [getD_set _ _ _ _ (by omega),if_neg (by omega)];exact ⟨z1,z2⟩
 obtain ⟨n1,n2,n3⟩:=List.nodup_append.1 h4
 by_cases c1:r < all
 ·rw [if_pos c1,if_pos c1]
  have hsm:∀ x,x ∈ srt ((n:Int) :: u.B) ↔ x = n∨x ∈ u.B:=fun x=>by rw [(srt_perm _).mem_iff,List.mem_cons]
  refine ⟨by simp [h1],by simp [h2],by simp [h3],?_,fun x hx=>?_,hAk,?_,hcut,hoth,fun c hc hp=>?_⟩
  ·refine List.nodup_append.2 ⟨(srt_perm _).nodup_iff.2 (List.nodup_cons.2 ⟨hnB,n1⟩),n2,fun a ha' b hb'=>?_⟩
   rcases (hsm a).1 ha' with rfl | ha'
   ·exact fun e=>hnA (by rw [e];exact hb')
   ·exact n3 a ha' b hb'
  ·rcases (hsm x).1 hx with rfl | hx
   ·dsimp only;rw [Gn];exact ⟨by omega,by omega,by omega⟩
   ·exact hBk x hx
  ·dsimp only;rw [srt_sum,hsB,hsA,Gn,hS];omega
  ·by_cases e:c = n
   ·subst e
    rw [Int.toNat_natCast] at Gn
    exact ⟨Gn.trans (hr3 hp),(hsm _).2 (.inl rfl)⟩
   ·exact ⟨(hz c (by omega) hp).1,(hsm _).2 (.inr (hz c (by omega) hp).2)⟩
 ·rw [if_neg c1,if_neg c1]
  have hp1:0 < t.getD n 0:=Classical.byContradiction fun hp=>by have:=hr3 hp;omega
  have hzk:∀ c:Nat,c < n + 1→¬ 0 < t.getD c 0→(u.rest.set n r).getD c 0 = 0∧(c:Int) ∈ u.B:=fun c hc hp=>by
   by_cases e:c = n
   ·subst e;exact absurd hp1 hp
   ·exact hz c (by omega) hp
  by_cases c2:r > all
  ·rw [if_pos c2]
   have hsm:∀ x,x ∈ srt ((n:Int) :: u.A) ↔ x = n∨x ∈ u.A:=fun x=>by rw [(srt_perm _).mem_iff,List.mem_cons]
   refine ⟨by simp [h1],by simp [h2],by simp [h3],?_,hBk,fun x hx=>?_,?_,hcut,hoth,hzk⟩
   ·refine List.nodup_append.2 ⟨n1,(srt_perm _).nodup_iff.2 (List.nodup_cons.2 ⟨hnA,n2⟩),fun a ha' b hb'=>?_⟩
    rcases (hsm b).1 hb' with rfl | hb'
    ·exact fun e=>hnB (by rw [← e];exact ha')
    ·exact n3 a ha' b hb'
   ·rcases (hsm x).1 hx with rfl | hx
    ·dsimp only;rw [Gn,Int.toNat_natCast];exact ⟨by omega,by omega,by omega,hp1⟩
    ·exact hAk x hx
   ·dsimp only;rw [srt_sum,hsB,hsA,Gn,hS];omega
  ·rw [if_neg c2]
   refine ⟨by simp [h1],by simp [h2],by simp [h3],h4,hBk,hAk,?_,hcut,hoth,hzk⟩
   dsimp only;rw [hsB,hsA,hS];omega
theorem AlJ.all {t:List Int} {all:Int} (hw:∀ w ∈ t,0 ≤ w∧w ≤ 16777215) (hl:t.length ≤ 65536) (ha:0 < all):∀ n:Nat,n ≤ t.length→AlJ t all n (alIn t all n)
 | 0,_=>AlJ.start t all
 | n + 1,h=>AlJ.step hw hl ha h (AlJ.all hw hl ha n (by omega))
theorem AlJ.done {t:List Int} {u:AlS} (ha:0 < t.sum) (h:AlJ t t.sum t.length u):AlI t t.sum u:=by
 refine ⟨h.lr,h.lc,h.lo,h.nd,h.B,h.A,?_,fun c hc=>?_,fun c hc=>?_,fun c hc hp=>?_⟩
 ·have:=h.sum
  rw [List.take_length] at this
  omega
 ·rw [h.cut c hc];omega
 ·rw [h.cut c hc,h.oth c hc];exact ⟨by omega,.inl rfl⟩
 ·exact ⟨(h.zero c hc hp).1,.inl (h.zero c hc hp).2⟩
def alMu (u:AlS):Nat:=u.B.length + 2 * u.A.length
theorem alStep_mu {all:Int} {u:AlS} {i j:Int} {B A:List Int} (hB:u.B = i :: B) (hA:u.A = j :: A):alMu (alStep all u i j B A) < alMu u:=by
 unfold alMu alStep
 dsimp only
 rw [hB,hA]
 split
 ·simp only [List.length_cons];omega
 ·split
  ·rw [srt_length];simp only [List.length_cons];omega
  ·simp only [List.length_cons];omega
theorem alRun_more {all:Int} (f:Nat):∀ (g:Nat) (u:AlS),alMu u ≤ f→alMu u ≤ g→alRun all f u = alRun all g u:=by
 have key:∀ (f:Nat) (u:AlS),alMu u = 0→alRun all f u = u:=fun f u h=>by
  cases f with
  | zero=>rfl
  | succ f=>
   unfold alRun
   have:u.B = []:=List.eq_nil_of_length_eq_zero (by unfold alMu at h;omega)
   rw [this]
 induction f with
 | zero=>intro g u h1 _;rw [key 0 u (by omega),key g u (by omega)]
 | succ f ih=>
  intro g u h1 h2
  cases g with
  | zero=>rw [key (f + 1) u (by omega),key 0 u (by omega)]
  | succ g=>
   unfold alRun
   split
   ·rename_i i B j A hB hA
    have:=alStep_mu (all:=all) hB hA
    exact ih g _ (by omega) (by omega)
   ·rfl
def alEnd (all:Int) (u:AlS):AlS:=alRun all (alMu u) u
theorem alEnd_stop {all:Int} {u:AlS} (h:u.B = []):alEnd all u = u:=by
 unfold alEnd
 cases alMu u with
 | zero=>rfl
 | succ f=>unfold alRun;rw [h]
theorem alEnd_step {all:Int} {u:AlS} {i j:Int} {B A:List Int} (hB:u.B = i :: B) (hA:u.A = j :: A):alEnd all u = alEnd all (alStep all u i j B A):=by
 have hm:=alStep_mu (all:=all) hB hA
 unfold alEnd
 obtain ⟨k,hk⟩ : ∃ k,alMu u = k + 1:=⟨alMu u - 1,by omega⟩
 rw [hk]
 conv=>lhs;unfold alRun
 rw [hB,hA]
 exact alRun_more _ _ _ (by omega) (Nat.le_refl _)
theorem AlI.end {t:List Int} {all:Int} (ha:0 < all∧all ≤ 1099511627776) (m:Nat):∀ u,alMu u ≤ m→AlI t all u→AlI t all (alEnd all u)∧(alEnd all u).B = []:=by
 induction m with
 | zero=>
  intro u hm h
  have hB:u.B = []:=List.eq_nil_of_length_eq_zero (by unfold alMu at hm;omega)
  rw [alEnd_stop hB];exact ⟨h,hB⟩
 | succ m ih=>
  intro u hm h
  cases hB:u.B with
  | nil=>rw [alEnd_stop hB];exact ⟨h,hB⟩
  | cons i B=>
   cases hA:u.A with
   | nil=>exact absurd hA (h.more (by rw [hB];simp))
   | cons j A=>
    have:=alStep_mu (all:=all) hB hA
    rw [alEnd_step hB hA]
    exact ih _ (by omega) (h.step ha hB hA)
def alF (t:List Int):AlS:=alEnd t.sum (alIn t t.sum t.length)
theorem alF_ok {t:List Int} (hw:∀ w ∈ t,0 ≤ w∧w ≤ 16777215) (hl:1 ≤ t.length∧t.length ≤ 65536) (ha:0 < t.sum):alE t.sum (alF t).cut (alF t).oth = 0∧(alF t).cut.length = t.length∧∀ c l:Int,0 ≤ c∧c < t.length→0 ≤ l∧l < t.sum→0 < t.getD (alPick t.sum (alF t).cut (alF t).oth c l).toNat 0:=by
 have hs:=sum_bound hw
 have hall:0 < t.sum∧t.sum ≤ 1099511627776:=by omega
 obtain ⟨hI,hB⟩:=AlI.end hall _ _ (Nat.le_refl _) ((AlJ.all hw hl.2 ha t.length (Nat.le_refl _)).done ha)
 change AlI t t.sum (alF t) at hI
 change (alF t).B = [] at hB
 generalize alF t = u at *
 refine ⟨?_,hI.lc,fun c l hc hl'=>?_⟩
 ·unfold alE
  rw [if_neg (by rw [hI.lc,hI.lo];omega),if_neg]
  rw [Bool.or_eq_true,List.any_eq_true,List.any_eq_true]
  rintro (⟨x,hx,hb⟩ | ⟨x,hx,hb⟩)
  ·obtain ⟨c,hc,rfl⟩:=mem_getD.1 hx
   have:=hI.cut c (by rw [← hI.lc];exact hc)
   have hb:=of_decide_eq_true hb
   omega
  ·obtain ⟨c,hc,rfl⟩:=mem_getD.1 hx
   have:=(hI.oth c (by rw [← hI.lo];exact hc)).1
   have hb:=of_decide_eq_true hb
   rw [hI.lc] at hb
   omega
 ·have h1:=hI.oth c.toNat (by omega)
  have h2:=hI.zero c.toNat (by omega)
  unfold alPick
  split
  ·rename_i hlt
   refine Classical.byContradiction fun hn=>?_
   have:=(h2 hn).2
   rw [hB] at this
   rcases this with h | h
   ·cases h
   ·omega
  ·rename_i hlt
   rcases h1.2 with h | h
   ·omega
   ·exact h
open Go Go.Proofs Go.RowKit
attribute [local irreducible] Fit pt own ro vw mpc lpt vels rels mow lrc dfr
attribute [local irreducible] lmp lme mit velg relg
structure MkG where
 i:Nat
 hb:List Int
 ha:List Int
 bv:Value
 av:Value
structure MkH where
 u:AlS
 hb:List Int
 ha:List Int
 bv:Value
 av:Value
theorem alIn_len (t:List Int) (all:Int):∀ n,(alIn t all n).B.length + (alIn t all n).A.length ≤ n
 | 0=>by simp [alIn]
 | n + 1=>by
  have:=alIn_len t all n
  unfold alIn
  dsimp only
  split
  ·rw [srt_length,List.length_cons];omega
  ·split
   ·rw [srt_length,List.length_cons];omega
   ·omega
theorem alStep_len {all:Int} {u:AlS} {i j:Int} {B A:List Int} (hB:u.B = i :: B) (hA:u.A = j :: A):(alStep all u i j B A).B.length + (alStep all u i j B A).A.length ≤ u.B.length + u.A.length:=by
 unfold alStep
 dsimp only
 rw [hB,hA]
 split
 ·simp only [List.length_cons];omega
 ·split
  ·rw [srt_length];simp only [List.length_cons];omega
  ·simp only [List.length_cons];omega
theorem setI_get (l:List Int) (i:Nat) (x:Int) (h:i < l.length):(l.set i x).getD i 0 = x:=by rw [getD_set _ _ _ _ h,if_pos rfl]
theorem Make_tr (s:Value) (t:List Int) (hl:1 ≤ t.length∧t.length ≤ 65536) (hw:∀ w ∈ t,0 ≤ w∧w ≤ 16777215) (hpos:0 < t.sum):Tr Tryz.prog 84 [s] [vw s (Is t)] []
  fun v D=>∃ cv ov,v = tup2 (.agg #[I t.sum,cv,ov]) (I 0)∧D = [own 3 cv (Is (alF t).cut),own 3 ov (Is (alF t).oth)]∧cv.oneCell' = true∧ov.oneCell' = true:=by
 have hsb:=sum_bound hw
 refine Tr.enter env _ Tryz.func84 (by kernel_rfl) rfl Tryz.ntmps84 rfl (by repeat (first | exact has00 | refine has01 ?_)) fun w0=>?_
 repeat' first|(refine gca ?_;first|(refine ca (Total_tr s t hl hw) ?_;rintro _ _ ⟨rfl,rfl⟩))|refine al fun br=>?_|refine sq_cutX (a:=.region 4 _ _) (ι:=Nat × Value × Value) (fun i=>i.2.1.oneCell' = true∧i.2.2.oneCell' = true) (fun i=>[(0,s),(2,ptr br),(4,I t.length),(5,I t.sum),(6,ptr i.1)]) (fun i=>[vw s (Is t),pt br [I 0,nS,nS] TAl,pt i.1 [I t.sum,i.2.1,i.2.2] TAl,own 3 i.2.1 (Is (List.replicate t.length 0)),own 3 i.2.2 (Is (List.replicate t.length 0))]) ?_ (fun kb=>?_)|refine rs (id:=4) (fun _=>True) ?_ (fun _ _=>trivial)|(refine wo ?_;first|(refine ao ?_;first|refine oa ?_)|refine oa ?_|refine lnm ?_)|(refine gc ?_;first|(refine ci (fun hB=>?_) (fun hB=>?_) <;> try (exfalso;omega)))|refine sq ?_|refine rg ?_|refine xc ?_|refine nl ?_|refine sk ?_
 rotate_left
 ·refine tka 0 ?_
  refine tka 1 ?_
  refine tka 3 ?_
  refine t3 2 4 6 ?_ ?_ ?_
  ·refine mki fun cv=>?_
   refine TO.one (v:=cv) (xs:=Is (List.replicate (t.length:Int).toNat 0)) fun hcv=>?_
   repeat' first|refine nl ?_
   refine te (fun _ _=>trivial) ?_
   refine t2 4 6 ?_ ?_
   ·refine mki fun ov=>?_
    refine TO.one (v:=ov) (xs:=Is (List.replicate (t.length:Int).toNat 0)) fun hov=>?_
    repeat' first|refine nl ?_
    refine te (fun _ _=>trivial) ?_
    refine t2 5 6 ?_ ?_
    ·refine bdz ?_
     repeat' first|refine nl ?_
     refine te (fun _ _=>trivial) ?_
     refine t1 6 ?_
     refine al fun bo=>?_
     repeat' first|refine nl ?_
     refine te (fun _ _=>trivial) ?_
     refine t1 7 ?_
     refine srz ?_
     repeat' first|refine nl ?_
     refine te (fun _ _=>trivial) ?_
     refine t0 ?_
     refine xc ?_
     exact kb (bo,cv,ov) ⟨hcv,hov⟩ _ _ (by (repeat (refine Sub.cons rfl (by first | rfl | go_num) ?_));exact Sub.nil) fitA
    ·refine al fun bo=>?_
     repeat' first|refine nl ?_
     refine te (fun _ _=>trivial) ?_
     refine t1 5 ?_
     refine bdz ?_
     repeat' first|refine nl ?_
     refine te (fun _ _=>trivial) ?_
     refine t1 7 ?_
     refine srz ?_
     repeat' first|refine nl ?_
     refine te (fun _ _=>trivial) ?_
     refine t0 ?_
     refine xc ?_
     exact kb (bo,cv,ov) ⟨hcv,hov⟩ _ _ (by (repeat (refine Sub.cons rfl (by first | rfl | go_num) ?_));exact Sub.nil) fitA
   ·refine al fun bo=>?_
    repeat' first|refine nl ?_
    refine te (fun _ _=>trivial) ?_
    refine t1 4 ?_
    refine mki fun ov=>?_
    refine TO.one (v:=ov) (xs:=Is (List.replicate (t.length:Int).toNat 0)) fun hov=>?_
    repeat' first|refine nl ?_
    refine te (fun _ _=>trivial) ?_
    refine t1 5 ?_
    refine bdz ?_
    repeat' first|refine nl ?_
    refine te (fun _ _=>trivial) ?_
    refine t1 7 ?_
    refine srz ?_
    repeat' first|refine nl ?_
    refine te (fun _ _=>trivial) ?_
    refine t0 ?_
    refine xc ?_
    exact kb (bo,cv,ov) ⟨hcv,hov⟩ _ _ (by (repeat (refine Sub.cons rfl (by first | rfl | go_num) ?_));exact Sub.nil) fitA
  ·refine mki fun ov=>?_
   refine TO.one (v:=ov) (xs:=Is (List.replicate (t.length:Int).toNat 0)) fun hov=>?_
   repeat' first|refine nl ?_
   refine te (fun _ _=>trivial) ?_
   refine t2 2 6 ?_ ?_
   ·refine mki fun cv=>?_
    refine TO.one (v:=cv) (xs:=Is (List.replicate (t.length:Int).toNat 0)) fun hcv=>?_
    repeat' first|refine nl ?_
    refine te (fun _ _=>trivial) ?_
    refine t2 5 6 ?_ ?_
    ·refine bdz ?_
     repeat' first|refine nl ?_
     refine te (fun _ _=>trivial) ?_
     refine t1 6 ?_
     refine al fun bo=>?_
     repeat' first|refine nl ?_
     refine te (fun _ _=>trivial) ?_
     refine t1 7 ?_
     refine srz ?_
     repeat' first|refine nl ?_
     refine te (fun _ _=>trivial) ?_
     refine t0 ?_
     refine xc ?_
     exact kb (bo,cv,ov) ⟨hcv,hov⟩ _ _ (by (repeat (refine Sub.cons rfl (by first | rfl | go_num) ?_));exact Sub.nil) fitA
    ·refine al fun bo=>?_
     repeat' first|refine nl ?_
     refine te (fun _ _=>trivial) ?_
     refine t1 5 ?_
     refine bdz ?_
     repeat' first|refine nl ?_
     refine te (fun _ _=>trivial) ?_
     refine t1 7 ?_
     refine srz ?_
     repeat' first|refine nl ?_
     refine te (fun _ _=>trivial) ?_
     refine t0 ?_
     refine xc ?_
     exact kb (bo,cv,ov) ⟨hcv,hov⟩ _ _ (by (repeat (refine Sub.cons rfl (by first | rfl | go_num) ?_));exact Sub.nil) fitA
   ·refine al fun bo=>?_
    repeat' first|refine nl ?_
    refine te (fun _ _=>trivial) ?_
    refine t1 2 ?_
    refine mki fun cv=>?_
    refine TO.one (v:=cv) (xs:=Is (List.replicate (t.length:Int).toNat 0)) fun hcv=>?_
    repeat' first|refine nl ?_
    refine te (fun _ _=>trivial) ?_
    refine t1 5 ?_
    refine bdz ?_
    repeat' first|refine nl ?_
    refine te (fun _ _=>trivial) ?_
    refine t1 7 ?_
    refine srz ?_
    repeat' first|refine nl ?_
    refine te (fun _ _=>trivial) ?_
    refine t0 ?_
    refine xc ?_
    exact kb (bo,cv,ov) ⟨hcv,hov⟩ _ _ (by (repeat (refine Sub.cons rfl (by first | rfl | go_num) ?_));exact Sub.nil) fitA
  ·refine al fun bo=>?_
   repeat' first|refine nl ?_
   refine te (fun _ _=>trivial) ?_
   refine t2 2 4 ?_ ?_
   ·refine mki fun cv=>?_
    refine TO.one (v:=cv) (xs:=Is (List.replicate (t.length:Int).toNat 0)) fun hcv=>?_
    repeat' first|refine nl ?_
    refine te (fun _ _=>trivial) ?_
    refine t1 4 ?_
    refine mki fun ov=>?_
    refine TO.one (v:=ov) (xs:=Is (List.replicate (t.length:Int).toNat 0)) fun hov=>?_
    repeat' first|refine nl ?_
    refine te (fun _ _=>trivial) ?_
    refine t1 5 ?_
    refine bdz ?_
    repeat' first|refine nl ?_
    refine te (fun _ _=>trivial) ?_
    refine t1 7 ?_
    refine srz ?_
    repeat' first|refine nl ?_
    refine te (fun _ _=>trivial) ?_
    refine t0 ?_
    refine xc ?_
    exact kb (bo,cv,ov) ⟨hcv,hov⟩ _ _ (by (repeat (refine Sub.cons rfl (by first | rfl | go_num) ?_));exact Sub.nil) fitA
   ·refine mki fun ov=>?_
    refine TO.one (v:=ov) (xs:=Is (List.replicate (t.length:Int).toNat 0)) fun hov=>?_
    repeat' first|refine nl ?_
    refine te (fun _ _=>trivial) ?_
    refine t1 2 ?_
    refine mki fun cv=>?_
    refine TO.one (v:=cv) (xs:=Is (List.replicate (t.length:Int).toNat 0)) fun hcv=>?_
    repeat' first|refine nl ?_
    refine te (fun _ _=>trivial) ?_
    refine t1 5 ?_
    refine bdz ?_
    repeat' first|refine nl ?_
    refine te (fun _ _=>trivial) ?_
    refine t1 7 ?_
    refine srz ?_
    repeat' first|refine nl ?_
    refine te (fun _ _=>trivial) ?_
    refine t0 ?_
    refine xc ?_
    exact kb (bo,cv,ov) ⟨hcv,hov⟩ _ _ (by (repeat (refine Sub.cons rfl (by first | rfl | go_num) ?_));exact Sub.nil) fitA
 rintro ⟨bo,cv,ov⟩ ⟨hcv,hov⟩
 dsimp only at hcv hov ⊢
 repeat' first|refine mki fun rv=>?_|(refine wo ?_;first|refine oa ?_)|refine sq ?_|refine rg ?_|refine xc ?_|refine nl ?_
 refine TO.one (v:=rv) (xs:=Is (List.replicate (t.length:Int).toNat 0)) fun hrv=>?_
 repeat' first|refine al fun pa=>?_|(refine wo ?_;first|refine oa ?_|refine lnm ?_)|refine sq ?_|refine rg ?_|refine xc ?_|refine nl ?_|refine bk ?_
 rename_i pb
 refine TC.im (own_nil 3 _) ?_
 refine TC.im (own_nil 3 _) ?_
 have hall:=AlJ.all hw hl.2 hpos
 have hln:=alIn_len t t.sum
 refine TC.loop (ι:=MkG) (fun g=>[(31,I g.i)]) (fun g=>[own 3 rv (Is (alIn t t.sum g.i).rest),own 3 cv (Is (alIn t t.sum g.i).cut),own 3 ov (Is (alIn t t.sum g.i).oth),pt pb [g.bv] THp,own 3 g.bv (Is g.hb),pt pa [g.av] THp,own 3 g.av (Is g.ha)])
  (fun g=>g.i ≤ t.length∧Rep g.hb (alIn t t.sum g.i).B∧Rep g.ha (alIn t t.sum g.i).A) (fun g=>t.length - g.i) ⟨0,[],[],nS,nS⟩ [0,2,4,5,6,7,8,9,29,30] ⟨Nat.zero_le _,Rep.nil,Rep.nil⟩ ?_
 rintro ⟨i,hb,ha,bv,av⟩ ⟨hi,hrb,hra⟩
 dsimp only at hi hrb hra ⊢
 by_cases hlt:i < t.length
 ·have hst:alIn t t.sum (i + 1) = ⟨(alIn t t.sum i).rest.set i (t.getD i 0 * t.length),(alIn t t.sum i).cut.set i t.sum,(alIn t t.sum i).oth.set i i,if t.getD i 0 * t.length < t.sum then srt ((i:Int) :: (alIn t t.sum i).B) else (alIn t t.sum i).B,if t.getD i 0 * t.length < t.sum then (alIn t t.sum i).A else if t.getD i 0 * t.length > t.sum then srt ((i:Int) :: (alIn t t.sum i).A) else (alIn t t.sum i).A⟩:=rfl
  have hJ:=hall i hi
  have hL:=hln i
  have hx:=hw _ (mem_getD.2 ⟨i,hlt,rfl⟩)
  have hr0:0 ≤ t.getD i 0 * t.length:=Int.mul_nonneg hx.1 (by omega)
  have hr1:t.getD i 0 * t.length ≤ 16777215 * 65536:=Int.mul_le_mul hx.2 (by omega) (by omega) (by omega)
  have hu1:=hJ.lr
  have hu2:=hJ.lc
  have hu3:=hJ.lo
  clear hJ hall hln
  generalize alIn t t.sum i = U at *
  generalize hxe:t.getD i 0 = x at *
  generalize hre:x * (t.length:Int) = r at *
  have hq:=setI_get U.rest i r (by omega)
  have hbl:=hrb.len
  have hal:=hra.len
  repeat' first|refine lie hxe ?_|refine rs (id:=10) (fun w=>w.heap[bo]? = some (.cells #[I t.sum,cv,ov] TAl (0,0))∧(∃ xs,Sl w rv xs∧xs.length = t.length)∧(∃ xs,Sl w cv xs∧xs.length = t.length)∧(∃ xs,Sl w ov xs∧xs.length = t.length)) ?_ (fun w hw=>⟨pt_at memA hw,⟨_,has_sl hw hasA,by rw [Is_len];exact hu1⟩,⟨_,has_sl hw hasA,by rw [Is_len];exact hu2⟩,⟨_,has_sl hw hasA,by rw [Is_len];exact hu3⟩⟩)|(refine wo ?_;first|(refine ao ?_;first|refine oa ?_)|refine oa ?_|refine ixmn ?_)|(refine gc ?_;first|(refine ci (fun hB=>?_) (fun hB=>?_) <;> try (exfalso;omega)))|refine sq ?_|refine rg ?_|refine xc ?_|refine nl ?_|refine sk ?_|refine bk ?_
  refine tka 0 ?_
  refine tka 1 ?_
  refine tka 2 ?_
  refine tkl 3 (cs:=[I t.sum,cv,ov]) (fun w h=>h.1) ?_
  refine tka 4 ?_
  refine tka 5 ?_
  refine tkl 6 (cs:=[I t.sum,cv,ov]) (fun w h=>h.1) ?_
  refine tka 7 ?_
  refine tka 8 ?_
  refine tka 9 ?_
  refine tkw 10 r ?_
  refine tka 11 ?_
  refine tka 12 ?_
  refine tkx 13 (len:=t.length) (fun w h=>h.2.1) ?_
  refine t1 14 ?_
  refine soi (m:=r) (l:=U.rest) (j:=i) ?_
  repeat' first|refine nl ?_
  refine te (fun w hw=>⟨pt_at memA hw,⟨_,has_sl hw hasA,by rw [Is_len];first | assumption | (rw [List.length_set];assumption)⟩,⟨_,has_sl hw hasA,by rw [Is_len];first | assumption | (rw [List.length_set];assumption)⟩,⟨_,has_sl hw hasA,by rw [Is_len];first | assumption | (rw [List.length_set];assumption)⟩⟩) ?_
  refine tkx 15 (len:=t.length) (fun w h=>h.2.2.1) ?_
  refine t1 16 ?_
  refine soi (m:=t.sum) (l:=U.cut) (j:=i) ?_
  repeat' first|refine nl ?_
  refine te (fun w hw=>⟨pt_at memA hw,⟨_,has_sl hw hasA,by rw [Is_len];first | assumption | (rw [List.length_set];assumption)⟩,⟨_,has_sl hw hasA,by rw [Is_len];first | assumption | (rw [List.length_set];assumption)⟩,⟨_,has_sl hw hasA,by rw [Is_len];first | assumption | (rw [List.length_set];assumption)⟩⟩) ?_
  refine tkx 17 (len:=t.length) (fun w h=>h.2.2.2) ?_
  refine t1 18 ?_
  refine soi (m:=i) (l:=U.oth) (j:=i) ?_
  repeat' first|refine nl ?_
  refine te (fun w hw=>⟨pt_at memA hw,⟨_,has_sl hw hasA,by rw [Is_len];first | assumption | (rw [List.length_set];assumption)⟩,⟨_,has_sl hw hasA,by rw [Is_len];first | assumption | (rw [List.length_set];assumption)⟩,⟨_,has_sl hw hasA,by rw [Is_len];first | assumption | (rw [List.length_set];assumption)⟩⟩) ?_
  refine t0 ?_
  have hu1':i < (U.rest.set i r).length:=by rw [List.length_set,hu1];exact hlt
  by_cases c1:r < t.sum
  ·rw [if_pos c1,if_pos c1] at hst
   repeat' first|(refine gca ?_;first|(refine ca (push_tr pb bv hb i hrb.1 (by omega)) ?_;rintro _ _ ⟨bv',hb',rfl,hh,hp⟩))|refine lie hq ?_|(refine wo ?_;first|(refine ao ?_;first|refine aw ?_|refine oa ?_)|refine oa ?_|refine ixmn ?_)|(refine gc ?_;first|(refine ci (fun hB=>?_) (fun hB=>?_) <;> try (exfalso;omega)))|refine sq ?_|refine rg ?_|refine xc ?_|refine nl ?_|refine bk ?_|refine xb ?_
   refine lp ⟨i + 1,hb',ha,bv',av⟩ ⟨by dsimp only;omega,by dsimp only;rw [hst];exact hrb.push i hh hp,by dsimp only;rw [hst];exact hra⟩ (hf:=by dsimp only;rw [hst];exact fitA)
  ·rw [if_neg c1,if_neg c1] at hst
   by_cases c2:r > t.sum
   ·rw [if_pos c2] at hst
    repeat' first|(refine gca ?_;first|(refine ca (push_tr pa av ha i hra.1 (by omega)) ?_;rintro _ _ ⟨av',ha',rfl,hh,hp⟩))|refine lie hq ?_|(refine wo ?_;first|(refine ao ?_;first|refine aw ?_|refine oa ?_)|refine oa ?_|refine ixmn ?_)|(refine gc ?_;first|(refine ci (fun hB=>?_) (fun hB=>?_) <;> try (exfalso;omega)))|refine sq ?_|refine rg ?_|refine xc ?_|refine nl ?_|refine bk ?_|refine xb ?_
    refine lp ⟨i + 1,hb,ha',bv,av'⟩ ⟨by dsimp only;omega,by dsimp only;rw [hst];exact hrb,by dsimp only;rw [hst];exact hra.push i hh hp⟩ (hf:=by dsimp only;rw [hst];exact fitA)
   ·rw [if_neg c2] at hst
    repeat' first|refine lie hq ?_|(refine wo ?_;first|(refine ao ?_;first|refine aw ?_|refine oa ?_)|refine oa ?_|refine ixmn ?_)|(refine gc ?_;first|(refine ci (fun hB=>?_) (fun hB=>?_) <;> try (exfalso;omega)))|refine sq ?_|refine rg ?_|refine xc ?_|refine nl ?_|refine sk ?_|refine bk ?_|refine xb ?_
    refine lp ⟨i + 1,hb,ha,bv,av⟩ ⟨by dsimp only;omega,by dsimp only;rw [hst];exact hrb,by dsimp only;rw [hst];exact hra⟩ (hf:=by dsimp only;rw [hst];exact fitA)
 ·obtain rfl:i = t.length:=by omega
  have hI:=(hall t.length (Nat.le_refl _)).done hpos
  have hL:=hln t.length
  have hF:alEnd t.sum (alIn t t.sum t.length) = alF t:=rfl
  clear hall hln hlt hi
  repeat' first|(refine wo ?_;first|(refine ao ?_;first|refine oa ?_))|(refine gc ?_;first|(refine ci (fun hB=>?_) (fun hB=>?_) <;> try (exfalso;omega)))|refine sq ?_|refine rg ?_|refine xc ?_|refine nl ?_|refine bk ?_|refine xe ?_
  generalize alIn t t.sum t.length = U at *
  refine TC.loop (ι:=MkH) (fun _=>[]) (fun g=>[own 3 rv (Is g.u.rest),own 3 cv (Is g.u.cut),own 3 ov (Is g.u.oth),pt pb [g.bv] THp,own 3 g.bv (Is g.hb),pt pa [g.av] THp,own 3 g.av (Is g.ha)])
   (fun g=>AlI t t.sum g.u∧g.u.B.length + g.u.A.length ≤ t.length∧Rep g.hb g.u.B∧Rep g.ha g.u.A∧alEnd t.sum g.u = alF t) (fun g=>alMu g.u) ⟨U,hb,ha,bv,av⟩ [2,4,5,6,7,8,9] ⟨hI,hL,hrb,hra,hF⟩ ?_
  clear hI hL hrb hra hF
  rintro ⟨u,hb,ha,bv,av⟩ ⟨hI,hL,hrb,hra,hF⟩
  dsimp only at hI hL hrb hra hF ⊢
  have hmu:=fun (i j:Int) (B A:List Int) (h1:u.B = i :: B) (h2:u.A = j :: A)=>alStep_mu (all:=t.sum) h1 h2
  have hsl:=fun (i j:Int) (B A:List Int) (h1:u.B = i :: B) (h2:u.A = j :: A)=>alStep_len (all:=t.sum) h1 h2
  refine TC.leni (v:=bv) (l:=hb) fun hbl0=>?_
  cases hB:u.B with
  | nil=>
   have hbl:=hrb.len
   rw [hB,List.length_nil] at hbl
   rw [alEnd_stop hB] at hF
   subst hF
   repeat' first|refine lda ?_|refine srz ?_|(refine wo ?_;first|(refine ao ?_;first|refine oa ?_)|refine oa ?_|refine ld ?_|refine lnm ?_)|(refine gc ?_;first|(refine ci (fun hB=>?_) (fun hB=>?_) <;> try (exfalso;omega)))|refine sq ?_|refine rg ?_|refine xc ?_|refine nl ?_|refine xe ?_|refine rt ?_
   exact rca ⟨cv,ov,rfl,rfl,hcv,hov⟩
  | cons i B=>
   obtain ⟨j,A,hA⟩ : ∃ j A,u.A = j :: A:=by
    cases hA:u.A with
    | nil=>exact absurd hA (hI.more (by rw [hB];simp))
    | cons j A=>exact ⟨j,A,rfl⟩
   have hmu:=hmu i j B A hB hA
   have hsl:=hsl i j B A hB hA
   have hI':=hI.step (i:=i) (j:=j) (B:=B) (A:=A) (by omega) hB hA
   have hF':=(alEnd_step (all:=t.sum) hB hA).symm.trans hF
   have hbi:=hI.B i (by rw [hB];simp)
   have haj:=hI.A j (by rw [hA];simp)
   have hij:i ≠ j:=fun e=>by subst e;omega
   have hu1:=hI.lr
   have hu2:=hI.lc
   have hu3:=hI.lo
   have hbl:=hrb.len
   have hal:=hra.len
   rw [hB] at hrb hbl hL hsl
   rw [hA] at hra hal hL hsl
   have hbh:=hrb.head
   have hah:=hra.head
   rw [List.length_cons] at hbl hal hL hsl
   rw [List.length_cons] at hL hsl
   have hst:alStep t.sum u i j B A = ⟨u.rest.set j.toNat (u.rest.getD j.toNat 0 - (t.sum - u.rest.getD i.toNat 0)),u.cut.set i.toNat (u.rest.getD i.toNat 0),u.oth.set i.toNat j,if u.rest.getD j.toNat 0 - (t.sum - u.rest.getD i.toNat 0) > t.sum then B else if u.rest.getD j.toNat 0 - (t.sum - u.rest.getD i.toNat 0) < t.sum then srt (j :: B) else B,if u.rest.getD j.toNat 0 - (t.sum - u.rest.getD i.toNat 0) > t.sum then j :: A else A⟩:=rfl
   clear hI hF hB hA
   generalize alStep t.sum u i j B A = u' at *
   generalize hri:u.rest.getD i.toNat 0 = ri at *
   generalize hrj:u.rest.getD j.toNat 0 = rj at *
   generalize hre:rj - (t.sum - ri) = r at *
   obtain ⟨⟨i0,i1⟩,i2,i3⟩:=hbi
   obtain ⟨⟨j0,j1⟩,j2,j3,j4⟩:=haj
   have hq:=setI_get u.rest j.toNat r (by omega)
   have hu1':(u.rest.set j.toNat r).length = t.length:=by rw [List.length_set];exact hu1
   repeat' first|refine rs (id:=17) (fun w=>w.heap[pa]? = some (.cells #[av] THp (0,0))∧Sl w av (Is ha)) ?_ (fun w hw=>⟨pt_at memA hw,has_sl hw hasA⟩)|(refine wo ?_;first|(refine ao ?_;first|refine oa ?_)|refine ld ?_|refine lnm ?_)|(refine gc ?_;first|(refine ci (fun hB=>?_) (fun hB=>?_) <;> try (exfalso;omega)))|refine sq ?_|refine rg ?_|refine xc ?_|refine nl ?_|refine sk ?_|refine bk ?_
   refine tkl 1 (cs:=[av]) (fun w h=>h.1) ?_
   refine tkx 2 (len:=ha.length) (fun w h=>⟨_,h.2,Is_len ha⟩) ?_
   refine tkli 3 (fun w h=>h.2) hah ?_
   refine t1 0 ?_
   refine ca (pop_tr pb bv hb hrb.1 (by omega) (by omega)) ?_
   rintro _ _ ⟨bv1,hb1,rfl,rfl,hh1,hp1⟩
   have hrb1:=hrb.pop hh1 hp1
   have hbl1:=hrb1.len
   rw [hbh]
   repeat' first|refine nl ?_
   refine te (fun w hw=>⟨pt_at memA hw,has_sl hw hasA⟩) ?_
   refine tka 4 ?_
   refine tka 5 ?_
   refine t0 ?_
   repeat' first|refine rs (id:=18) (fun w=>w.heap[bo]? = some (.cells #[I t.sum,cv,ov] TAl (0,0))∧(∃ xs,Sl w cv xs∧xs.length = t.length)∧(∃ xs,Sl w ov xs∧xs.length = t.length)∧Sl w rv (Is u.rest)) ?_ (fun w hw=>⟨pt_at memA hw,⟨_,has_sl hw hasA,by rw [Is_len];first | assumption | (rw [List.length_set];assumption)⟩,⟨_,has_sl hw hasA,by rw [Is_len];first | assumption | (rw [List.length_set];assumption)⟩,has_sl hw hasA⟩)|refine sq ?_|refine xc ?_
   refine tka 0 ?_
   refine tkl 1 (cs:=[I t.sum,cv,ov]) (fun w h=>h.1) ?_
   refine tka 2 ?_
   refine tka 3 ?_
   refine tkl 4 (cs:=[I t.sum,cv,ov]) (fun w h=>h.1) ?_
   refine tka 5 ?_
   refine tka 6 ?_
   refine tka 7 ?_
   refine tkx 8 (len:=t.length) (fun w h=>⟨_,h.2.2.2,by rw [Is_len,hu1]⟩) ?_
   refine tkli 9 (fun w h=>h.2.2.2) hri ?_
   refine tka 10 ?_
   refine tkx 11 (len:=t.length) (fun w h=>h.2.1) ?_
   refine t1 12 ?_
   refine soi (m:=ri) (l:=u.cut) (j:=i.toNat) ?_
   repeat' first|refine nl ?_
   refine te (fun w hw=>⟨pt_at memA hw,⟨_,has_sl hw hasA,by rw [Is_len];first | assumption | (rw [List.length_set];assumption)⟩,⟨_,has_sl hw hasA,by rw [Is_len];first | assumption | (rw [List.length_set];assumption)⟩,has_sl hw hasA⟩) ?_
   refine tkx 13 (len:=t.length) (fun w h=>h.2.2.1) ?_
   refine t1 14 ?_
   refine soi (m:=j) (l:=u.oth) (j:=i.toNat) ?_
   repeat' first|refine nl ?_
   refine te (fun w hw=>⟨pt_at memA hw,⟨_,has_sl hw hasA,by rw [Is_len];first | assumption | (rw [List.length_set];assumption)⟩,⟨_,has_sl hw hasA,by rw [Is_len];first | assumption | (rw [List.length_set];assumption)⟩,has_sl hw hasA⟩) ?_
   refine t0 ?_
   repeat' first|refine rs (id:=19) (fun w=>∃ xs,Sl w rv xs∧xs.length = t.length) ?_ (fun w hw=>⟨_,has_sl hw hasA,by rw [Is_len];first | assumption | (rw [List.length_set];assumption)⟩)|refine sq ?_|refine xc ?_
   refine tka 0 ?_
   refine tka 1 ?_
   refine tkx 2 (len:=t.length) (fun w h=>h) ?_
   refine tka 4 ?_
   refine tka 5 ?_
   refine tka 6 ?_
   refine tkx 7 (len:=t.length) (fun w h=>h) ?_
   refine t2 3 8 ?_ ?_
   ·refine lie hrj ?_
    repeat' first|refine nl ?_
    refine te (fun w hw=>⟨_,has_sl hw hasA,by rw [Is_len];first | assumption | (rw [List.length_set];assumption)⟩) ?_
    refine t1 8 ?_
    refine lie hri ?_
    repeat' first|refine nl ?_
    refine te (fun w hw=>⟨_,has_sl hw hasA,by rw [Is_len];first | assumption | (rw [List.length_set];assumption)⟩) ?_
    refine tkw 9 (t.sum - ri) ?_
    refine tkw 10 r ?_
    refine tkx 11 (len:=t.length) (fun w h=>h) ?_
    refine t1 12 ?_
    refine soi (m:=r) (l:=u.rest) (j:=j.toNat) ?_
    repeat' first|refine nl ?_
    refine te (fun w hw=>⟨_,has_sl hw hasA,by rw [Is_len];first | assumption | (rw [List.length_set];assumption)⟩) ?_
    refine t0 ?_
    by_cases c1:r > t.sum
    ·rw [if_pos c1,if_pos c1] at hst
     repeat' first|refine lie hq ?_|(refine wo ?_;first|(refine ao ?_;first|refine oa ?_)|refine oa ?_|refine ixm ?_)|(refine gc ?_;first|(refine ci (fun hB=>?_) (fun hB=>?_) <;> try (exfalso;omega)))|refine sq ?_|refine rg ?_|refine xc ?_|refine nl ?_|refine xe ?_
     refine lp ⟨u',hb1,ha,bv1,av⟩ ⟨hI',by dsimp only;omega,by dsimp only;rw [hst];exact hrb1,by dsimp only;rw [hst];exact hra,hF'⟩ (hf:=by dsimp only;rw [hst];exact fitA) (hlt:=hmu)
    ·rw [if_neg c1,if_neg c1] at hst
     by_cases c2:r < t.sum
     ·rw [if_pos c2] at hst
      repeat' first|(refine gca ?_;first|(refine ca (pop_tr pa av ha hra.1 (by omega) (by omega)) ?_;rintro _ _ ⟨av1,ha1,rfl,rfl,hh2,hp2⟩;have hra1:=hra.pop hh2 hp2)|(refine ca (push_tr pb bv1 hb1 j hrb1.1 (by omega)) ?_;rintro _ _ ⟨bv2,hb2,rfl,hh3,hp3⟩;have hrb2:=hrb1.push j hh3 hp3))|refine lie hq ?_|(refine wo ?_;first|(refine ao ?_;first|refine oa ?_)|refine oa ?_|refine ixm ?_)|(refine gc ?_;first|(refine ci (fun hB=>?_) (fun hB=>?_) <;> try (exfalso;omega)))|refine sq ?_|refine rg ?_|refine xc ?_|refine nl ?_|refine sk ?_|refine xb ?_
      refine lp ⟨u',hb2,ha1,bv2,av1⟩ ⟨hI',by dsimp only;omega,by dsimp only;rw [hst];exact hrb2,by dsimp only;rw [hst];exact hra1,hF'⟩ (hf:=by dsimp only;rw [hst];exact fitA) (hlt:=hmu)
     ·rw [if_neg c2] at hst
      repeat' first|(refine gca ?_;first|(refine ca (pop_tr pa av ha hra.1 (by omega) (by omega)) ?_;rintro _ _ ⟨av1,ha1,rfl,rfl,hh2,hp2⟩;have hra1:=hra.pop hh2 hp2))|refine lie hq ?_|(refine wo ?_;first|(refine ao ?_;first|refine oa ?_)|refine oa ?_|refine ixm ?_)|(refine gc ?_;first|(refine ci (fun hB=>?_) (fun hB=>?_) <;> try (exfalso;omega)))|refine sq ?_|refine rg ?_|refine xc ?_|refine nl ?_|refine sk ?_|refine xb ?_
      refine lp ⟨u',hb1,ha1,bv1,av1⟩ ⟨hI',by dsimp only;omega,by dsimp only;rw [hst];exact hrb1,by dsimp only;rw [hst];exact hra1,hF'⟩ (hf:=by dsimp only;rw [hst];exact fitA) (hlt:=hmu)
   ·refine lie hri ?_
    repeat' first|refine nl ?_
    refine te (fun w hw=>⟨_,has_sl hw hasA,by rw [Is_len];first | assumption | (rw [List.length_set];assumption)⟩) ?_
    refine tkw 9 (t.sum - ri) ?_
    refine t1 3 ?_
    refine lie hrj ?_
    repeat' first|refine nl ?_
    refine te (fun w hw=>⟨_,has_sl hw hasA,by rw [Is_len];first | assumption | (rw [List.length_set];assumption)⟩) ?_
    refine tkw 10 r ?_
    refine tkx 11 (len:=t.length) (fun w h=>h) ?_
    refine t1 12 ?_
    refine soi (m:=r) (l:=u.rest) (j:=j.toNat) ?_
    repeat' first|refine nl ?_
    refine te (fun w hw=>⟨_,has_sl hw hasA,by rw [Is_len];first | assumption | (rw [List.length_set];assumption)⟩) ?_
    refine t0 ?_
    by_cases c1:r > t.sum
    ·rw [if_pos c1,if_pos c1] at hst
     repeat' first|refine lie hq ?_|(refine wo ?_;first|(refine ao ?_;first|refine oa ?_)|refine oa ?_|refine ixm ?_)|(refine gc ?_;first|(refine ci (fun hB=>?_) (fun hB=>?_) <;> try (exfalso;omega)))|refine sq ?_|refine rg ?_|refine xc ?_|refine nl ?_|refine xe ?_
     refine lp ⟨u',hb1,ha,bv1,av⟩ ⟨hI',by dsimp only;omega,by dsimp only;rw [hst];exact hrb1,by dsimp only;rw [hst];exact hra,hF'⟩ (hf:=by dsimp only;rw [hst];exact fitA) (hlt:=hmu)
    ·rw [if_neg c1,if_neg c1] at hst
     by_cases c2:r < t.sum
     ·rw [if_pos c2] at hst
      repeat' first|(refine gca ?_;first|(refine ca (pop_tr pa av ha hra.1 (by omega) (by omega)) ?_;rintro _ _ ⟨av1,ha1,rfl,rfl,hh2,hp2⟩;have hra1:=hra.pop hh2 hp2)|(refine ca (push_tr pb bv1 hb1 j hrb1.1 (by omega)) ?_;rintro _ _ ⟨bv2,hb2,rfl,hh3,hp3⟩;have hrb2:=hrb1.push j hh3 hp3))|refine lie hq ?_|(refine wo ?_;first|(refine ao ?_;first|refine oa ?_)|refine oa ?_|refine ixm ?_)|(refine gc ?_;first|(refine ci (fun hB=>?_) (fun hB=>?_) <;> try (exfalso;omega)))|refine sq ?_|refine rg ?_|refine xc ?_|refine nl ?_|refine sk ?_|refine xb ?_
      refine lp ⟨u',hb2,ha1,bv2,av1⟩ ⟨hI',by dsimp only;omega,by dsimp only;rw [hst];exact hrb2,by dsimp only;rw [hst];exact hra1,hF'⟩ (hf:=by dsimp only;rw [hst];exact fitA) (hlt:=hmu)
     ·rw [if_neg c2] at hst
      repeat' first|(refine gca ?_;first|(refine ca (pop_tr pa av ha hra.1 (by omega) (by omega)) ?_;rintro _ _ ⟨av1,ha1,rfl,rfl,hh2,hp2⟩;have hra1:=hra.pop hh2 hp2))|refine lie hq ?_|(refine wo ?_;first|(refine ao ?_;first|refine oa ?_)|refine oa ?_|refine ixm ?_)|(refine gc ?_;first|(refine ci (fun hB=>?_) (fun hB=>?_) <;> try (exfalso;omega)))|refine sq ?_|refine rg ?_|refine xc ?_|refine nl ?_|refine sk ?_|refine xb ?_
      refine lp ⟨u',hb1,ha1,bv1,av1⟩ ⟨hI',by dsimp only;omega,by dsimp only;rw [hst];exact hrb1,by dsimp only;rw [hst];exact hra1,hF'⟩ (hf:=by dsimp only;rw [hst];exact fitA) (hlt:=hmu)
end Go.Art
namespace Go.Art
open Go Go.Proofs Go.RowKit
theorem eq_of_getDN {xs ys:List Nat} (hl:xs.length = ys.length) (h:∀ j,j < xs.length→xs.getD j 0 = ys.getD j 0):xs = ys:=by
 refine List.ext_getElem hl fun i h1 h2=>?_
 have:=h i h1
 simpa [List.getD_eq_getElem?_getD,h1,h2] using this
attribute [local irreducible] Fit pt own ro vw mpc lpt vels rels mow lrc dfr
attribute [local irreducible] lmp lme mit velg relg
theorem SameNat_tr (a b:Value) (xs ys:List Nat):Tr Tryz.prog 66 [a,b] [vw a (Us xs),vw b (Us ys)] [] fun v D=>v = .bool (decide (xs = ys))∧D = []:=by
 refine Tr.enter env _ Tryz.func66 (by kernel_rfl) rfl Tryz.ntmps66 rfl (by repeat (first | exact has00 | refine has01 ?_)) fun w0=>?_
 refine TC.lenu (l:=xs) fun hl=>?_
 repeat' first|(refine wo ?_;first|(refine ao ?_;first|refine oa ?_)|refine oa ?_|refine lnm ?_)|(refine gc ?_;first|(refine cn (fun hB=>?_) (fun hB=>?_) <;> try (exfalso;omega)))|refine sq ?_|refine rg ?_|refine xc ?_|refine nl ?_|refine sk ?_|refine bk ?_|refine rt ?_
 ·refine r1 ⟨?_,rfl⟩
  rw [decide_eq_false];intro e;subst e;omega
 ·refine TC.loop (ι:=Nat) (fun k=>[(5,I k)]) (fun _=>[]) (fun k=>k ≤ xs.length∧∀ j,j < k→xs.getD j 0 = ys.getD j 0) (fun k=>xs.length - k) 0 [0,1] ⟨by omega,by omega⟩ ?_
  rintro k ⟨hk,heq⟩
  repeat' first|(refine wo ?_;first|(refine ao ?_;first|refine aw ?_|refine oa ?_)|refine oa ?_|refine lnm ?_)|(refine gc ?_;first|(refine ci (fun hB=>?_) (fun hB=>?_) <;> try (exfalso;omega))|(refine cn (fun hB=>?_) (fun hB=>?_) <;> try (exfalso;omega)))|refine sq ?_|refine rg ?_|refine xc ?_|refine nl ?_|refine sk ?_|refine bk ?_|refine xe ?_|refine rt ?_|refine xb ?_|refine rq ?_|refine nq ?_|(refine wq ?_;first|(refine qao ?_;first|refine qa ?_)|refine qlu ?_|refine qa ?_|refine qixmn ?_)
  ·refine r1 ⟨?_,rfl⟩
   rw [decide_eq_false];intro e;exact hB (by rw [e])
  ·refine lp (k + 1) ⟨by omega,fun j hj=>?_⟩
   by_cases hjk:j < k
   ·exact heq j hjk
   ·obtain rfl:j = k:=by omega
    omega
  ·refine r1 ⟨?_,rfl⟩
   rw [decide_eq_true]
   exact eq_of_getDN (by omega) (fun j hj=>heq j (by omega))
theorem SameWhole_tr (b1 b2:Bool) (o1 o2:Value) (l1 l2:List Nat):Tr Tryz.prog 65 [.agg #[.bool b1,o1],.agg #[.bool b2,o2]] [vw o1 (Us l1),vw o2 (Us l2)] [] fun v D=>v = .bool (decide (b1 = b2∧l1 = l2))∧D = []:=by
 refine Tr.enter env _ Tryz.func65 (by kernel_rfl) rfl Tryz.ntmps65 rfl (by repeat (first | exact has00 | refine has01 ?_)) fun w0=>?_
 repeat' first|(refine gca ?_;first|(refine ca (SameNat_tr o1 o2 l1 l2) ?_;rintro _ _ ⟨rfl,rfl⟩))|refine bx fun q=>?_|(refine wo ?_;first|(refine ao ?_;first|refine ibe ?_)|refine oa ?_|refine ld ?_|refine gy ?_|refine gn ?_|(refine gsi (fun hB=>?_) (fun hB=>?_) <;> try (exfalso;omega)))|refine sq ?_|refine rg ?_|refine xc ?_|refine nl ?_|refine rt ?_
 ·have e:b1 = b2:=by simpa using hB
  refine r1 ⟨?_,rfl⟩
  congr 1;exact decide_eq_decide.2 ⟨fun h=>⟨e,h⟩,fun h=>h.2⟩
 ·have e:¬ b1 = b2:=by simpa using hB
  refine r1 ⟨?_,rfl⟩
  rw [decide_eq_false fun h=>e h.1]
theorem SameRatio_tr (t1 t2:Fr3) (n1 d1 n2 d2:Value):Tr Tryz.prog 22 [.agg #[.bool t1.1,n1,d1],.agg #[.bool t2.1,n2,d2]] [vw n1 (Us t1.2.1),vw d1 (Us t1.2.2),vw n2 (Us t2.2.1),vw d2 (Us t2.2.2)] []
  fun v D=>v = .bool (decide (t1 = t2))∧D = []:=by
 obtain ⟨b1,x1,y1⟩:=t1
 obtain ⟨b2,x2,y2⟩:=t2
 dsimp only
 refine Tr.enter env _ Tryz.func22 (by kernel_rfl) rfl Tryz.ntmps22 rfl (by repeat (first | exact has00 | refine has01 ?_)) fun w0=>?_
 repeat' first|(refine gca ?_;first|(refine ca (SameWhole_tr b1 b2 n1 n2 x1 x2) ?_;rintro _ _ ⟨rfl,rfl⟩)|(refine ca (SameNat_tr d1 d2 y1 y2) ?_;rintro _ _ ⟨rfl,rfl⟩))|refine bx fun q=>?_|refine lda ?_|(refine wo ?_;first|refine oa ?_|refine ld ?_|refine gy ?_|refine gn ?_|(refine gsi (fun hB=>?_) (fun hB=>?_) <;> try (exfalso;omega)))|refine sq ?_|refine rg ?_|refine xc ?_|refine nl ?_|refine rt ?_
 ·refine r1 ⟨?_,rfl⟩
  congr 1;refine decide_eq_decide.2 ⟨fun h=>by rw [hB.1,hB.2,h],fun h=>by injection h with _ h;injection h⟩
 ·refine r1 ⟨?_,rfl⟩
  rw [decide_eq_false fun h=>hB (by injection h with h1 h;injection h with h2 _;exact ⟨h1,h2⟩)]
end Go.Art
namespace Go.Art
open Go Go.Proofs Go.RowKit
attribute [local irreducible] Fit pt own ro vw mpc lpt vels rels mow lrc dfr
attribute [local irreducible] lmp lme mit velg relg
end Go.Art
namespace Go.Art
open Go Go.Proofs Go.RowKit
attribute [local irreducible] Fit pt own ro vw mpc lpt vels rels mow lrc dfr
end Go.Art
namespace Go.Art
open Go Go.Proofs Go.RowKit
attribute [local irreducible] Fit pt own ro vw mpc lpt vels rels mow lrc dfr
attribute [local irreducible] lmp lme mit velg relg
end Go.Art
namespace Go.Art
open Go Go.Proofs Go.RowKit
attribute [local irreducible] Fit pt own ro vw mpc lpt vels rels mow lrc dfr
attribute [local irreducible] lmp lme mit velg relg
end Go.Art
namespace Go.Art
open Go Go.Proofs Go.RowKit
attribute [local irreducible] Fit pt own ro vw mpc lpt vels rels mow lrc dfr
attribute [local irreducible] lmp lme mit velg relg
end Go.Art
namespace Go.Art
open Go Go.Proofs Go.RowKit
section
variable {P:Program} {E:Env P} {n:Sh} {X:Cx} {s:List K} {fr:Fr} {A:List Ch} {ops:Array Oper} {rest:List Oper} {d:Nat} {ty t:TypeId} {pos:String} {after:Array Edge} {x:Operand} {dt:TypeDesc} {sz by_:Nat} {z:Value} {cs vs:List Value} {b j:Nat} {T:TypeId}
end
attribute [local irreducible] Fit pt own ro vw mpc lpt vels rels mow lrc dfr
attribute [local irreducible] lmp lme mit velg relg
end Go.Art
namespace Go.Art
open Go Go.Proofs Go.RowKit
def madeT (tbl:List Int) (k:Nat):List Int:=(tbl.take k).map fun x=>pick x 6
section
variable {P:Program} {E:Env P} {X:Cx} {fr:Fr} {A D G:List Ch} {n:Sh}
end
attribute [local irreducible] Fit pt own ro vw mpc lpt vels rels mow lrc dfr
attribute [local irreducible] lmp lme mit velg relg bnd owl madeT
section
variable {P:Program} {E:Env P} {n:Sh} {X:Cx} {s:List K} {fr:Fr} {A:List Ch} {ops:Array Oper} {rest:List Oper} {d:Nat} {ty tx asr:TypeId} {pos:String} {after:Array Edge} {v:Value} {x:Operand} {dd:TypeDesc}
end
end Go.Art
namespace Go.Art
open Go Go.Proofs Go.RowKit
attribute [local irreducible] Fit pt own ro vw mpc lpt vels rels mow lrc dfr
attribute [local irreducible] lmp lme mit velg relg bnd owl dfrl
end Go.Art
namespace Go.Art
open Go Go.Proofs Go.RowKit
theorem Tr.pre {P:Program} {f:FuncId} {args:List Value} {pre pre' A:List Ch} {R:Value→List Ch→Prop} (h:Tr P f args pre A R) (hp:∀ c ∈ pre,Has pre' c) (hl:∀ c ∈ pre',∀ b,¬ c.wr b∧¬ c.rd b):Tr P f args pre' A R:=
 ⟨fun w hw=>h.run w (lend (hw.perm List.perm_append_comm) hp),hl⟩
theorem FAdd2_tr (q r:Rat) (lv v1 v2 v3 v4:Value) (hq:FB q 8589934592) (hr:FB r 8589934592) :
  Tr Tryz.prog 32 [lv] [vwf lv 2 (rrow q (v1,v2) ++ rrow r (v3,v4)),vw v1 (Us (dg q.num.natAbs)),vw v2 (Us (dg q.den)),vw v3 (Us (dg r.num.natAbs)),vw v4 (Us (dg r.den))] [] (FQ2 (q + r) 0):=by
 have h:=FAdd_tr lv [q,r] [(v1,v2),(v3,v4)] rfl (fun i hi=>by
  match i,hi with
  | 0,_=>exact hq
  | 1,_=>exact hr) (fun i hi=>by
  match i,hi with
  | 0,_=>exact ⟨by rw [show (([q,r].take 0).foldl (· + ·) (0:Rat)).num.natAbs = 0 from rfl,dg_zero];exact Nat.zero_le _,by rw [show (([q,r].take 0).foldl (· + ·) (0:Rat)).den = 1 from rfl];exact Nat.le_trans (dg_len1 (by decide)) (by decide)⟩
  | 1,_=>
   show FB (0 + q) _
   rw [Rat.zero_add];exact hq)
 rw [show [q,r].foldl (· + ·) (0:Rat) = q + r by show 0 + q + r = q + r;rw [Rat.zero_add]] at h
 refine h.pre ?_ (by repeat (first | exact has00 | refine has01 ?_))
 refine has1 (has_vwf (List.Mem.head _)) (has1 (has_vfr_cons (has_vw (by simp)) (has_vw (by simp)) (has_vfr_cons (has_vw (by simp)) (has_vw (by simp)) has_vfr_nil)) has0)
attribute [local irreducible] Fit pt own ro vw mpc lpt vels rels mow lrc dfr
attribute [local irreducible] lmp lme mit velg relg bnd owl madeT
end Go.Art
namespace Go.Art
open Go Go.Proofs Go.RowKit
theorem Im.tail (c:Ch) (A:List Ch):Im (c :: A) A:=Im.trans (Im.perm (List.perm_append_comm (l₁:=[c]) (l₂:=A))) (Im.drop A [c])
theorem flat_set {sz:Nat}:∀ {rs:List (List Value)} {i:Nat} {r:List Value},(∀ r ∈ rs,r.length = sz)→i < rs.length→rs.flatten.take (sz * i) ++ r ++ rs.flatten.drop (sz * i + sz) = (rs.set i r).flatten
 | [],i,_,_,h=>absurd h (Nat.not_lt_zero _)
 | a :: rs,0,r,hl,_=>by
  have:=hl a (by simp)
  rw [List.flatten_cons,Nat.mul_zero,Nat.zero_add,List.take_zero,List.nil_append,List.drop_left' this,List.set_cons_zero,List.flatten_cons]
 | a :: rs,i + 1,r,hl,h=>by
  have ha:=hl a (by simp)
  have ih:=flat_set (rs:=rs) (i:=i) (r:=r) (fun r hr=>hl r (by simp [hr])) (by simpa using h)
  rw [List.set_cons_succ,List.flatten_cons,List.flatten_cons,← ih,show sz * (i + 1) = a.length + sz * i by rw [ha,Nat.mul_succ];omega,Nat.add_assoc,List.take_length_add_append,List.drop_length_add_append]
  simp [List.append_assoc]
theorem rows_len {qs:List Rat} {hs:List (Value × Value)}:∀ r ∈ List.zipWith rrow qs hs,r.length = 3:=fun r hr=>by
 obtain ⟨j,hj,rfl⟩:=List.mem_iff_getElem.1 hr
 rw [List.getElem_zipWith];rfl
theorem zip_set {qs:List Rat} {hs:List (Value × Value)} {q:Rat} {h:Value × Value}:∀ {i:Nat},(List.zipWith rrow qs hs).set i (rrow q h) = List.zipWith rrow (qs.set i q) (hs.set i h):=by
 induction qs generalizing hs with
 | nil=>intro i;simp
 | cons a r ih=>
  intro i
  cases hs with
  | nil=>simp
  | cons b s=>
   cases i with
   | zero=>simp
   | succ i=>simp [ih]
theorem rcs_set {qs:List Rat} {hs:List (Value × Value)} (hl:hs.length = qs.length) {i:Nat} (hi:i < qs.length) (q:Rat) (h:Value × Value):(rcs qs hs).take (3 * i) ++ rrow q h ++ (rcs qs hs).drop (3 * i + 3) = rcs (qs.set i q) (hs.set i h):=by
 unfold rcs
 rw [flat_set rows_len (by simp;omega),zip_set]
theorem rcs_len {qs:List Rat} {hs:List (Value × Value)} (hl:hs.length = qs.length):(rcs qs hs).length = qs.length * 3:=by
 induction qs generalizing hs with
 | nil=>simp [rcs]
 | cons q r ih=>
  cases hs with
  | nil=>simp at hl
  | cons h s=>
   have:=ih (hs:=s) (by simpa using hl)
   unfold rcs at *
   simp only [List.zipWith_cons_cons,List.flatten_cons,List.length_append,this,List.length_cons,List.length_nil]
   omega
theorem rcs_app {qs rs:List Rat} {hs gs:List (Value × Value)} (hl:hs.length = qs.length):rcs (qs ++ rs) (hs ++ gs) = rcs qs hs ++ rcs rs gs:=by
 unfold rcs
 rw [List.zipWith_append hl.symm,List.flatten_append]
theorem rcs_one (q:Rat) (h:Value × Value):rcs [q] [h] = rrow q h:=by simp [rcs]
theorem hp_len {hs:List (Value × Value)} {qs:List Rat} (hl:hs.length = qs.length):(hpc hs).length = (pcl qs).length:=by rw [hpc_len,pcl_len,hl]
theorem ofr_snoc {hs:List (Value × Value)} {qs:List Rat} (hl:hs.length = qs.length) (q:Rat) (v1 v2:Value) {A F:List Ch} (hf:Fit A [own T64 v1 (Us (dg q.num.natAbs)),own T64 v2 (Us (dg q.den)),ofr hs qs] F):Im A (ofr (hs ++ [(v1,v2)]) (qs ++ [q]) :: F):=by
 refine Im.trans hf ?_
 show Im (own T64 v1 (Us (dg q.num.natAbs)) :: own T64 v2 (Us (dg q.den)) :: owl T64 wU (hpc hs) (pcl qs) :: F) (owl T64 wU (hpc (hs ++ [(v1,v2)])) (pcl (qs ++ [q])) :: F)
 have h0:=hp_len hl
 rw [hpc_app,pcl_app,Us_eq,Us_eq]
 refine (Im.perm (List.Perm.swap _ _ _)).trans ((Im.cons _ (owl_snoc h0 v1 (Zs (dg q.num.natAbs)) F)).trans ?_)
 have:=owl_snoc (e:=T64) (g:=wU) (hs:=hpc hs ++ [v1]) (ls:=pcl qs ++ [Zs (dg q.num.natAbs)]) (by simp [h0]) v2 (Zs (dg q.den)) F
 rw [List.append_assoc,List.append_assoc] at this
 exact this
theorem has_ofr {F:List Ch} {hs:List (Value × Value)} {qs:List Rat} (hl:hs.length = qs.length) (h:ofr hs qs ∈ F):Has F (vfr hs qs):=has_owl (hp_len hl) h
def zrs (m:Nat):List Value:=(List.replicate m [Value.bool false,nS,nS]).flatten
theorem zrs_eq (m:Nat):(List.replicate m (Value.agg #[Value.bool false,Value.slice none 0 0,Value.slice none 0 0]).cells.toList).flatten = zrs m:=rfl
theorem zrs_zero:zrs 0 = []:=rfl
theorem zrs_step (m:Nat):(zrs (m + 1)).drop 3 = zrs m:=by unfold zrs;rw [List.replicate_succ,List.flatten_cons];exact List.drop_left' rfl
theorem rcs_fill {qs:List Rat} {hs:List (Value × Value)} (hl:hs.length = qs.length) (m:Nat) (q:Rat) (h:Value × Value):(rcs qs hs ++ zrs (m + 1)).take (3 * qs.length) ++ rrow q h ++ (rcs qs hs ++ zrs (m + 1)).drop (3 * qs.length + 3) = rcs (qs ++ [q]) (hs ++ [h]) ++ zrs m:=by
 have hL:(rcs qs hs).length = 3 * qs.length:=by rw [rcs_len hl];omega
 rw [List.take_left' hL,← hL,List.drop_length_add_append,zrs_step,rcs_app hl,rcs_one]
section
variable {P:Program} {E:Env P} {n:Sh} {X:Cx} {s:List K} {fr:Fr} {A A':List Ch} {ops:Array Oper} {rest:List Oper} {d m N sz by_:Nat} {ty t t' el:TypeId} {pos:String} {after:Array Edge} {v u z:Value} {x y:Operand} {xs vs:List Value} {dt:TypeDesc} {k1 k':IntKind} {w:World}
end
end Go.Art
namespace Go.Art
open Go Go.RowKit
def noDef (ops:Array Oper):Bool:=ops.all fun o=>match o.op with
 | .defer _=>false
 | _=>true
theorem noDef_spec {ops:Array Oper} (h:noDef ops = true) {j:Nat} {oj:Oper} (hj:ops[j]? = some oj):∀ c,oj.op ≠ .defer c:=fun c e=>by
 have:=(Array.all_eq_true.1 h) j (by
  rcases Nat.lt_or_ge j ops.size with h1 | h1
  ·exact h1
  ·rw [Array.getElem?_eq_none h1] at hj;cases hj)
 have h2:ops[j]'(by
  rcases Nat.lt_or_ge j ops.size with h1 | h1
  ·exact h1
  ·rw [Array.getElem?_eq_none h1] at hj;cases hj) = oj:=by
  have h3:=(Array.getElem?_eq_some_iff.1 hj).2
  exact h3
 rw [h2] at this
 simp only [e] at this
 cases this
section
variable {F:Fence} {m:Nat} {P:Program} {md:Region.Mode} {ops:Array Oper} {Q:Exit→Act→World→Prop} {S:World→Prop}
theorem upon_move {o:Oper} {a b:Act} {K K':Act→World→Prop} {r:Result Next} (h1:∀ u w,K (b.put o.dst u) w→K' (a.put o.dst u) w) (h2:∀ d w,K (({ b with defers:=d :: b.defers }:Act).put o.dst undef) w→K' (({ a with defers:=d :: a.defers }:Act).put o.dst undef) w)
  (h3:∀ c w,Q (.panic c) b w→Q (.panic c) a w) (h:o.uponIn F m P b K Q r):o.uponIn F m P a K' Q r:=by
 cases r with
 | ok x w'=>
  cases x with
  | value u=>exact h1 _ _ h
  | skip=>exact h1 _ _ h
  | defer d=>exact h2 _ _ h
  | enter f args=>exact ⟨h.1,CallsIn.mono h.2 fun e w'' he=>match e,he with
   | .returned u,he=>h1 _ _ he
   | .panicked c,he=>h3 _ _ he
   | .outgrown,he=>he⟩
  | row row args=>exact ⟨h.1,RowsIn.mono h.2 fun u w'' he=>h1 _ _ he⟩
  | round l f tmps assign body=>exact ⟨h.1,RoundIn.mono h.2 fun e w'' he=>match e,he with
   | .returned u,he=>h1 _ _ he
   | .panicked c,he=>h3 _ _ he
   | .outgrown,he=>he⟩
  | _=>exact h
 | halt x w'=>
  cases x with
  | panic v=>exact h3 _ _ h
  | _=>exact h
theorem upon_own {o:Oper} {a:Act} {K:Act→World→Prop} {r:Result Next} (h:o.uponIn F m P a K Q r):o.uponIn F m P a (fun a' w'=>(∃ u df,a' = ({ a with defers:=df }:Act).put o.dst u)∧K a' w') Q r:=
 upon_move (fun u w h=>⟨⟨u,a.defers,rfl⟩,h⟩) (fun d w h=>⟨⟨undef,d :: a.defers,rfl⟩,h⟩) (fun _ _ h=>h) h
theorem op_ownR {j:Nat} {oj:Oper} {K:Act→World→Prop} {a:Act} {w:World} (hj:ops[j]? = some oj) (h:wpOpIn F m P ops Q j K a w) :
  wpOpIn F m P ops Q j (fun a' w'=>(∃ u df,a' = ({ a with defers:=df }:Act).put oj.dst u)∧K a' w') a w:=by
 unfold wpOpIn at *
 simp only [hj] at *
 split
 ·rename_i hw
  rw [if_pos hw] at h
  exact ⟨h.1,upon_own h.2⟩
 ·rename_i hw
  rw [if_neg hw] at h
  exact ⟨h.1,⟨_,a.defers,rfl⟩,h.2⟩
theorem op_putR {j d:Nat} {oi oj:Oper} {v:Value} {K:Act→World→Prop} {a:Act} {w:World} (hnd:∀ c,oj.op ≠ .defer c) (hj:ops[j]? = some oj) (hdi:oi.dst = some d) (hap:oi.apart ops oj = true) (hsj:∀ cs b,oj.op ≠ .select cs b) (hQ:∀ c a w,¬ Q (.panic c) a w)
  (h:wpOpIn F m P ops Q j K (a.put oi.dst v) w):wpOpIn F m P ops Q j (fun a' w'=>K (a'.put oi.dst v) w') a w:=by
 obtain ⟨p1,p2,p3⟩:=Oper.apart_spec hap
 unfold wpOpIn at *
 simp only [hj] at *
 rw [wanted_put oj a oi.dst v p1,about_put oj w a oi.dst v p1] at h
 split
 ·rename_i hw
  rw [if_pos hw] at h
  have h1:=h.1
  have h2:=h.2
  rw [Oper.semAt_eq _ _ _ hnd,execOp_put oj hsj a oi.dst v p1] at h2
  rw [about_put oj w a oi.dst v p1] at h1
  refine ⟨h1,?_⟩
  rw [Oper.semAt_eq _ _ _ hnd]
  refine upon_move (fun u w hk=>?_) (fun dd w hk=>?_) (fun c w hk=>absurd hk (hQ c _ w)) h2
  ·rw [← Act.put_comm a v u p2];exact hk
  ·rw [← Act.put_comm _ v undef p2,← Act.put_defers];exact hk
 ·rename_i hw
  rw [if_neg hw] at h
  refine ⟨h.1,?_⟩
  rw [← Act.put_comm a v undef p2];exact h.2
theorem wpAnyS_takeR {i d:Nat} {o:Op} {ty:TypeId} {pos:String} {after:Array Edge} {v:Value} (hnd:noDef ops = true) (hi:ops[i]? = some ⟨some d,o,ty,pos,after,none⟩) (hs:Region.noSelect ops = true) (hQ:∀ c a w,¬ Q (.panic c) a w) :
  ∀ (fuel:Nat) (listed:Array Bool) (a:Act) (w:World),Region.free md ops listed i = true→(Region.ready md ops listed).contains i = true→YS P S ⟨some d,o,ty,pos,after,none⟩ v a→S w →
   wpAnyS F m P md ops Q S fuel (listed.setIfInBounds i true) (a.put (some d) v) w→wpAnyS F m P md ops Q S (fuel + 1) listed a w:=by
 have hsel:=fun j oj cs b (h:ops[j]? = some oj)=>Region.noSelect_spec hs j oj cs b h
 have now:∀ (K:Act→World→Prop) (a:Act) (w:World),YS P S ⟨some d,o,ty,pos,after,none⟩ v a→S w→K (a.put (some d) v) w→wpOpIn F m P ops Q i K a w:=fun K a w hy hS h=>by
  unfold wpOpIn
  have hn:∀ c,(⟨some d,o,ty,pos,after,none⟩ : Oper).op ≠ .defer c:=noDef_spec hnd hi
  simp only [hi,Region.wanted,if_true,Oper.wpIn]
  rw [Oper.semAt_eq _ _ _ hn,(hy w hS).1]
  exact ⟨fun f hf=>(by rw [(hy w hS).2] at hf;cases hf),h⟩
 have gen:∀ (fuel:Nat) (listed:Array Bool) (a:Act) (w:World),(∀ j oj,ops[j]? = some oj→j ≠ i→listed.getD j true = false→(∀ e ∈ oj.after,Region.binds md e = true→e.on ≠ i)→Oper.apart ops ⟨some d,o,ty,pos,after,none⟩ oj = true) →
   i ∈ Region.ready md ops listed→YS P S ⟨some d,o,ty,pos,after,none⟩ v a→S w→wpAnyS F m P md ops Q S fuel (listed.setIfInBounds i true) (a.put (some d) v) w→wpAnyS F m P md ops Q S (fuel + 1) listed a w:=by
  intro fuel
  induction fuel with
  | zero=>
   intro listed a w _ hr hy hS H
   refine ⟨fun h=>(by rw [h] at hr;cases hr),fun j hj=>?_⟩
   by_cases hji:j = i
   ·subst hji;exact now _ a w hy hS ⟨hS,H⟩
   ·have:=ready_mono hj hji
    rw [H.1] at this
    cases this
  | succ fuel ih=>
   intro listed a w hfree hr hy hS H
   refine ⟨fun h=>(by rw [h] at hr;cases hr),fun j hj=>?_⟩
   by_cases hji:j = i
   ·subst hji;exact now _ a w hy hS ⟨hS,H⟩
   ·obtain ⟨hjun,oj,hoj,hall⟩:=mem_ready.1 hj
    have hnot:∀ e ∈ oj.after,Region.binds md e = true→e.on ≠ i:=fun e he hb heq=>by
     have h1:=hall e he hb
     have h0:=(mem_ready.1 hr).1
     rw [heq] at h1
     rcases Nat.lt_or_ge i listed.size with h' | h'
     ·simp [h'] at h0 h1;rw [h0] at h1;cases h1
     ·simp [Array.getElem?_eq_none h'] at h1
    have hap:=hfree j oj hoj hji hjun hnot
    obtain ⟨p1,p2,p3⟩:=Oper.apart_spec hap
    have h2:=op_putR (oi:=⟨some d,o,ty,pos,after,none⟩) (noDef_spec hnd hoj) hoj rfl hap (fun cs b=>hsel j oj cs b hoj) hQ (H.2 j (ready_mono hj hji))
    have h3:=op_ownR hoj h2
    refine wpOpIn_mono (fun a' w' h4=>?_) h3
    obtain ⟨⟨u,df,rfl⟩,hS',h5⟩:=h4
    have hy':YS P S ⟨some d,o,ty,pos,after,none⟩ v (({ a with defers:=df }:Act).put oj.dst u):=fun w hw=>by
     rw [execOp_put _ (fun cs b=>hsel i _ cs b hi) ({ a with defers:=df }:Act) oj.dst u p3,about_put _ w ({ a with defers:=df }:Act) oj.dst u p3]
     exact hy w hw
    have hfree':∀ k ok,ops[k]? = some ok→k ≠ i→(listed.setIfInBounds j true).getD k true = false→(∀ e ∈ ok.after,Region.binds md e = true→e.on ≠ i)→Oper.apart ops ⟨some d,o,ty,pos,after,none⟩ ok = true:=fun k ok hk hki hun hno=>by
     refine hfree k ok hk hki ?_ hno
     by_cases hjk:j = k
     ·subst hjk;exact hjun
     ·rw [getD_set_ne true hjk] at hun;exact hun
    refine ⟨hS',ih (listed.setIfInBounds j true) _ w' hfree' (ready_mono hr (Ne.symm hji)) hy' hS' ?_⟩
    rw [Array.setIfInBounds_comm _ _ hji]
    exact h5
 intro fuel listed a w hf hr hy hS H
 exact gen fuel listed a w (Region.free_spec hi hf) (by simpa using hr) hy hS H
end
section
variable {P:Program} {E:Env P} {n:Sh} {X:Cx} {s:List K} {fr:Fr} {A A' B:List Ch} {ops:Array Oper} {d:Nat} {o:Op} {ty:TypeId} {pos:String} {after:Array Edge} {v:Value} {fuel:Nat} {listed:Array Bool} {S:World→Prop}
theorem kr (i:Nat) (hv:∀ w,S w→OpV P n fr o ty w v w) (k:TS E n X s S ops fuel (listed.setIfInBounds i true) ((d,v) :: fr) A) (hi:ops[i]? = some ⟨some d,o,ty,pos,after,none⟩:=by rfl) (hs:Region.noSelect ops = true:=by kernel_rfl) (hf:Region.free .any ops listed i = true:=by kernel_rfl)
  (hr:(Region.ready .any ops listed).contains i = true:=by kernel_rfl) (hnd:noDef ops = true:=by kernel_rfl) (hd:Nat.blt d n.n = true:=by rfl) (hab:∀ w ρ,(⟨some d,o,ty,pos,after,none⟩ : Oper).about P w ρ = none:=by exact fun _ _=>rfl):TS E n X s S ops (fuel + 1) listed fr A:=
 ⟨fun w hw hS a ha=>wpAnyS_takeR hnd hi hs (fun c a w h=>h.1 c rfl) fuel listed a w hf hr (fun w' hw'=>⟨(hv w' hw').run a ha _ _ _ _,hab _ _⟩) hS (k.run w hw hS _ (ha.put hd v))⟩
theorem kra (i:Nat) (k:TS E n X s S ops fuel (listed.setIfInBounds i true) ((d,v) :: fr) A) (hi:ops[i]? = some ⟨some d,o,ty,pos,after,none⟩:=by rfl) (hv:evOp E fr o = some v:=by rfl) (hs:Region.noSelect ops = true:=by kernel_rfl) (hf:Region.free .any ops listed i = true:=by kernel_rfl)
  (hr:(Region.ready .any ops listed).contains i = true:=by kernel_rfl) (hnd:noDef ops = true:=by kernel_rfl) (hd:Nat.blt d n.n = true:=by rfl) (hab:∀ w ρ,(⟨some d,o,ty,pos,after,none⟩ : Oper).about P w ρ = none:=by exact fun _ _=>rfl):TS E n X s S ops (fuel + 1) listed fr A:=
 kr i (fun _ _=>R_auto hv) k hi hs hf hr hnd hd hab
theorem krl (i:Nat) {t:TypeId} {x:Operand} {b j:Nat} {cs:List Value} {T:TypeId} {dt:TypeDesc} (hm:∀ w,S w→w.heap[b]? = some (.cells cs.toArray T (0,0))) (k:TS E n X s S ops fuel (listed.setIfInBounds i true) ((d,v) :: fr) A) (hi:ops[i]? = some ⟨some d,.load t x,ty,pos,after,none⟩:=by rfl) (hx:ev fr x = some (.pointer (some ⟨b,j,none⟩)):=by rfl)
  (hj:cs[j]? = some v:=by rfl) (ht:lk E.und t = some dt:=by rfl) (hg:aggB dt = false:=by rfl) (hs:Region.noSelect ops = true:=by kernel_rfl) (hf:Region.free .any ops listed i = true:=by kernel_rfl)
  (hr:(Region.ready .any ops listed).contains i = true:=by kernel_rfl) (hnd:noDef ops = true:=by kernel_rfl) (hd:Nat.blt d n.n = true:=by rfl):TS E n X s S ops (fuel + 1) listed fr A:=
 kr i (fun w hw=>R_load ht hg hx (blk_cell (hm w hw) (by simpa using hj))) k hi hs hf hr hnd hd
end
end Go.Art
set_option maxRecDepth 4000
namespace Go.Art
open Go Go.Proofs Go.RowKit
attribute [local irreducible] Fit pt own ro vw mpc lpt vels rels mow lrc dfr
def left (G:Int→Option Value) (x:Int):Bool:=(G x).isSome
theorem ones_some {G:Int→Option Value} {x:Int} {v:Value} (h:G x = some v):ones G x = some (one v):=by unfold ones;rw [h];rfl
theorem ones_none {G:Int→Option Value} {x:Int} (h:G x = none):ones G x = none:=by unfold ones;rw [h];rfl
def loneL (many:List Int) (G:Int→Option Value) (ls:List (List Int)) (i:Nat):List Int:=if many.getD i 0 = 1 then (ls.getD i []).filter (left G) else []
set_option maxRecDepth 4000 in
theorem lone_tr (i:Nat) (bm bs bl bq b:Nat) (mv s qv:Value) (many q:List Int) (hs:List Value) (ls:List (List Int)) (G:Int→Option Value) (g:Int→List Int) (hi:i < ls.length) (hm:many.length = ls.length) (hq:q.length + (ls.getD i []).length ≤ 1099511627776) :
  Tr Tryz.prog 194 [I i,ptr bm,ptr bs,ptr bl,ptr bq] [lpt bm [mv] 22,vw mv (Is many),lpt bs [s] 56,vw s hs,vels hs ls,lpt bl [mp b] 160] [pt bq [qv] 207,own 3 qv (Is q),mow 3 b G g none]
  fun v D=>v = .tuple #[]∧∃ qv',D = [pt bq [qv'] 207,own 3 qv' (Is (q ++ loneL many G ls i)),mow 3 b G g none]:=by
 refine Tr.enter env _ Tryz.func194 (by kernel_rfl) rfl Tryz.ntmps194 rfl (by repeat (first | exact has00 | refine has01 ?_)) fun w0=>?_
 refine TC.els (hs:=hs) (ls:=ls) (fun hl=>?_)
 refine TC.one (v:=qv) (xs:=Is q) fun hqv=>?_
 refine TC.fact (mow_one (T:=3) (b:=b) (G:=G) (f:=g) (o:=none) (by simp)) fun hGo=>?_
 unfold loneL
 repeat' first|(refine wo ?_;first|(refine ao ?_;first|refine oa ?_)|refine oa ?_|refine ldl ?_|refine lnm ?_|refine ixmn ?_|refine li ?_|refine lv ?_|refine ixn ?_)|(refine gc ?_;first|(refine cn (fun hB=>?_) (fun hB=>?_) <;> try (exfalso;omega)))|refine sq ?_|refine rg ?_|refine xc ?_|refine nl ?_|refine sk ?_|refine bk ?_|refine rt ?_
 ·rw [if_neg (by assumption)]
  exact r0 ⟨rfl,qv,by rw [List.append_nil]⟩
 rw [if_pos (by assumption)]
 generalize hL:ls.getD i [] = L at *
 refine TC.loop (ι:=Nat × Value) (fun j=>[(20,I j.1)]) (fun j=>[pt bq [j.2] 207,own 3 j.2 (Is (q ++ (L.take j.1).filter (left G)))]) (fun j=>j.1 ≤ L.length∧j.2.oneCell' = true) (fun j=>L.length - j.1) (0,qv) [0,1,2,3,4,18,19] ⟨by simp,hqv⟩ ?_ (hf:=by simp only [List.take_zero,List.filter_nil,List.append_nil];exact fitA)
 rintro ⟨j,qw⟩ ⟨h1,h2⟩
 dsimp only at h1 h2 ⊢
 subst hL
 by_cases hj:j < (ls.getD i []).length
 ·have hts:=take_succ' hj 0
  have hfl:(((ls.getD i []).take j).filter (left G)).length ≤ j:=Nat.le_trans (List.length_filter_le _ _) (List.length_take_le _ _)
  cases hG:G ((ls.getD i []).getD j 0) with
  | none=>
   have hG1:=ones_none hG
   have hf1:((ls.getD i []).take (j + 1)).filter (left G) = ((ls.getD i []).take j).filter (left G):=by rw [hts,List.filter_append,List.filter_cons,if_neg (by rw [left,hG];decide)];simp
   repeat' first|refine moN ?_ hG1|refine al fun bw=>?_|refine sra ?_|(refine wo ?_;first|(refine ao ?_;first|refine aw ?_|refine oa ?_)|refine oa ?_|refine ldl ?_|refine ixmn ?_|refine li ?_)|(refine gc ?_;first|refine cf ?_|(refine ci (fun hB=>?_) (fun hB=>?_) <;> try (exfalso;omega)))|refine sq ?_|refine rg ?_|refine xc ?_|refine nl ?_|refine sk ?_|refine bk ?_|refine xb ?_
   refine lp (j + 1,qw) ⟨by dsimp only;omega,h2⟩ (hf:=by dsimp only;rw [hf1];exact fitA)
  | some v=>
   have hG1:=ones_some hG
   have hvo:=hGo _ _ nofun hG
   have hf1:q ++ ((ls.getD i []).take (j + 1)).filter (left G) = (q ++ ((ls.getD i []).take j).filter (left G)) ++ [(ls.getD i []).getD j 0]:=by rw [hts,List.filter_append,List.append_assoc];congr 2;rw [List.filter_cons,if_pos (by rw [left,hG];rfl)];rfl
   repeat' first|refine moS ?_ hG1|refine al fun bw=>?_|refine sra ?_|refine slii [(ls.getD i []).getD j 0] fun v1=>?_|(refine wo ?_;first|(refine ao ?_;first|refine oa ?_)|refine oa ?_|refine ld ?_|refine ldl ?_|refine ixmn ?_|refine li ?_)|(refine gc ?_;first|refine ct ?_|(refine ci (fun hB=>?_) (fun hB=>?_) <;> try (exfalso;omega)))|refine sq ?_|refine rg ?_|refine xc ?_|refine nl ?_|refine sk ?_|refine bk ?_
   refine api (v:=qw) (news:=[(ls.getD i []).getD j 0]) fun v2=>?_
   refine TO.one (v:=v2) (xs:=Is ((q ++ ((ls.getD i []).take j).filter (left G)) ++ [(ls.getD i []).getD j 0])) fun hv2=>?_
   repeat' first|(refine wo ?_;first|(refine ao ?_;first|refine aw ?_)|refine oa ?_|refine sr ?_)|refine rg ?_|refine xc ?_|refine nl ?_|refine xb ?_
   refine lp (j + 1,v2) ⟨by dsimp only;omega,hv2⟩ (hf:=by dsimp only;rw [hf1];exact fitA)
 ·obtain rfl:j = (ls.getD i []).length:=by omega
  rw [List.take_length]
  repeat' first|(refine wo ?_;first|(refine ao ?_;first|refine oa ?_))|(refine gc ?_;first|(refine ci (fun hB=>?_) (fun hB=>?_) <;> try (exfalso;omega)))|refine sq ?_|refine rg ?_|refine xc ?_|refine nl ?_|refine xe ?_
  exact e0 ⟨rfl,qw,rfl⟩
end Go.Art
set_option maxRecDepth 4000
namespace Go.Art
open Go Go.Proofs Go.RowKit
attribute [local irreducible] Fit pt own ro vw mpc lpt vels rels mow lrc dfr
theorem next_tr (bq:Nat) (qv:Value) (x:Int) (r:List Int):Tr Tryz.prog 195 [ptr bq] [] [pt bq [qv] 207,own 3 qv (Is (x :: r))] fun v D=>v = I x∧∃ qv',D = [pt bq [qv'] 207,own 3 qv' (Is r)]:=by
 refine Tr.enter env _ Tryz.func195 (by kernel_rfl) rfl Tryz.ntmps195 rfl (by repeat (first | exact has00 | refine has01 ?_)) fun w0=>?_
 refine TC.leni (l:=x :: r) fun hl=>?_
 have h0:0 < (x :: r).length:=by simp
 repeat' first|refine sclm (l:=x :: r) ?_|(refine wo ?_;first|refine oa ?_|refine ld ?_|refine ixmn ?_|refine li ?_)|refine sq ?_|refine rg ?_|refine xc ?_|refine nl ?_
 refine TO.im (Im.trans (Tk.there Tk.here) (Im1.im (im_subi 3 qv (x :: r) (lo:=1) (hi:=(x :: r).length) (by simp) (Nat.le_refl _)) _)) ?_
 refine TO.one (v:=slSub qv 1 (x :: r).length) (xs:=Is (((x :: r).take (x :: r).length).drop 1)) fun hv=>?_
 repeat' first|(refine wo ?_;first|refine oa ?_|refine sr ?_)|refine sq ?_|refine rg ?_|refine xc ?_|refine nl ?_|refine rt ?_
 rw [List.take_length]
 exact r1 ⟨rfl,slSub qv 1 (x :: r).length,rfl⟩
theorem not_mem_take {l:List Int} (h:∀ i j,i < j→j < l.length→l.getD i 0 < l.getD j 0) {m:Nat} (hm:m < l.length):l.getD m 0 ∉ l.take m:=by
 intro hmem
 obtain ⟨j,hj,e⟩:=mem_getD.1 hmem
 have hj':j < m:=by simp at hj;omega
 have h1:=h j m hj' hm
 have h2:(l.take m).getD j 0 = l.getD j 0:=by simp [List.getD_eq_getElem?_getD,List.getElem?_take,hj']
 rw [h2] at e;omega
def idx (ls:List (List Int)) (x:Int) (i:Nat):List Int:=((List.range i).filter fun j=>decide (x ∈ ls.getD j [])).map fun j:Nat=>(j:Int)
theorem idx_succ (ls:List (List Int)) (x:Int) (i:Nat):idx ls x (i + 1) = idx ls x i ++ if x ∈ ls.getD i [] then [(i:Int)] else []:=by
 unfold idx
 rw [List.range_succ,List.filter_append,List.map_append]
 congr 1
 by_cases h:x ∈ ls.getD i []
 ·rw [if_pos h,List.filter_cons,if_pos (by simpa using h)];rfl
 ·rw [if_neg h,List.filter_cons,if_neg (by simpa using h)];rfl
theorem mem_idx {ls:List (List Int)} {x y:Int} {n:Nat}:y ∈ idx ls x n ↔ ∃ j:Nat,y = j∧j < n∧x ∈ ls.getD j []:=by
 unfold idx
 simp only [List.mem_map,List.mem_filter,List.mem_range,decide_eq_true_eq]
 constructor
 ·rintro ⟨j,⟨h1,h2⟩,rfl⟩;exact ⟨j,rfl,h1,h2⟩
 ·rintro ⟨j,rfl,h1,h2⟩;exact ⟨j,⟨h1,h2⟩,rfl⟩
theorem idx_len (ls:List (List Int)) (x:Int) (n:Nat):(idx ls x n).length ≤ n:=by
 unfold idx;rw [List.length_map];exact Nat.le_trans (List.length_filter_le _ _) (by simp)
theorem idx_nodup (ls:List (List Int)) (x:Int) (n:Nat):(idx ls x n).Nodup:=by
 unfold idx
 rw [List.nodup_iff_pairwise_ne,List.pairwise_map]
 exact ((List.pairwise_lt_range (n:=n)).sublist List.filter_sublist).imp fun h e=>by omega
structure UInv (k:Int) (ls:List (List Int)) (G:Int→Option Value) (g:Int→List Int) (many q:List Int):Prop where
 dom:∀ x,left G x = true→0 ≤ x∧x < k
 sets:∀ x,left G x = true→g x = idx ls x ls.length
 gone:∀ x,0 ≤ x→x < k→left G x = false→Kn ls x
 len:many.length = ls.length
 que:∀ x ∈ q,0 ≤ x∧x < k∧Kn ls x
 size:q.length + cnt (left G) (belowI k) * (ls.length + 1) ≤ (k.toNat + 1) * (ls.length + 1)
def Fine1 (ls:List (List Int)) (G:Int→Option Value) (many q:List Int) (i:Nat):Prop:=
 many.getD i 0 = cnt (left G) (ls.getD i [])∧(cnt (left G) (ls.getD i []) = 1→∀ x ∈ ls.getD i [],left G x = true→x ∈ q)
theorem getD_mem {ls:List (List Int)} {i:Nat} (h:i < ls.length):ls.getD i [] ∈ ls:=by rw [List.getD_eq_getElem?_getD,List.getElem?_eq_getElem h];exact List.getElem_mem h
theorem UInv.end {k:Int} {ls:List (List Int)} {G:Int→Option Value} {g:Int→List Int} {many:List Int} (h:UInv k ls G g many []) (hs:∀ l ∈ ls,isSet k l = true) (hf:∀ i,i < ls.length→Fine1 ls G many [] i) (x:Int) (h0:0 ≤ x) (hk:x < k):left G x = true ↔ ¬ Kn ls x:=by
 constructor
 ·intro hl hkn
  have:=hkn.not (p:=left G) (fun l hl=>isSet_nodup (hs l hl)) (fun l hl hc=>by
   obtain ⟨i,hi,rfl⟩:=List.mem_iff_getElem.1 hl
   have h1:=hf i hi
   rw [show ls[i] = ls.getD i [] by simp [List.getD_eq_getElem?_getD,hi]] at hc
   obtain ⟨s,hs1,hs2,_⟩:=cnt_one hc
   have:=h1.2 hc s hs1 hs2
   cases this)
  rw [this] at hl;cases hl
 ·intro hkn
  cases hc:left G x with
  | true=>rfl
  | false=>exact absurd (h.gone x h0 hk hc) hkn
theorem lone_inv {k:Int} {ls:List (List Int)} {G:Int→Option Value} {g:Int→List Int} {many q:List Int} {i B:Nat} (h:UInv k ls G g many q) (hs:∀ l ∈ ls,isSet k l = true) (hi:i < ls.length) (hm:many.getD i 0 = cnt (left G) (ls.getD i []))
  (hB:q.length + cnt (left G) (belowI k) * (ls.length + 1) + B + 1 ≤ (k.toNat + 1) * (ls.length + 1)) :
  UInv k ls G g many (q ++ loneL many G ls i)∧Fine1 ls G many (q ++ loneL many G ls i) i∧(∀ x ∈ q,x ∈ q ++ loneL many G ls i)∧(q ++ loneL many G ls i).length + cnt (left G) (belowI k) * (ls.length + 1) + B ≤ (k.toNat + 1) * (ls.length + 1):=by
 have hln:(loneL many G ls i).length ≤ 1:=by
  unfold loneL
  split
  ·rename_i h1;rw [hm] at h1;have:cnt (left G) (ls.getD i []) = 1:=by omega
   exact Nat.le_of_eq this
  ·simp
 refine ⟨⟨h.dom,h.sets,h.gone,h.len,fun x hx=>?_,by rw [List.length_append];omega⟩,⟨hm,fun hc x hx hl=>?_⟩,fun x hx=>List.mem_append_left _ hx,by rw [List.length_append];omega⟩
 ·rcases List.mem_append.1 hx with hx | hx
  ·exact h.que x hx
  ·unfold loneL at hx
   split at hx
   ·rename_i h1;rw [hm] at h1
    obtain ⟨h2,h3⟩:=List.mem_filter.1 hx
    have hd:=h.dom x h3
    refine ⟨hd.1,hd.2,Kn.of_cnt (getD_mem hi) (by omega) (fun y hy hly=>?_) h2 h3⟩
    have hy':=(isSet_iff.1 (hs _ (getD_mem hi))).2.2 y hy
    exact h.gone y hy'.1 hy'.2 hly
   ·cases hx
 ·refine List.mem_append_right _ ?_
  unfold loneL
  rw [if_pos (by rw [hm,hc];rfl)]
  exact List.mem_filter.2 ⟨hx,hl⟩
theorem left_set (G:Int→Option Value) (x:Int) (v:Value) (hx:left G x = true) (y:Int):left (setK G x (some v)) y = left G y:=by
 unfold left at *
 by_cases e:y = x
 ·rw [e,setK_eq,hx];rfl
 ·rw [setK_ne _ _ e]
theorem left_del (G:Int→Option Value) (x:Int):left (setK G x none) x = false:=by unfold left;rw [setK_eq];rfl
theorem left_del_ne (G:Int→Option Value) {x y:Int} (h:y ≠ x):left (setK G x none) y = left G y:=by unfold left;rw [setK_ne _ _ h]
structure VInv (k:Int) (ls:List (List Int)) (G:Int→Option Value) (g:Int→List Int) (x:Int) (W many q r:List Int) (j:Nat):Prop where
 inv:UInv k ls G g many q
 many:∀ i,i < ls.length→many.getD i 0 = cnt (left G) (ls.getD i []) + (if x ∈ ls.getD i []∧(i:Int) ∉ W.take j then 1 else 0)
 fine:∀ i,i < ls.length→(x ∉ ls.getD i []∨(i:Int) ∈ W.take j)→cnt (left G) (ls.getD i []) = 1→∀ y ∈ ls.getD i [],left G y = true→y ∈ q
 bud:q.length + cnt (left G) (belowI k) * (ls.length + 1) + (W.length - j) + 1 ≤ (k.toNat + 1) * (ls.length + 1)
 qlen:q.length ≤ r.length + j
theorem VInv.start {k:Int} {ls:List (List Int)} {G:Int→Option Value} {g:Int→List Int} {many r:List Int} {x:Int} (h:UInv k ls G g many (x :: r)) (hs:∀ l ∈ ls,isSet k l = true) (hf:∀ i,i < ls.length→Fine1 ls G many (x :: r) i) (hx:left G x = true) :
  VInv k ls (setK G x none) g x (idx ls x ls.length) many r r 0:=by
 have hd:=h.dom x hx
 have hcd:∀ {l:List Int},l.Nodup→cnt (left G) l = cnt (left (setK G x none)) l + if x ∈ l then 1 else 0:=fun hn=>cnt_drop hx (left_del G x) (fun y hy=>left_del_ne G hy) hn
 have hb:=hcd (l:=belowI k) ((belowI_sorted k).imp fun h e=>by omega)
 rw [if_pos (mem_belowI.2 hd)] at hb
 have hsz:=h.size
 rw [hb,Nat.add_mul,Nat.one_mul] at hsz
 simp only [List.length_cons] at hsz
 have hil:=idx_len ls x ls.length
 refine ⟨⟨fun y hy=>?_,fun y hy=>?_,fun y h0 hk hy=>?_,h.len,fun y hy=>h.que y (by simp [hy]),by omega⟩,fun i hi=>?_,fun i hi hor hc y hy hl=>?_,by omega,by omega⟩
 ·by_cases e:y = x
  ·rw [e];exact hd
  ·rw [left_del_ne G e] at hy;exact h.dom y hy
 ·by_cases e:y = x
  ·rw [e,left_del] at hy;cases hy
  ·rw [left_del_ne G e] at hy;exact h.sets y hy
 ·by_cases e:y = x
  ·rw [e];exact (h.que x (by simp)).2.2
  ·rw [left_del_ne G e] at hy;exact h.gone y h0 hk hy
 ·rw [(hf i hi).1,hcd (isSet_nodup (hs _ (getD_mem hi)))]
  by_cases e:x ∈ ls.getD i []
  ·rw [if_pos e,if_pos ⟨e,by simp⟩];rfl
  ·rw [if_neg e,if_neg (fun h=>e h.1)];rfl
 ·have hxn:x ∉ ls.getD i []:=by
   rcases hor with h1 | h1
   ·exact h1
   ·simp at h1
  have hc1:=hcd (isSet_nodup (hs _ (getD_mem hi)))
  rw [if_neg hxn,hc] at hc1
  have hyx:y ≠ x:=fun e=>hxn (e ▸ hy)
  rw [left_del_ne G hyx] at hl
  rcases List.mem_cons.1 ((hf i hi).2 hc1 y hy hl) with e | h2
  ·exact absurd e hyx
  ·exact h2
theorem VInv.step {k:Int} {ls:List (List Int)} {G:Int→Option Value} {g:Int→List Int} {many q r:List Int} {x:Int} {j i:Nat} (h:VInv k ls G g x (idx ls x ls.length) many q r j) (hs:∀ l ∈ ls,isSet k l = true) (hj:j < (idx ls x ls.length).length) (hi:(idx ls x ls.length).getD j 0 = i) :
  i < ls.length∧VInv k ls G g x (idx ls x ls.length) (many.set i (many.getD i 0 - 1)) (q ++ loneL (many.set i (many.getD i 0 - 1)) G ls i) r (j + 1):=by
 generalize hW:idx ls x ls.length = W at *
 have hmem:(i:Int) ∈ W:=mem_getD.2 ⟨j,hj,hi⟩
 obtain ⟨i',e,hil,hxi⟩:=mem_idx.1 (hW ▸ hmem)
 obtain rfl:i = i':=by omega
 have hnd:W.Nodup:=hW ▸ idx_nodup ls x ls.length
 have hnt:(i:Int) ∉ W.take j:=by
  intro hm
  obtain ⟨m,hm1,hm2⟩:=List.mem_iff_getElem.1 hm
  have hmj:m < j:=by simp at hm1;omega
  have hi':W[j] = (i:Int):=by rw [← hi];simp [List.getD_eq_getElem?_getD,hj]
  have hm3:W[m]'(by omega) = W[j]:=by rw [hi',← hm2];simp
  have:=(List.getElem_inj hnd).1 hm3
  omega
 have htk:W.take (j + 1) = W.take j ++ [(i:Int)]:=by rw [take_succ' hj 0,hi]
 have hmi:=h.many i hil
 rw [if_pos ⟨hxi,hnt⟩] at hmi
 have hlt:i < many.length:=by rw [h.inv.len];exact hil
 have hget:∀ m,(many.set i (many.getD i 0 - 1)).getD m 0 = if i = m then many.getD i 0 - 1 else many.getD m 0:=fun m=>getD_set many i m _ hlt
 have hinv:UInv k ls G g (many.set i (many.getD i 0 - 1)) q:=⟨h.inv.dom,h.inv.sets,h.inv.gone,by simp [h.inv.len],h.inv.que,h.inv.size⟩
 obtain ⟨l1,l2,l3,l4⟩:=lone_inv (B:=W.length - (j + 1) + 1) hinv hs hil (by rw [hget,if_pos rfl,hmi];omega) (by have:=h.bud;omega)
 refine ⟨hil,l1,fun m hm=>?_,fun m hm hor hc y hy hl=>?_,by omega,?_⟩
 ·rw [hget,htk]
  by_cases e:i = m
  ·subst e;rw [if_pos rfl,hmi,if_neg (by simp)];omega
  ·rw [if_neg e,h.many m hm]
   congr 1
   have:((m:Int) ∈ W.take j ++ [(i:Int)]) ↔ (m:Int) ∈ W.take j:=by simp;omega
   simp only [this]
 ·by_cases e:i = m
  ·subst e;exact l2.2 hc y hy hl
  ·refine l3 y (h.fine m hm (hor.imp id fun h1=>?_) hc y hy hl)
   rw [htk,List.mem_append] at h1
   rcases h1 with h1 | h1
   ·exact h1
   ·simp at h1;omega
 ·rw [List.length_append]
  have h2:=h.qlen
  have h3:(loneL (many.set i (many.getD i 0 - 1)) G ls i).length ≤ 1:=by
   unfold loneL
   split
   ·rename_i h1;rw [l2.1] at h1
    have:cnt (left G) (ls.getD i []) = 1:=by omega
    exact Nat.le_of_eq this
   ·simp
  omega
theorem VInv.end {k:Int} {ls:List (List Int)} {G:Int→Option Value} {g:Int→List Int} {many q r:List Int} {x:Int} (h:VInv k ls G g x (idx ls x ls.length) many q r (idx ls x ls.length).length):UInv k ls G g many q∧∀ i,i < ls.length→Fine1 ls G many q i:=by
 have hor:∀ i,i < ls.length→(x ∉ ls.getD i []∨(i:Int) ∈ (idx ls x ls.length).take (idx ls x ls.length).length):=fun i hi=>by
  rw [List.take_length]
  by_cases e:x ∈ ls.getD i []
  ·exact .inr (mem_idx.2 ⟨i,rfl,hi,e⟩)
  ·exact .inl e
 refine ⟨h.inv,fun i hi=>⟨?_,h.fine i hi (hor i hi)⟩⟩
 rw [h.many i hi,if_neg]
 ·simp
 ·rintro ⟨h1,h2⟩
  rcases hor i hi with h3 | h3
  ·exact h3 h1
  ·exact h2 h3
end Go.Art
set_option maxRecDepth 4000
namespace Go.Art
open Go Go.Proofs Go.RowKit
attribute [local irreducible] Fit pt own ro vw mpc lpt vels rels mow lrc dfr
structure UG where
 G:Int→Option Value
 many:List Int
 q:List Int
 qv:Value
structure UF where
 i:Nat
 G:Int→Option Value
 g:Int→List Int
 many:List Int
abbrev TQ':TypeId:=207
abbrev TM':TypeId:=160
set_option maxHeartbeats 2000000 in
theorem unknown_tr (k:Int) (s:Value) (hs:List Value) (ls:List (List Int)) (hE:stopE k ls = 0) (hn:ls.length ≤ 4096) :
  Tr Tryz.prog 136 [I k,s] [vw s hs,vels hs ls] [] fun v D=>∃ b G g,v = mp b∧D = [mow 3 b G g none]∧(∀ x,left G x = true ↔ (0 ≤ x∧x < k)∧¬ Kn ls x):=by
 obtain ⟨hk1,hk2,hsets⟩:=stopE_zero hE
 refine Tr.enter env _ Tryz.func136 (by kernel_rfl) rfl Tryz.ntmps136 rfl (by repeat (first | exact has00 | refine has01 ?_)) fun w0=>?_
 refine TC.els (hs:=hs) (ls:=ls) (fun hl=>?_)
 refine TC.one (v:=s) (xs:=hs) fun hsv=>?_
 repeat' first|refine bx1 fun bs=>?_|refine mmo 3 (fun _=>[]) fun b=>?_|refine al fun bl=>?_|(refine wo ?_;first|refine oa ?_|refine sr ?_)|refine sq ?_|refine rg ?_|refine xc ?_|refine nl ?_|refine bk ?_
 refine TC.loop (ι:=Nat × (Int→Option Value)) (fun i=>[(23,I i.1)]) (fun i=>[mow 3 b i.2 (fun _=>[]) none]) (fun i=>(i.1:Int) ≤ k∧∀ x,i.2 x = if 0 ≤ x∧x < i.1 then some nS else none) (fun i=>(k - i.1).toNat) (0,fun _=>none) [3,4,5,22] ⟨by simp;omega,fun x=>by rw [if_neg (by omega)]⟩ ?_
 ·rintro ⟨i,G⟩ ⟨h1,h2⟩
  dsimp only at h1 h2 ⊢
  by_cases hi:(i:Int) < k
  ·repeat' first|(refine wo ?_;first|(refine ao ?_;first|refine oa ?_)|refine oa ?_|refine ld ?_)|(refine gc ?_;first|(refine ci (fun hB=>?_) (fun hB=>?_) <;> try (exfalso;omega)))|refine sq ?_|refine rg ?_|refine xc ?_|refine nl ?_|refine sk ?_|refine bk ?_
   refine TO.im (own_nil 3 _) ?_
   refine mou (v:=nS) (l:=[]) (G:=G) (k:=(i:Int)) ?_ (.inr ⟨rfl,by rw [h2,if_neg (by omega)]⟩)
   rw [show setK (fun _:Int=>([]:List Int)) (i:Int) [] = fun _=>[] from by funext x;unfold setK;split <;> rfl]
   repeat' first|(refine wo ?_;first|(refine ao ?_;first|refine aw ?_)|refine oa ?_)|refine rg ?_|refine xc ?_|refine nl ?_|refine xb ?_
   refine lp (i + 1,setK G i (some nS)) ⟨by dsimp only;omega,fun x=>?_⟩
   dsimp only
   by_cases e:x = i
   ·rw [e,setK_eq,if_pos (by omega)]
   ·rw [setK_ne _ _ e,h2]
    by_cases e2:0 ≤ x∧x < (i:Int)
    ·rw [if_pos e2,if_pos (by omega)]
    ·rw [if_neg e2,if_neg (by omega)]
  ·have hik:(i:Int) = k:=by omega
   rw [hik] at h2
   have hl0:∀ x,left G x = true ↔ 0 ≤ x∧x < k:=fun x=>by
    unfold left;rw [h2]
    by_cases e:0 ≤ x∧x < k
    ·rw [if_pos e];simp [e]
    ·rw [if_neg e];simp [e]
   clear h2
   repeat' first|refine mki fun mv0=>?_|(refine wo ?_;first|(refine ao ?_;first|refine oa ?_)|refine ld ?_|refine ln ?_)|(refine gc ?_;first|(refine ci (fun hB=>?_) (fun hB=>?_) <;> try (exfalso;omega)))|refine sq ?_|refine rg ?_|refine xc ?_|refine nl ?_|refine xe ?_
   refine al fun bm=>?_
   refine TO.one (v:=mv0) (xs:=Is (List.replicate ((hs.length:Nat):Int).toNat 0)) fun hmv=>?_
   repeat' first|(refine wo ?_;first|refine sr ?_)|refine sq ?_|refine rg ?_|refine xc ?_|refine nl ?_
   refine al fun bq=>?_
   repeat' first|(refine wo ?_;first|refine oa ?_|refine ld ?_|refine ln ?_)|refine sq ?_|refine rg ?_|refine xc ?_|refine nl ?_|refine bk ?_
   refine TC.loop (ι:=UF) (fun u=>[(36,I u.i)]) (fun u=>[mow 3 b u.G u.g none,own 3 mv0 (Is u.many)])
    (fun u=>u.i ≤ ls.length∧(∀ x,left u.G x = true ↔ 0 ≤ x∧x < k)∧(∀ x,left u.G x = true→u.g x = idx ls x u.i)∧u.many.length = ls.length∧∀ j,j < u.i→u.many.getD j 0 = (ls.getD j []).length)
    (fun u=>ls.length - u.i) ⟨0,G,fun _=>[],List.replicate ((hs.length:Nat):Int).toNat 0⟩ [0,3,5,7,8,9,34,35] ⟨by simp,hl0,fun x _=>rfl,by simp [hl],fun j h=>by simp at h⟩ ?_
   ·clear hl0 h1 hi hik
    rintro ⟨i,G,g,many⟩ ⟨h1,h2,h3,h4,h5⟩
    dsimp only at h1 h2 h3 h4 h5 ⊢
    by_cases hi:i < ls.length
    ·have hset:=hsets _ (getD_mem hi)
     have hnd:=isSet_nodup hset
     have hin:=(isSet_iff.1 hset).2.2
     have hlk:=isSet_len hset
     repeat' first|(refine wo ?_;first|(refine ao ?_;first|refine oa ?_)|refine oa ?_|refine ld ?_|refine lnm ?_|refine ixmn ?_|refine lv ?_|refine ixn ?_|refine soi ?_)|(refine gc ?_;first|(refine ci (fun hB=>?_) (fun hB=>?_) <;> try (exfalso;omega)))|refine sq ?_|refine rg ?_|refine xc ?_|refine nl ?_|refine sk ?_|refine bk ?_
     generalize hL:ls.getD i [] = L at *
     refine TC.loop (ι:=Nat × (Int→Option Value) × (Int→List Int)) (fun u=>[(48,I u.1)]) (fun u=>[mow 3 b u.2.1 u.2.2 none])
      (fun u=>u.1 ≤ L.length∧(∀ x,left u.2.1 x = true ↔ 0 ≤ x∧x < k)∧∀ x,left u.2.1 x = true→u.2.2 x = idx ls x i ++ if x ∈ L.take u.1 then [(i:Int)] else [])
      (fun u=>L.length - u.1) (0,G,g) [0,3,5,7,8,9,10,34,35,36,46,47] ⟨by simp,h2,fun x hx=>(h3 x hx).trans (by simp)⟩ ?_
     ·clear h2 h3
      rintro ⟨m,G,g⟩ ⟨h6,h2,h3⟩
      dsimp only at h6 h2 h3 ⊢
      subst hL
      by_cases hm:m < (ls.getD i []).length
      ·have hx0:=hin _ (mem_getD.2 ⟨m,hm,rfl⟩)
       have hmt:=not_mem_take (isSet_sorted hset).2 hm
       have hts:=take_succ' hm 0
       generalize hx:(ls.getD i []).getD m 0 = x at *
       have hgx:=h3 x ((h2 x).2 hx0)
       rw [if_neg hmt,List.append_nil] at hgx
       obtain ⟨v,hv⟩ : ∃ v,G x = some v:=Option.isSome_iff_exists.1 ((h2 x).2 hx0)
       repeat' first|refine lie hx ?_|(refine wo ?_;first|(refine ao ?_;first|refine oa ?_)|refine oa ?_|refine ixmn ?_)|(refine gc ?_;first|(refine ci (fun hB=>?_) (fun hB=>?_) <;> try (exfalso;omega)))|refine sq ?_|refine rg ?_|refine xc ?_|refine nl ?_|refine sk ?_|refine bk ?_
       refine TC.im (Im.trans (Tk.here) (mow_out _ b G g hv _)) ?_
       have hgl:=idx_len ls x i
       refine rs (fun w=>w.heap[bl]? = some (.cells #[mp b] TM' (0,0))) ?_ (fun w hw=>pt_at (by simp) hw)
       refine tkl 0 (cs:=[mp b]) (fun w h=>h) ?_
       refine tka 1 ?_
       refine tkl 2 (cs:=[mp b]) (fun w h=>h) ?_
       refine tka 3 ?_
       refine tka 6 ?_
       refine t2 4 7 ?_ ?_
       refine mo ?_ (ones_some hv)
       repeat' first|refine nl ?_
       refine te (fun w hw=>pt_at (by simp) hw) ?_
       refine tk 5 (fun w h=>R_field (E:=env) (cs:=[v]) rfl rfl rfl rfl rfl rfl) ?_
       refine t1 7 ?_
       refine slii [(i:Int)] fun v1=>?_
       repeat' first|refine nl ?_
       refine te (fun w hw=>pt_at (by simp) hw) ?_
       refine t1 8 ?_
       rotate_left
       refine slii [(i:Int)] fun v1=>?_
       repeat' first|refine nl ?_
       refine te (fun w hw=>pt_at (by simp) hw) ?_
       refine t1 4 ?_
       refine mo ?_ (ones_some hv)
       repeat' first|refine nl ?_
       refine te (fun w hw=>pt_at (by simp) hw) ?_
       refine tk 5 (fun w h=>R_field (E:=env) (cs:=[v]) rfl rfl rfl rfl rfl rfl) ?_
       refine t1 8 ?_
       all_goals
        refine api (v:=v) (l:=g x) (news:=[(i:Int)]) (hl:=by rw [hgx];simp only [List.length_cons,List.length_nil];omega) fun v2=>?_
        refine TO.one (v:=v2) (xs:=Is (g x ++ [(i:Int)])) fun hv2=>?_
        repeat' first|refine nl ?_
        refine te (fun w hw=>pt_at (by simp) hw) ?_
        refine tk 9 (fun w h=>R_buildC (E:=env) (vs:=[(0,v2)]) (cs:=[v2]) (by simp [hv2]) rfl rfl rfl rfl rfl) ?_
        refine t1 10 ?_
        refine mou (v:=v2) (l:=g x ++ [(i:Int)]) (G:=G) (k:=x) ?_ (.inl rfl)
        repeat' first|refine nl ?_
        refine te (fun w hw=>pt_at (by simp) hw) ?_
        refine t0 ?_
        repeat' first|(refine wo ?_;first|(refine ao ?_;first|refine aw ?_)|refine oa ?_)|refine rg ?_|refine xc ?_|refine nl ?_|refine xb ?_
        refine lp (m + 1,setK G x (some v2),setK g x (g x ++ [(i:Int)])) ⟨by dsimp only;omega,fun y=>?_,fun y hy=>?_⟩
        ·dsimp only;rw [left_set G x v2 ((h2 x).2 hx0)];exact h2 y
        ·dsimp only at hy ⊢
         rw [left_set G x v2 ((h2 x).2 hx0)] at hy
         rw [hts]
         by_cases e:y = x
         ·rw [e,setK_eq,hgx,if_pos (by simp)]
         ·rw [setK_ne _ _ e,h3 y hy]
          have:(y ∈ (ls.getD i []).take m ++ [x]) ↔ y ∈ (ls.getD i []).take m:=by simp [e]
          simp only [this]
      ·obtain rfl:m = (ls.getD i []).length:=by omega
       rw [List.take_length] at h3
       repeat' first|(refine wo ?_;first|(refine ao ?_;first|refine aw ?_|refine oa ?_)|refine oa ?_)|(refine gc ?_;first|(refine ci (fun hB=>?_) (fun hB=>?_) <;> try (exfalso;omega)))|refine sq ?_|refine rg ?_|refine xc ?_|refine nl ?_|refine xe ?_|refine xb ?_
       refine lp ⟨i + 1,G,g,many.set i (ls.getD i []).length⟩ ⟨by dsimp only;omega,h2,fun y hy=>?_,by simp [h4],fun j hj=>?_⟩
       ·dsimp only;rw [h3 y hy,idx_succ]
       ·dsimp only at hj ⊢
        rw [getD_set _ _ _ _ (by omega)]
        by_cases e:i = j
        ·rw [if_pos e,e]
        ·rw [if_neg e];exact h5 j (by omega)
    ·obtain rfl:i = ls.length:=by omega
     have hcl:∀ j,j < ls.length→cnt (left G) (ls.getD j []) = (ls.getD j []).length:=fun j hj=>by
      unfold cnt
      rw [List.filter_eq_self.2 fun y hy=>(h2 y).2 ((isSet_iff.1 (hsets _ (getD_mem hj))).2.2 y hy)]
     have hU:UInv k ls G g many []:=by
      refine ⟨fun x hx=>(h2 x).1 hx,h3,fun x h0 hk hx=>?_,h4,by simp,?_⟩
      ·rw [(h2 x).2 ⟨h0,hk⟩] at hx;cases hx
      ·have:cnt (left G) (belowI k) ≤ k.toNat:=by unfold cnt;rw [← belowI_len k];exact List.length_filter_le _ _
       have:=Nat.mul_le_mul_right (ls.length + 1) this
       rw [Nat.add_mul];simp only [List.length_nil];omega
     have hsz:(k.toNat + 1) * (ls.length + 1) ≤ 65537 * 4097:=Nat.mul_le_mul (by omega) (by omega)
     have hcm:∀ j,j < ls.length→many.getD j 0 = cnt (left G) (ls.getD j []):=fun j hj=>by rw [h5 j hj,hcl j hj]
     have hc0:cnt (left G) (belowI k) * (ls.length + 1) ≤ k.toNat * (ls.length + 1):=Nat.mul_le_mul_right _ (by unfold cnt;rw [← belowI_len k];exact List.length_filter_le _ _)
     rw [Nat.add_mul,Nat.one_mul] at hsz
     clear hcl h5
     refine TC.im (own_nil 3 _) ?_
     repeat' first|(refine wo ?_;first|(refine ao ?_;first|refine oa ?_)|refine oa ?_|refine ld ?_|refine ln ?_)|(refine gc ?_;first|(refine ci (fun hB=>?_) (fun hB=>?_) <;> try (exfalso;omega)))|refine sq ?_|refine rg ?_|refine xc ?_|refine nl ?_|refine bk ?_|refine xe ?_
     refine TC.loop (ι:=Nat × List Int × Value) (fun u=>[(66,I u.1)]) (fun u=>[pt bq [u.2.2] TQ',own 3 u.2.2 (Is u.2.1)])
      (fun u=>u.1 ≤ ls.length∧UInv k ls G g many u.2.1∧(∀ j,j < u.1→Fine1 ls G many u.2.1 j)∧u.2.1.length + cnt (left G) (belowI k) * (ls.length + 1) + (ls.length - u.1) + 1 ≤ (k.toNat + 1) * (ls.length + 1))
      (fun u=>ls.length - u.1) (0,[],nS) [3,5,7,8,9,65] ⟨by simp,hU,fun j h=>by simp at h,by rw [Nat.add_mul];simp only [List.length_nil];omega⟩ ?_
     clear hU
     rintro ⟨i,q,qv⟩ ⟨h6,hU,hF,hB⟩
     dsimp only at h6 hU hF hB ⊢
     by_cases hi:i < ls.length
     ·have hlk:=isSet_len (hsets _ (getD_mem hi))
      obtain ⟨l1,l2,l3,l4⟩:=lone_inv (B:=ls.length - i) hU hsets hi (hcm i hi) (by omega)
      have hq2:q.length + (ls.getD i []).length ≤ 1099511627776:=by rw [Nat.add_mul,Nat.one_mul] at hB;omega
      repeat' first|(refine cav (vs:=[I i]) (cap:=#[ptr bm,ptr bs,ptr bl,ptr bq]) (lone_tr i bm bs bl bq b mv0 s qv many q hs ls G g hi h4 hq2) ?_;rintro _ _ ⟨rfl,qw,rfl⟩)|(refine wo ?_;first|(refine ao ?_;first|refine aw ?_|refine oa ?_)|refine oa ?_)|(refine gc ?_;first|(refine ci (fun hB=>?_) (fun hB=>?_) <;> try (exfalso;omega)))|refine sq ?_|refine rg ?_|refine xc ?_|refine nl ?_|refine sk ?_|refine bk ?_|refine xb ?_
      refine lp (i + 1,q ++ loneL many G ls i,qw) ⟨by dsimp only;omega,l1,fun j hj=>?_,by dsimp only;omega⟩
      by_cases e:j = i
      ·rw [e];exact l2
      ·have:=hF j (by dsimp only at hj;omega)
       exact ⟨this.1,fun hc y hy hl=>l3 y (this.2 hc y hy hl)⟩
     ·obtain rfl:i = ls.length:=by omega
      clear hB hcm h2 h3 hc0
      repeat' first|(refine wo ?_;first|(refine ao ?_;first|refine oa ?_))|(refine gc ?_;first|(refine ci (fun hB=>?_) (fun hB=>?_) <;> try (exfalso;omega)))|refine sq ?_|refine rg ?_|refine xc ?_|refine nl ?_|refine bk ?_|refine xe ?_
      refine TC.loop (ι:=UG) (fun _=>[]) (fun u=>[mow 3 b u.G g none,own 3 mv0 (Is u.many),pt bq [u.qv] TQ',own 3 u.qv (Is u.q)])
       (fun u=>UInv k ls u.G g u.many u.q∧∀ j,j < ls.length→Fine1 ls u.G u.many u.q j) (fun u=>cnt (left u.G) (belowI k) * (ls.length + 1) + u.q.length) ⟨G,many,q,qv⟩ [3,5,7,8,9] ⟨hU,hF⟩ ?_
      clear hU hF h4 h6 h1
      rintro ⟨G,many,q,qv⟩ ⟨hU,hF⟩
      dsimp only at hU hF ⊢
      cases q with
      | nil=>
       repeat' first|(refine wo ?_;first|(refine ao ?_;first|refine oa ?_)|refine oa ?_|refine ld ?_|refine lnm ?_)|(refine gc ?_;first|refine cf ?_)|refine sq ?_|refine rg ?_|refine xc ?_|refine nl ?_|refine xe ?_|refine rt ?_
       refine r1 ⟨b,G,g,rfl,rfl,fun x=>?_⟩
       constructor
       ·intro hx;have hd:=hU.dom x hx;exact ⟨hd,(hU.end hsets hF x hd.1 hd.2).1 hx⟩
       ·rintro ⟨hd,hx⟩;exact (hU.end hsets hF x hd.1 hd.2).2 hx
      | cons x r=>
       have hlen:0 < (x :: r).length:=by simp
       refine TC.fact (mow_one (T:=3) (b:=b) (G:=G) (f:=g) (o:=none) (by simp)) fun hGo=>?_
       repeat' first|(refine gca ?_;first|(refine ca (next_tr bq qv x r) ?_;rintro _ _ ⟨rfl,qw,rfl⟩))|(refine wo ?_;first|(refine ao ?_;first|refine oa ?_)|refine oa ?_|refine ld ?_|refine lnm ?_)|(refine gc ?_;first|(refine ci (fun hB=>?_) (fun hB=>?_) <;> try (exfalso;omega)))|refine sq ?_|refine rg ?_|refine xc ?_|refine nl ?_|refine sk ?_|refine bk ?_
       cases hG:G x with
       | none=>
        have hlx:left G x = false:=by unfold left;rw [hG];rfl
        have hG1:=ones_none hG
        repeat' first|refine moN ?_ hG1|refine al fun bw=>?_|refine sra ?_|(refine wo ?_;first|refine oa ?_)|(refine gc ?_;first|refine ct ?_)|refine sq ?_|refine rg ?_|refine xc ?_|refine nl ?_|refine xe ?_
        refine lp ⟨G,many,r,qw⟩ ⟨⟨hU.dom,hU.sets,hU.gone,hU.len,fun y hy=>hU.que y (by simp [hy]),?_⟩,fun j hj=>⟨(hF j hj).1,fun hc y hy hly=>?_⟩⟩ (hlt:=by dsimp only;simp only [List.length_cons];omega)
        ·have:=hU.size;dsimp only at this ⊢;simp only [List.length_cons] at this;omega
        ·have h1:=(hF j hj).2 hc y hy hly
         rcases List.mem_cons.1 h1 with rfl | h1
         ·rw [hlx] at hly;cases hly
         ·exact h1
       | some v=>
        have hlx:left G x = true:=by unfold left;rw [hG];rfl
        have hG1:=ones_some hG
        have hvo:=hGo _ _ nofun hG
        have hV:=VInv.start hU hsets hF hlx
        have hgx:=hU.sets x hlx
        repeat' first|refine moS ?_ hG1|refine al fun bw=>?_|refine sra ?_|(refine wo ?_;first|refine oa ?_|refine ld ?_)|(refine gc ?_;first|refine cf ?_)|refine sq ?_|refine rg ?_|refine xc ?_|refine nl ?_|refine sk ?_
        refine TO.im (Im.trans tkA (mow_out _ b G g hG _)) ?_
        refine mod ?_
        rw [hgx]
        repeat' first|(refine wo ?_;first|refine oa ?_|refine ld ?_|refine lnm ?_)|refine sq ?_|refine rg ?_|refine xc ?_|refine nl ?_|refine bk ?_
        refine TC.loop (ι:=Nat × List Int × List Int × Value) (fun u=>[(90,I u.1)]) (fun u=>[own 3 mv0 (Is u.2.1),pt bq [u.2.2.2] TQ',own 3 u.2.2.2 (Is u.2.2.1)])
         (fun u=>u.1 ≤ (idx ls x ls.length).length∧VInv k ls (setK G x none) g x (idx ls x ls.length) u.2.1 u.2.2.1 r u.1) (fun u=>(idx ls x ls.length).length - u.1) (0,many,r,qw) [3,5,7,8,9,88,89] ⟨Nat.zero_le _,hV⟩ ?_
        clear hV
        rintro ⟨j,many,q,qv⟩ ⟨h6,hV⟩
        dsimp only at h6 hV ⊢
        by_cases hj:j < (idx ls x ls.length).length
        ·obtain ⟨i,he,hil,hxi⟩:=mem_idx.1 (mem_getD.2 ⟨j,hj,rfl⟩)
         obtain ⟨-,hV'⟩:=hV.step hsets hj he
         have hlk:=isSet_len (hsets _ (getD_mem hil))
         have hml:=hV.inv.len
         have hwl:=idx_len ls x ls.length
         have hmb:=hV.many i hil
         have hcl:cnt (left (setK G x none)) (ls.getD i []) ≤ (ls.getD i []).length:=List.length_filter_le _ _
         have hmb2:0 ≤ many.getD i 0∧many.getD i 0 ≤ 70000:=by split at hmb <;> omega
         have hq2:q.length + (ls.getD i []).length ≤ 1099511627776:=by have:=hV.bud;rw [Nat.add_mul,Nat.one_mul] at this;omega
         clear hmb hcl
         repeat' first|refine lie he ?_|(refine cav (vs:=[I i]) (cap:=#[ptr bm,ptr bs,ptr bl,ptr bq]) (lone_tr i bm bs bl bq b mv0 s qv (many.set i (many.getD i 0 - 1)) q hs ls (setK G x none) g hil (by simpa using hml) hq2) ?_;rintro _ _ ⟨rfl,qw,rfl⟩)|(refine wo ?_;first|(refine ao ?_;first|refine aw ?_|refine oa ?_)|refine oa ?_|refine ld ?_|refine ixmn ?_|refine li ?_|refine soi ?_)|(refine gc ?_;first|(refine ci (fun hB=>?_) (fun hB=>?_) <;> try (exfalso;omega)))|refine sq ?_|refine rg ?_|refine xc ?_|refine nl ?_|refine sk ?_|refine bk ?_|refine xb ?_
         exact lp (j + 1,_,_,qw) ⟨by dsimp only;omega,hV'⟩
        ·obtain rfl:j = (idx ls x ls.length).length:=by omega
         obtain ⟨e1,e2⟩:=hV.end
         have e3:=hV.qlen
         have e4:=idx_len ls x ls.length
         have e5:=cnt_drop hlx (left_del G x) (fun y hy=>left_del_ne G hy) (l:=belowI k) ((belowI_sorted k).imp fun h e=>by omega)
         rw [if_pos (mem_belowI.2 (hU.dom x hlx))] at e5
         clear hV
         repeat' first|(refine wo ?_;first|(refine ao ?_;first|refine oa ?_))|(refine gc ?_;first|(refine ci (fun hB=>?_) (fun hB=>?_) <;> try (exfalso;omega)))|refine sq ?_|refine rg ?_|refine xc ?_|refine nl ?_|refine xe ?_|refine xb ?_
         refine lp ⟨setK G x none,many,q,qv⟩ ⟨e1,e2⟩ (hlt:=by dsimp only;rw [e5,Nat.add_mul,Nat.one_mul];simp only [List.length_cons];omega)
end Go.Art
set_option maxRecDepth 4000
namespace Go.Art
open Go Go.Proofs Go.RowKit
attribute [local irreducible] Fit pt own ro vw mpc lpt vels rels mow lrc dfr
end Go.Art
set_option maxRecDepth 4000
namespace Go.Art
open Go Go.Proofs Go.RowKit
attribute [local irreducible] Fit pt own ro vw mpc lpt vels rels mow lrc dfr
/-! ### Examples -/
end Go.Art
