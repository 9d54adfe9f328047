/- Texts put together: Do Ig Dp Ja Jb Vj Vk Gp Ga Vl Rr Zj Vn Vp Vq Vs If Jc Ds Ih Ii Ij Dq Jd Je Jf Dt. Conditions: none. -/
import Derived.Test.YtpabbhpgikdhfaaGreatWRg
set_option linter.unusedSimpArgs false
set_option linter.unusedVariables false
namespace Go.Art
open Go Go.Proofs Go.RowKit
theorem ps_mod {n c r:Nat} (hr:r ≤ n):(c * (n + 1) + r) % (n + 1) = r:=by rw [Nat.mul_comm,Nat.mul_add_mod,Nat.mod_eq_of_lt (by omega)]
theorem ps_step {n W u c r s:Nat} {g:Nat→Nat→Nat} {x:List Rat} (hM:MR n W g x) (hc:c ≤ n) (hr:r ≤ n) (hs:(s:Rat) = (W:Rat) * psN n u x (c * (n + 1) + r)) (h:u = 0∨r = 0):((s + g c r:Nat):Rat) = (W:Rat) * psN n u x (c * (n + 1) + (r + 1)):=by
 rw [← Nat.add_assoc,psN_in (by rw [ps_mod hr];exact h),Rat.natCast_add,hs,hM.eq c r hc hr]
 grind
theorem ps_skip {n W u c r s:Nat} {x:List Rat} (hr:r ≤ n) (hs:(s:Rat) = (W:Rat) * psN n u x (c * (n + 1) + r)) (h:¬ (u = 0∨r = 0)):(s:Rat) = (W:Rat) * psN n u x (c * (n + 1) + (r + 1)):=by
 rw [← Nat.add_assoc,psN_out (by rw [ps_mod hr];exact h)];exact hs
theorem ps_row {n W u c s:Nat} {x:List Rat} (hs:(s:Rat) = (W:Rat) * psN n u x (c * (n + 1) + (n + 1))):(s:Rat) = (W:Rat) * psN n u x ((c + 1) * (n + 1) + 0):=by
 rw [Nat.add_zero,Nat.succ_mul];exact hs
theorem natc_le {a b:Nat} (h:(a:Rat) ≤ (b:Rat)):a ≤ b:=by exact_mod_cast h
theorem ps_le {n W u i s:Nat} {x:List Rat} (hs:(s:Rat) = (W:Rat) * psN n u x i) (h:psN n u x i ≤ 1):s ≤ W:=by
 refine natc_le ?_
 rw [hs]
 have h0:(0:Rat) ≤ (W:Rat):=by exact_mod_cast Nat.zero_le W
 have:=Rat.mul_le_mul_of_nonneg_left h h0
 rwa [Rat.mul_one] at this
theorem ps_end {n W u s:Nat} {x:List Rat} (hW:W ≠ 0) (hs:(s:Rat) = (W:Rat) * psN n u x (n * (n + 1) + (n + 1))):mkRat (s:Int) W = stuckR n u x:=by
 rw [← Nat.succ_mul,psN_all] at hs
 have h0:(W:Rat) ≠ 0:=by exact_mod_cast hW
 rw [Rat.mkRat_eq_div,show ((s:Int):Rat) = (s:Rat) from rfl,hs]
 rw [Rat.mul_comm,Rat.div_def,Rat.mul_assoc,Rat.mul_inv_cancel _ h0,Rat.mul_one]
theorem ps_one {t:List Int} {k:Nat} (hz:solE t k = 0) (n u:Nat) {j:Nat} (hj:j ≤ k) {i:Nat} (hi:i ≤ (n + 1) * (n + 1)):psN n u (lvT t k n j) i ≤ 1:=
 Rat.le_trans (psN_le (lv_ok (n:=n) (Fp:=oneS t k) (F:=fun u=>(fT t k u).den) (pT_ch hz) (fun u h1 h2=>(fT_ch hz h1 h2).1) j hj).1 hi) (lv_tot hz n hj)
structure SuG where
 u:Nat
 v:Value
 hs:List HV
structure SuC where
 c:Nat
 v:Value
 s:Nat
attribute [local irreducible] Fit pt own ro vw mpc lpt vels rels mow lrc dfr
attribute [local irreducible] lmp lme mit velg relg bnd owl dfrl evI solE opg shareN nextR firstR lvR
theorem Rover_tr (mv dv:Value) (x W:Nat) (hx:(dg x).length ≤ 262144) (hW:(dg W).length ≤ 262144) (hW0:W ≠ 0):Tr Tryz.prog 63 [mv,dv] [vw mv (Us (dg x)),vw dv (Us (dg W))] [] (FQ (mkRat (x:Int) W)):=by
 have hI:=RIMake_tr false mv (dg x) (Dg_dg _) (by omega)
 have hM:=fun o=>RFMake_tr ((x:Nat):Int) o dv (dg W) (Dg_dg _) hx hW (by rw [nv_dg];exact hW0)
 rw [nv_dg,show sg false x = ((x:Nat):Int) from rfl] at hI
 simp only [nv_dg] at hM
 unfold IR at hI
 unfold iv dz at hM
 unfold FQ2 at hM
 unfold FQ
 clear hx hW
 generalize mkRat (x:Int) W = s at *
 generalize dg W = l2 at *
 rw [show ((x:Nat):Int).natAbs = x from rfl] at *
 have e0:decide (((x:Nat):Int) < 0) = false:=decide_eq_false (by omega)
 rw [e0] at *
 generalize dg x = l1 at *
 refine Tr.enter env _ Tryz.func63 (by kernel_rfl) rfl Tryz.ntmps63 rfl (by repeat (first | exact has00 | refine has01 ?_)) fun w0=>?_
 repeat' first|(refine gca ?_;first|(refine ca hI ?_;rintro _ _ ⟨o,rfl,ho,rfl⟩)|(refine ca (hM o) ?_;rintro _ _ ⟨vn,vd,rfl,hvn,hvd,rfl⟩))|refine al fun c=>?_|refine srz ?_|refine lda ?_|(refine wo ?_;first|refine oa ?_)|refine sq ?_|refine rg ?_|refine xc ?_|refine nl ?_|refine rt ?_
 exact rca1 (cs:=[.bool (decide (s.num < 0)),vn,vd]) (vs:=[.bool (decide (s.num < 0)),vn,vd]) (T:=TRt) ⟨vn,vd,rfl,hvn,hvd,rfl⟩
theorem Rref25_tr (tv:Value) (t:List Int) (k n:Int):Tr Tryz.prog 60 [tv,I k,I n] [vw tv (Is t)] [] fun u D=>u = I (ripE t k n)∧D = []:=by
 have hC:=RSoCheck_tr tv t k
 have h13:=@solE_13 t k
 unfold ripE
 by_cases hc:k < 1∨1024 < k∨n < 0∨4096 < n
 ·rw [if_pos hc]
  refine Tr.enter env _ Tryz.func60 (by kernel_rfl) rfl Tryz.ntmps60 rfl (by repeat (first | exact has00 | refine has01 ?_)) fun w0=>?_
  repeat' first|(refine wo ?_;first|(refine ao ?_;first|refine oa ?_)|refine oa ?_|refine gy ?_|refine gn ?_|(refine gsi (fun hB=>?_) (fun hB=>?_) <;> try (exfalso;omega)))|(refine gc ?_;first|refine ct ?_|(refine ci (fun hB=>?_) (fun hB=>?_) <;> try (exfalso;omega)))|refine sq ?_|refine rg ?_|refine xc ?_|refine nl ?_|refine bk ?_|refine rt ?_
  all_goals exact r1 ⟨rfl,rfl⟩
 ·rw [if_neg hc]
  by_cases hz:solE t k = 0
  ·rw [hz] at hC ⊢
   refine Tr.enter env _ Tryz.func60 (by kernel_rfl) rfl Tryz.ntmps60 rfl (by repeat (first | exact has00 | refine has01 ?_)) fun w0=>?_
   repeat' first|(refine gca ?_;first|(refine ca hC ?_;rintro _ _ ⟨rfl,rfl⟩))|(refine wo ?_;first|(refine ao ?_;first|refine oa ?_)|refine oa ?_|refine gy ?_|(refine gsi (fun hB=>?_) (fun hB=>?_) <;> try (exfalso;omega)))|(refine gc ?_;first|refine cf ?_|(refine ci (fun hB=>?_) (fun hB=>?_) <;> try (exfalso;omega)))|refine sq ?_|refine rg ?_|refine xc ?_|refine nl ?_|refine sk ?_|refine bk ?_|refine rt ?_|refine xb ?_
   exact r1 ⟨rfl,rfl⟩
  ·rw [h13 hz] at hC ⊢
   refine Tr.enter env _ Tryz.func60 (by kernel_rfl) rfl Tryz.ntmps60 rfl (by repeat (first | exact has00 | refine has01 ?_)) fun w0=>?_
   repeat' first|(refine gca ?_;first|(refine ca hC ?_;rintro _ _ ⟨rfl,rfl⟩))|(refine wo ?_;first|(refine ao ?_;first|refine oa ?_)|refine oa ?_|refine gy ?_|(refine gsi (fun hB=>?_) (fun hB=>?_) <;> try (exfalso;omega)))|(refine gc ?_;first|refine ct ?_|(refine ci (fun hB=>?_) (fun hB=>?_) <;> try (exfalso;omega)))|refine sq ?_|refine rg ?_|refine xc ?_|refine nl ?_|refine bk ?_|refine rt ?_
   exact r1 ⟨rfl,rfl⟩
set_option maxHeartbeats 1000000 in
theorem RStuck_tr (tv:Value) (t:List Int) (k n:Nat) (hz:solE t k = 0) (hk:k ≤ 40) (hl:t.length ≤ 12) (hn:n ≤ 12):Tr Tryz.prog 19 [tv,I k,I n] [vw tv (Is t)] []
  fun u D=>∃ v hs,u = tup2 v (I 0)∧v.oneCell' = true∧hs.length = k + 1∧D = [oww TRt 3 v (k + 1) (rcs (stL t k n) hs),ofr hs (stL t k n)]:=by
 have hk1:=(solE_zero hz).1
 have hR:=Rref25_tr tv t k n
 rw [show ripE t k n = 0 by unfold ripE;rw [if_neg (by omega)];exact hz] at hR
 have hLv:=Rlevels_tr tv t k n hz hk hl hn
 have hone:=fun u j (hj:j ≤ k) i (hi:i ≤ (n + 1) * (n + 1))=>ps_one hz n u (j:=j) hj (i:=i) hi
 have hstT:∀ u,stuckR n u (lvT t k n (k - u)) = stT t k n u:=fun u=>rfl
 have hsl:=stL_len t k n
 have hsg:=fun i (h:i < k + 1)=>stL_get (t:=t) (n:=n) h
 have htks:=fun i (h:i < k + 1)=>take_succ' (l:=stL t k n) (by rw [hsl];exact h) 0
 clear hz
 generalize stL t k n = LL at *
 refine Tr.enter env _ Tryz.func19 (by kernel_rfl) rfl Tryz.ntmps19 rfl (by repeat (first | exact has00 | refine has01 ?_)) fun w0=>?_
 repeat' first|(refine gca ?_;first|(refine ca hR ?_;rintro _ _ ⟨rfl,rfl⟩)|(refine ca hLv ?_;rintro lv _ ⟨Ls,hlv,hLl,hLK,rfl⟩))|(refine wo ?_;first|(refine ao ?_;first|refine oa ?_)|refine oa ?_)|(refine gc ?_;first|refine cf ?_)|refine sq ?_|refine rg ?_|refine xc ?_|refine nl ?_|refine sk ?_|refine bk ?_
 refine TC.im (oww_nil TRt 3 _) ?_
 refine TC.im (owl_nil (e:=T64) (g:=wU) _) ?_
 refine TC.loop (ι:=SuG) (fun g=>[(11,I g.u),(10,g.v)]) (fun g=>[oww TRt 3 g.v g.u (rcs (LL.take g.u) g.hs),ofr g.hs (LL.take g.u)]) (fun g=>g.u ≤ k + 1∧g.v.oneCell' = true∧g.hs.length = g.u) (fun g=>k + 1 - g.u) ⟨0,nS,[]⟩ [0,1,2,9] ⟨Nat.zero_le _,rfl,rfl⟩ ?_
 rintro ⟨u,v,hs'⟩ ⟨hu,hv,hhs⟩
 dsimp only at hu hv hhs ⊢
 by_cases hut:u < k + 1
 rotate_left
 ·obtain rfl:u = k + 1:=by omega
  rw [List.take_of_length_le (by rw [hsl];exact Nat.le_refl _)]
  repeat' first|(refine wo ?_;first|(refine ao ?_;first|refine oa ?_)|refine oa ?_)|(refine gc ?_;first|(refine ci (fun hB=>?_) (fun hB=>?_) <;> try (exfalso;omega)))|refine sq ?_|refine rg ?_|refine xc ?_|refine nl ?_|refine xe ?_|refine rt ?_
  exact r2 ⟨v,hs',rfl,hv,hhs,rfl⟩
 obtain ⟨j,hj⟩ : ∃ j,j = k - u:=⟨_,rfl⟩
 have hjk:j < k + 1:=by omega
 have hkj:(k:Int) - u = (j:Int):=by omega
 obtain ⟨r,hr⟩ : ∃ r,Ls[j]? = some r:=⟨Ls[j]'(by omega),List.getElem?_eq_getElem _⟩
 have hrK:=hLK j r hr
 have hrow:=lcs_row hr
 have hst:=hstT u
 rw [← hj] at hst
 have hone:=hone u j (by omega)
 have hWl:=hrK.wl
 have hW0:=hrK.w0
 have hMR:=hrK.eq
 have hgle:=hrK.le
 have hxv:=hrK.v1
 have hxd:=hrK.d1
 clear hLK hstT hrK
 obtain ⟨xv,xd,rG,rW⟩:=r
 dsimp only at hrow hWl hW0 hMR hgle hxv hxd
 have hlc:=lcs_len Ls
 repeat' first|refine aw (m:=(j:Int)) ?_ (h:=by rw [← hkj];rfl)|refine ixws (i:=(j:Int)) (N:=k + 1) (xs:=lcs Ls) ?_ (hm:=has_oww memA)|refine ldaw (N:=k + 1) (xs:=lcs Ls) (m:=2 * j) hrow ?_ (hm:=has_oww memA)|refine al fun c12=>?_|refine srz ?_ (hj:=Nat.le_of_ble_eq_true rfl)|(refine wo ?_;first|(refine ao ?_;first|refine oa ?_)|refine oa ?_)|(refine gc ?_;first|(refine ci (fun hB=>?_) (fun hB=>?_) <;> try (exfalso;omega)))|refine sq ?_|refine rg ?_|refine xc ?_|refine nl ?_|refine sk ?_|refine bk ?_
 refine TC.im (own_nil T64 _) ?_
 refine TC.loop (ι:=SuC) (fun g=>[(14,I g.c),(13,g.v)]) (fun g=>[own T64 g.v (Us (dg g.s))]) (fun g=>g.c ≤ n + 1∧g.v.oneCell' = true∧(g.s:Rat) = (rW:Rat) * psN n u (lvT t k n j) (g.c * (n + 1) + 0)) (fun g=>n + 1 - g.c) ⟨0,nS,0⟩ [0,1,2,9,10,11,12] ⟨Nat.zero_le _,rfl,by dsimp only;rw [Nat.zero_mul,psN_zero,Rat.mul_zero];rfl⟩ ?_ (hf:=by dsimp only;rw [dg_zero];exact fitA)
 rintro ⟨c,sv,s⟩ ⟨hc,hsv,hs⟩
 dsimp only at hc hsv hs ⊢
 by_cases hct:c < n + 1
 rotate_left
 ·obtain rfl:c = n + 1:=by omega
  have hse:(s:Rat) = (rW:Rat) * psN n u (lvT t k n j) (n * (n + 1) + (n + 1)):=by rw [Nat.succ_mul] at hs;exact hs
  have hq:=ps_end hW0 hse
  have hsW:s ≤ rW:=ps_le hse (hone _ (by rw [Nat.succ_mul];exact Nat.le_refl _))
  have hOv:=Rover_tr sv xd s rW (Nat.le_trans (dg_mono hsW) (by omega)) (by omega) hW0
  rw [hq,hst,← hsg u hut] at hOv
  have htk:=htks u hut
  have hrap:=fun p=>rcs_app (qs:=LL.take u) (rs:=[LL.getD u 0]) (hs:=hs') (gs:=[p]) (by rw [List.length_take,hsl];omega)
  have hsn:=fun (v1 v2:Value) (A F:List Ch) hf=>ofr_snoc (hs:=hs') (qs:=LL.take u) (by rw [List.length_take,hsl];omega) (LL.getD u 0) v1 v2 (A:=A) (F:=F) hf
  rw [← htk] at hsn hrap
  unfold FQ at hOv
  clear hs hse hq hsW hone hMR hgle hWl hrow hsg htks hst htk
  simp only [rcs_one] at hrap
  generalize LL.getD u 0 = qq at *
  repeat' first|(refine gca ?_;first|(refine ca hOv ?_ (hp:=has1 hasA (has1 (lv_d memA hr) has0));rintro _ _ ⟨vn,vd,rfl,hvn,hvd,rfl⟩))|refine slws (sz:=3) (xs:=rrow qq (vn,vd)) fun g2=>?_|refine apw (e:=TRt) (sz:=3) (N:=u) (M:=1) (xs:=rcs (LL.take u) hs') (ys:=rrow qq (vn,vd)) (by decide) rfl (one_cons rfl (one_cons hvn (one_cons hvd one_nil))) fun v' hv'=>?_|(refine wo ?_;first|(refine ao ?_;first|refine aw ?_|refine oa ?_)|refine oa ?_|refine ld ?_)|(refine gc ?_;first|(refine ci (fun hB=>?_) (fun hB=>?_) <;> try (exfalso;omega)))|refine sq ?_|refine rg ?_|refine xc ?_|refine nl ?_|refine xe ?_|refine xb ?_
  refine TX.im (hsn vn vd _ _ fitA) ?_
  exact lp ⟨u + 1,v',hs' ++ [(vn,vd)]⟩ ⟨hut,hv',by simp [hhs]⟩ (hf:=by dsimp only;rw [hrap];exact fitA)
 repeat' first|(refine wo ?_;first|(refine ao ?_;first|refine oa ?_)|refine oa ?_)|(refine gc ?_;first|(refine ci (fun hB=>?_) (fun hB=>?_) <;> try (exfalso;omega)))|refine sq ?_|refine rg ?_|refine xc ?_|refine nl ?_|refine sk ?_|refine bk ?_
 refine TC.loop (ι:=SuC) (fun g=>[(15,I g.c),(13,g.v)]) (fun g=>[own T64 g.v (Us (dg g.s))]) (fun g=>g.c ≤ n + 1∧g.v.oneCell' = true∧(g.s:Rat) = (rW:Rat) * psN n u (lvT t k n j) (c * (n + 1) + g.c)) (fun g=>n + 1 - g.c) ⟨0,sv,s⟩ [0,1,2,9,10,11,12,14] ⟨Nat.zero_le _,hsv,hs⟩ ?_
 clear hsv hs
 rintro ⟨q,sv,s⟩ ⟨hq,hsv,hs⟩
 dsimp only at hq hsv hs ⊢
 by_cases hqt:q < n + 1
 rotate_left
 ·obtain rfl:q = n + 1:=by omega
  have hs2:=ps_row hs
  clear hs
  repeat' first|(refine wo ?_;first|(refine ao ?_;first|refine aw ?_|refine oa ?_)|refine oa ?_)|(refine gc ?_;first|(refine ci (fun hB=>?_) (fun hB=>?_) <;> try (exfalso;omega)))|refine sq ?_|refine rg ?_|refine xc ?_|refine nl ?_|refine xe ?_|refine xb ?_
  exact lp ⟨c + 1,sv,s⟩ ⟨hct,hsv,hs2⟩
 have hsW:s ≤ rW:=ps_le hs (hone _ (by have:=Nat.mul_le_mul_right (n + 1) (show c + 1 ≤ n + 1 by omega);rw [Nat.succ_mul] at this;omega))
 have hAd:=RAdd_tr sv ((rG.c.getD c []).getD q nS) (dg s) (dg (rG.get c q)) (Dg_dg _) (Dg_dg _) (Nat.le_trans (Nat.le_trans (dg_mono hsW) hWl) (by omega)) (Nat.le_trans (Nat.le_trans (dg_mono (hgle c q (by omega) (by omega))) hWl) (by omega))
 rw [nv_dg,nv_dg] at hAd
 by_cases h:u = 0∨q = 0
 ·have hs2:=ps_step hMR (by omega) (by omega) hs h
  clear hs hsW hone hMR hgle hrow hst
  generalize s + rG.get c q = s2 at *
  repeat' first|(refine gca ?_;first|(refine ca hAd ?_ (hp:=has1 hasA (has1 (vm_c (lv_x memA hr) hct hqt) has0));rintro o _ ⟨ho,rfl⟩))|refine ixn (i:=c) (xs:=rG.h) ?_ (hh:=vm_h (lv_x memA hr)) (hb:=by rw [rG.hl];omega)|refine le (xs:=rG.h) ?_ (hh:=vm_h (lv_x memA hr)) (hj:=gm_h hct)|refine ixn (i:=q) (xs:=rG.c.getD c []) ?_ (hh:=vm_r (lv_x memA hr) hct) (hb:=by rw [rG.cc c hct];omega)|refine le (xs:=rG.c.getD c []) ?_ (hh:=vm_r (lv_x memA hr) hct) (hj:=gm_c hct hqt)|(refine wo ?_;first|(refine ao ?_;first|refine aw ?_|refine oa ?_)|refine oa ?_|refine ld ?_|refine gy ?_|refine gn ?_|(refine gsi (fun hB=>?_) (fun hB=>?_) <;> try (exfalso;omega)))|(refine gc ?_;first|refine ct ?_|(refine ci (fun hB=>?_) (fun hB=>?_) <;> try (exfalso;omega)))|refine sq ?_|refine rg ?_|refine xc ?_|refine nl ?_|refine sk ?_|refine bk ?_|refine xb ?_
  all_goals exact lp ⟨q + 1,o,s2⟩ ⟨hqt,ho,hs2⟩
 ·have hs2:=ps_skip (n:=n) (by omega) hs h
  clear hAd hsW
  repeat' first|(refine wo ?_;first|(refine ao ?_;first|refine aw ?_|refine oa ?_)|refine oa ?_|refine gy ?_|(refine gsi (fun hB=>?_) (fun hB=>?_) <;> try (exfalso;omega)))|(refine gc ?_;first|(refine ci (fun hB=>?_) (fun hB=>?_) <;> try (exfalso;omega)))|refine sq ?_|refine rg ?_|refine xc ?_|refine nl ?_|refine sk ?_|refine bk ?_|refine xb ?_
  exact lp ⟨q + 1,sv,s⟩ ⟨hqt,hsv,hs2⟩
end Go.Art
namespace Go.Art
open Go Go.Proofs Go.RowKit
def sIx (x:List Rat) (m:Nat):List Nat:=(List.range m).filter fun i=>decide (x.getD i 0 ≠ 0)
abbrev srow (c r:Nat) (q:Rat) (h:HV):List Value:=[I (c:Int),I (r:Int),.bool (decide (q.num < 0)),h.1,h.2]
def scs (n:Nat) (x:List Rat) (is:List Nat) (hs:List HV):List Value:=(List.zipWith (fun i h=>srow (i / (n + 1)) (i % (n + 1)) (x.getD i 0) h) is hs).flatten
structure SsG where
 es:List (Option HV)
 v:Value
 is:List Nat
 hs:List HV
structure SsI (x:List Rat) (ez:List (Option HV)) (N i:Nat) (g:SsG):Prop where
 ii:g.is = sIx x i
 ov:g.v.oneCell' = true
 hl:g.hs.length = g.is.length
 el:g.es.length = N
 es:∀ j,i ≤ j→j < N→g.es.getD j none = ez.getD j none
structure SdG where
 d:Bool
 v:Value
 is:List Nat
 hs:List HV
attribute [local irreducible] Fit pt own ro vw mpc lpt vels rels mow lrc dfr
attribute [local irreducible] lmp lme mit velg relg bnd owl dfrl gow shB grB
abbrev TSt:TypeId:=45
abbrev TSs:TypeId:=41
abbrev ssD (n:Nat) (x:List Rat) (v:Value) (is:List Nat) (hs:List HV):List Ch:=[oww TSt 5 v is.length (scs n x is hs),ofr hs (is.map fun i=>x.getD i 0)]
end Go.Art
namespace Go.Art
open Go Go.Proofs Go.RowKit
theorem part_FB5 {t:List Int} {k n i:Nat} (hz:solE t k = 0) (hk:k ≤ 40) (hl:t.length ≤ 12) (hn:n ≤ 12) (hi:i ≤ k):FB (sR (fun u=>stT t k n (u + 1)) (List.range i)) 100000:=by
 obtain ⟨a,ha,he⟩:=part_nat hz n i hi
 rw [he]
 have h1:=oneS_lt hz hk hl
 have h2:oneS t k ^ n < 18446744073709551616 ^ 121:=by
  refine Nat.lt_of_le_of_lt (Nat.pow_le_pow_left (Nat.le_of_lt h1) n) ?_
  rw [← Nat.pow_mul]
  exact Nat.pow_lt_pow_right (by decide) (by omega)
 exact (FB_nat (B:=121) (Nat.ne_of_gt (Nat.pow_pos (Nat.pos_of_ne_zero (oneS_pos hz)))) (Nat.lt_of_le_of_lt ha h2) h2).le (by decide)
theorem st_FB5 {t:List Int} {k n u:Nat} (hz:solE t k = 0) (hk:k ≤ 40) (hl:t.length ≤ 12) (hn:n ≤ 12) (hu:u ≤ k):FB (stT t k n u) 100000:=by
 obtain ⟨B,hB⟩ : ∃ B,B = 20000:=⟨_,rfl⟩
 have hB9:B ≤ 100000:=by omega
 obtain ⟨b1,b2,b3,b4⟩:=lvT_facts hz hk hl hn hB (j:=k - u) (by omega)
 unfold stT
 rw [← psN_all]
 exact (FB_le1 (psN_fr b1 (Nat.le_refl _)) b3 (Rat.le_trans (psN_le b1 (Nat.le_refl _)) b2) b4).le hB9
structure SwG where
 c:Nat
 v:Value
 is:List Nat
 hs:List HV
attribute [local irreducible] Fit pt own ro vw mpc lpt vels rels mow lrc dfr
attribute [local irreducible] lmp lme mit velg relg bnd owl dfrl evI solE opg shareN nextR firstR lvR
theorem RFail_ok (tv:Value) (t:List Int) (k n:Nat) (hz:solE t k = 0) (hk:k ≤ 40) (hl:t.length ≤ 12) (hn:n ≤ 12):Tr Tryz.prog 21 [tv,I k,I n] [vw tv (Is t)] [] (FQ2 (failQ t k n) 0):=by
 have hS:=RStuck_tr tv t k n hz hk hl hn
 have hF1:=fun i (hi:i < k)=>st_FB5 hz hk hl hn (u:=i + 1) hi
 have hF2:=fun i (hi:i ≤ k)=>part_FB5 hz hk hl hn hi
 have hpart:=stL_part t k n
 have hget:=fun i (hi:i < k)=>stL_get (t:=t) (n:=n) (i:=i + 1) (Nat.succ_lt_succ hi)
 have hLL:=stL_len t k n
 have hq:failQ t k n = ((stL t k n).drop 1).foldl (· + ·) 0:=by
  have:=hpart k (Nat.le_refl k)
  rw [List.take_of_length_le (by rw [List.length_drop,hLL];omega)] at this
  exact this.symm
 rw [hq]
 clear hq
 generalize stL t k n = LL at *
 cases LL with
 | nil=>simp at hLL
 | cons q0 qs=>
 have hql:qs.length = k:=by simpa using hLL
 rw [List.drop_succ_cons,List.drop_zero] at hpart ⊢
 have hAdd:=fun v hs (hl':hs.length = qs.length)=>RFAdd_tr v qs hs hl' (by omega) (fun i hi=>by
  have:=hget i (by omega)
  rw [List.getD_cons_succ] at this
  rw [this];exact hF1 i (by omega)) (fun i hi=>by rw [hpart i (by omega)];exact hF2 i (by omega))
 clear hF1 hF2 hpart hget
 unfold FQ2 at hAdd ⊢
 rw [hql] at hAdd
 generalize qs.foldl (· + ·) (0:Rat) = p at *
 refine Tr.enter env _ Tryz.func21 (by kernel_rfl) rfl Tryz.ntmps21 rfl (by repeat (first | exact has00 | refine has01 ?_)) fun w0=>?_
 repeat' first|refine al fun c=>?_|refine srz ?_|refine (ca hS ?_) ; rintro _ _ ⟨v,hs,rfl,hv,hhs,rfl⟩|(refine wo ?_;first|(refine ao ?_;first|refine oa ?_)|refine oa ?_)|(refine gc ?_;first|refine cf ?_)|refine sq ?_|refine rg ?_|refine xc ?_|refine nl ?_|refine sk ?_
 obtain ⟨h0,hr,rfl⟩ : ∃ h0 hr,hs = h0 :: hr:=by cases hs with | nil=>simp at hhs | cons a b=>exact ⟨a,b,rfl⟩
 have hrl:hr.length = qs.length:=by simp at hhs;omega
 refine TO.im (ofr_pop (h:=h0) (hs:=hr) (q:=q0) (qs:=qs) fitA) ?_
 have hlen:(rcs (q0 :: qs) (h0 :: hr)).length ≤ (k + 1) * 3:=by rw [rcs_len (by simpa using hrl),List.length_cons,hql];exact Nat.le_refl _
 have hdr:(rcs (q0 :: qs) (h0 :: hr)).drop (1 * 3) = rcs qs hr:=rfl
 repeat' first|(refine gca ?_;first|(refine ca (hAdd _ hr (by omega)) ?_ (hp:=has1 (has_subW (e:=TRt) (sz:=3) memA hlen (by omega) (by omega) hdr) (has1 (has_ofr hrl memA) has0));rintro _ _ ⟨vn,vd,rfl,hvn,hvd,rfl⟩))|refine slw1 (sz:=3) (lo:=1) (N:=k + 1) ?_ (Nat.le_add_left 1 k) (hm:=has_oww memA)|refine srz ?_|(refine wo ?_;first|refine oa ?_)|refine xc ?_|refine nl ?_|refine rt ?_
 exact rca (cs:=[.bool (decide (p.num < 0)),vn,vd]) (vs:=[.bool (decide (p.num < 0)),vn,vd]) (T:=TRt) ⟨vn,vd,rfl,hvn,hvd,rfl⟩
end Go.Art
namespace Go.Art
open Go Go.Proofs Go.RowKit
structure SeqR (P:Program) (f:FuncId) (cap:Array Value) (U:Ch) (qs:List Rat):Prop where
 run:∀ {α:Type} (V:Ch) [Lent V] (l:Nat) (J:α→Ch) (pl:α→Nat→Prop) (S:α→Prop) (a0:α),pl a0 0→(∀ a b,¬ (J a).bd b) →
  (∀ a i v1 v2,v1.oneCell' = true→v2.oneCell' = true→pl a i→i < qs.length→Ty P l [I (i:Int),rv (qs.getD i 0) v1 v2] [V] [own T64 v1 (Us (dg (qs.getD i 0).num.natAbs)),own T64 v2 (Us (dg (qs.getD i 0).den)),J a] fun ok B=>∃ a',B = [J a']∧((ok = true∧pl a' (i + 1))∨(ok = false∧S a'))) →
  Tr P f (yv l :: cap.toList) [V,U] [J a0] fun _ B=>∃ a,B = [J a]∧(pl a qs.length∨S a)
def curL (t:List Int) (k e:Nat):List Rat:=(List.range e).map (failQ t k)
theorem curL_len (t:List Int) (k e:Nat):(curL t k e).length = e:=by simp [curL]
theorem curL_get {t:List Int} {k e i:Nat} (h:i < e):(curL t k e).getD i 0 = failQ t k i:=by simp [curL,List.getD_eq_getElem?_getD,h]
attribute [local irreducible] Fit pt own ro vw mpc lpt vels rels mow lrc dfr
attribute [local irreducible] lmp lme mit velg relg bnd owl dfrl gow shB grB
theorem curefuses_tr (tv:Value) (t:List Int) (k n:Int):Tr Tryz.prog 91 [tv,I k,I n] [vw tv (Is t)] [] fun u D=>u = I (ripE t k n)∧D = []:=by
 have hC:=SoCheck_tr tv t k
 have h13:=@solE_13 t k
 unfold ripE
 by_cases hc:k < 1∨1024 < k∨n < 0∨4096 < n
 ·rw [if_pos hc]
  refine Tr.enter env _ Tryz.func91 (by kernel_rfl) rfl Tryz.ntmps91 rfl (by repeat (first | exact has00 | refine has01 ?_)) fun w0=>?_
  repeat' first|(refine wo ?_;first|(refine ao ?_;first|refine oa ?_)|refine oa ?_|refine gy ?_|refine gn ?_|(refine gsi (fun hB=>?_) (fun hB=>?_) <;> try (exfalso;omega)))|(refine gc ?_;first|refine ct ?_|(refine ci (fun hB=>?_) (fun hB=>?_) <;> try (exfalso;omega)))|refine sq ?_|refine rg ?_|refine xc ?_|refine nl ?_|refine bk ?_|refine rt ?_
  all_goals exact r1 ⟨rfl,rfl⟩
 ·rw [if_neg hc]
  by_cases hz:solE t k = 0
  ·rw [hz] at hC ⊢
   refine Tr.enter env _ Tryz.func91 (by kernel_rfl) rfl Tryz.ntmps91 rfl (by repeat (first | exact has00 | refine has01 ?_)) fun w0=>?_
   repeat' first|(refine gca ?_;first|(refine ca hC ?_;rintro _ _ ⟨rfl,rfl⟩))|(refine wo ?_;first|(refine ao ?_;first|refine oa ?_)|refine oa ?_|refine gy ?_|(refine gsi (fun hB=>?_) (fun hB=>?_) <;> try (exfalso;omega)))|(refine gc ?_;first|refine cf ?_|(refine ci (fun hB=>?_) (fun hB=>?_) <;> try (exfalso;omega)))|refine sq ?_|refine rg ?_|refine xc ?_|refine nl ?_|refine sk ?_|refine bk ?_|refine rt ?_|refine xb ?_
   exact r1 ⟨rfl,rfl⟩
  ·rw [h13 hz] at hC ⊢
   refine Tr.enter env _ Tryz.func91 (by kernel_rfl) rfl Tryz.ntmps91 rfl (by repeat (first | exact has00 | refine has01 ?_)) fun w0=>?_
   repeat' first|(refine gca ?_;first|(refine ca hC ?_;rintro _ _ ⟨rfl,rfl⟩))|(refine wo ?_;first|(refine ao ?_;first|refine oa ?_)|refine oa ?_|refine gy ?_|(refine gsi (fun hB=>?_) (fun hB=>?_) <;> try (exfalso;omega)))|(refine gc ?_;first|refine ct ?_|(refine ci (fun hB=>?_) (fun hB=>?_) <;> try (exfalso;omega)))|refine sq ?_|refine rg ?_|refine xc ?_|refine nl ?_|refine bk ?_|refine rt ?_
   exact r1 ⟨rfl,rfl⟩
theorem points_tr (tv:Value) (htv:tv.oneCell' = true) (k n:Int):Tr Tryz.prog 93 [tv,I k,I n] [] [] fun u D=>∃ p1 p2 p3,u = .func (.func 156) #[] #[ptr p1,ptr p2,ptr p3]∧D = [pt p1 [I n] TLI,pt p3 [I k] TLI,pt p2 [tv] TLs]:=by
 refine Tr.enter env _ Tryz.func93 (by kernel_rfl) rfl Tryz.ntmps93 rfl (by repeat (first | exact has00 | refine has01 ?_)) fun w0=>?_
 repeat' first|refine bx1 fun c=>?_|(refine wo ?_;first|refine oa ?_)|refine sq ?_|refine rg ?_|refine xc ?_|refine nl ?_|refine rt ?_
 rename_i c3 c4
 exact r1 ⟨c,c3,c4,rfl,rfl⟩
theorem points1_seq (p1 p2 p3:Nat) (tv:Value) (htv:tv.oneCell' = true) (t:List Int) (k e:Nat) (hz:solE t k = 0) (hk:k ≤ 40) (hl:t.length ≤ 12) (he:e ≤ 13) :
  SeqR Tryz.prog 156 #[ptr p1,ptr p2,ptr p3] (lbd [lpt p1 [I e] TLI,lpt p2 [tv] TLs,lpt p3 [I k] TLI,vw tv (Is t)]) (curL t k e):=by
 refine ⟨fun {α} V hV l J pl S a0 h0 hnb hy=>?_⟩
 haveI:=hV
 haveI:∀ a,NoB (J a):=fun a=>⟨hnb a⟩
 refine Tr.pre (pre:=[V,lpt p1 [I e] TLI,lpt p2 [tv] TLs,lpt p3 [I k] TLI,vw tv (Is t)]) ?_ (has1 (has_mem (by simp)) (has_lbds (C:=[lpt p1 [I e] TLI,lpt p2 [tv] TLs,lpt p3 [I k] TLI,vw tv (Is t)]) (by simp) _ (by repeat (first | exact has00 | refine has01 ?_)) fun c hc=>hc)) (by repeat (first | exact has00 | refine has01 ?_))
 rw [curL_len] at hy ⊢
 have hF:=fun i (hi:i < e)=>Fail_ok tv htv t k i hz hk hl (by omega)
 have hget:=fun i (hi:i < e)=>curL_get (t:=t) (k:=k) hi
 clear hz
 refine Tr.enter env _ Tryz.func156 (by kernel_rfl) rfl Tryz.ntmps156 rfl (by repeat (first | exact has00 | refine has01 ?_)) fun w0=>?_
 repeat' first|(refine wo ?_;first|refine oa ?_|refine ldl ?_)|refine sq ?_|refine rg ?_|refine xc ?_|refine nl ?_|refine bk ?_
 refine TC.loop (ι:=InS α) (fun g=>[(9,I g.i)]) (fun g=>[J g.a]) (fun g=>g.i ≤ e∧pl g.a g.i) (fun g=>e - g.i) ⟨0,a0⟩ [0,1,2,3,8] ⟨Nat.zero_le _,h0⟩ ?_
 rintro ⟨i,a⟩ ⟨hi,ha⟩
 dsimp only at hi ha ⊢
 by_cases hlt:i < e
 ·have hN:=hF i hlt
  have hG:=hget i hlt
  have hyi:=fun v1 v2 h1 h2=>hy a i v1 v2 h1 h2 ha hlt
  rw [hG] at hyi
  unfold FQ2 at hN
  clear hF hget hG hy
  generalize failQ t k i = q at *
  repeat' first|(refine gca ?_;first|(refine ca hN ?_;rintro _ _ ⟨n1,d1,rfl,hn1,hd1,rfl⟩))|refine al fun c6=>?_|refine srz ?_|refine lda (vs:=rrow q (n1,d1)) ?_|(refine cy (hyi n1 d1 hn1 hd1) ?_ (hp:=has1 (has_mem memA) has0);rintro ok _ ⟨a2,rfl,⟨rfl,h3⟩ | ⟨rfl,h3⟩⟩)|(refine wo ?_;first|(refine ao ?_;first|refine aw ?_|refine oa ?_)|refine oa ?_|refine ldl ?_|refine gy ?_)|(refine gc ?_;first|refine ct ?_|refine cf ?_|(refine ci (fun hB=>?_) (fun hB=>?_) <;> try (exfalso;omega)))|refine sq ?_|refine rg ?_|refine xc ?_|refine nl ?_|refine sk ?_|refine bk ?_|refine rt ?_|refine xb ?_
  ·exact lp ⟨i + 1,a2⟩ ⟨hlt,h3⟩
  ·exact r0 ⟨a2,rfl,.inr h3⟩
 ·obtain rfl:i = e:=by omega
  repeat' first|(refine wo ?_;first|(refine ao ?_;first|refine oa ?_))|(refine gc ?_;first|(refine ci (fun hB=>?_) (fun hB=>?_) <;> try (exfalso;omega)))|refine sq ?_|refine rg ?_|refine xc ?_|refine nl ?_|refine xe ?_
  exact e0 ⟨a,rfl,.inl ha⟩
end Go.Art
namespace Go.Art
open Go Go.Proofs Go.RowKit
section
variable {P:Program} {E:Env P} {n:Sh} {fr:Fr} {A A' D G:List Ch} {m:Nat}
theorem mt1 {Ds:List Nat} {w0:World} {A0:List Ch} {R':Value→List Ch→Prop} {fn:Func} {t:Nat} {v1:Value} (h:R' v1 D) (hr:fn.results = #[.tmp t]:=by rfl) (hv:get fr t = some v1:=by rfl)
  (hm:Tk (dfrl Ds) A A':=by exact tkA) (hf:Fit A' D G:=by exact fitA) (nb:∀ c ∈ D,∀ b,¬ c.bd b:=by (repeat (first | exact nb0 | refine nb1 ?_));first | done | fail) (hn:n = ⟨m,marks Ds,none⟩:=by rfl) :
  TX E n ⟨bodyPostM (FF none) 0 P fn (RetP (PR w0 A0 R')),w0,A0⟩ [] .ret fr A:=by
 subst hn
 exact mG (.inl rfl) h (fun w hw a ha=>res_t ha hr hv) hm hf nb
end
structure CfS where
 i:Nat
 v:Value
 hs:List HV
theorem qs_snoc {qs:List Rat} {i:Nat} (h:i < qs.length):qs.take i ++ [qs.getD i 0] = qs.take (i + 1):=(take_succ' h 0).symm
attribute [local irreducible] Fit pt own ro vw mpc lpt vels rels mow lrc dfr
attribute [local irreducible] lmp lme mit velg relg bnd owl dfrl gow shB grB
abbrev TF4:TypeId:=132
abbrev TF5:TypeId:=134
theorem put_tr' (lv uv:Value) (m:Nat) (hm:m ≤ 4096) (xs:List Value) (q:Rat) (x1 x2:Value) (h1:x1.oneCell' = true) (h2:x2.oneCell' = true):Tr Tryz.prog 98 [lv,uv] [vwf uv 1 (rrow q (x1,x2))] [oww TRt 3 lv m xs] fun u D=>u.oneCell' = true∧D = [oww TRt 3 u (m + 1) (xs ++ rrow q (x1,x2))]:=by
 refine Tr.enter env _ Tryz.func98 (by kernel_rfl) rfl Tryz.ntmps98 rfl (by repeat (first | exact has00 | refine has01 ?_)) fun w0=>?_
 repeat' first|refine apw (e:=TRt) (sz:=3) (N:=m) (M:=1) (xs:=xs) (ys:=rrow q (x1,x2)) (by decide) rfl (one_cons rfl (one_cons h1 (one_cons h2 one_nil))) (fun v' hv'=>?_) (hu:=has_vwf memA)|(refine wo ?_;first|refine oa ?_)|refine sq ?_|refine rg ?_|refine xc ?_|refine nl ?_|refine rt ?_
 exact r1 ⟨hv',rfl⟩
theorem add1_tr (p q:Rat) (v1 v2 x1 x2 uv:Value) (h1:v1.oneCell' = true) (h2:v2.oneCell' = true) (g1:x1.oneCell' = true) (g2:x2.oneCell' = true) (hp:FB p 8589934592) (hq:FB q 8589934592) :
  Tr Tryz.prog 100 [rv p v1 v2,uv] [vw v1 (Us (dg p.num.natAbs)),vw v2 (Us (dg p.den)),vw x1 (Us (dg q.num.natAbs)),vw x2 (Us (dg q.den))] [oww TRt 3 uv 1 (rrow q (x1,x2))] (FQ (q + p)):=by
 have hA:=fun lv=>FAdd2_tr q p lv x1 x2 v1 v2 hq hp
 unfold FQ2 at hA
 unfold FQ
 obtain ⟨s,hs⟩ : ∃ s,s = q + p:=⟨_,rfl⟩
 rw [← hs] at hA ⊢
 refine Tr.enter env _ Tryz.func100 (by kernel_rfl) rfl Tryz.ntmps100 rfl (by repeat (first | exact has00 | refine has01 ?_)) fun w0=>?_
 repeat' first|(refine gca ?_;first|(refine ca (hA _) ?_ (hp:=has1 (has_oww memA) (has1 hasA (has1 hasA (has1 hasA (has1 hasA has0)))));rintro _ _ ⟨n1,n2,rfl,hn1,hn2,rfl⟩))|refine bx fun b=>?_|refine al fun c=>?_|refine lda ?_|refine slws (sz:=3) (xs:=rrow p (v1,v2)) fun g2=>?_|refine apw (e:=TRt) (sz:=3) (N:=1) (M:=1) (xs:=rrow q (x1,x2)) (ys:=rrow p (v1,v2)) (by decide) rfl (one_cons rfl (one_cons h1 (one_cons h2 one_nil))) (fun v' hv'=>?_)|refine srz ?_|(refine wo ?_;first|refine oa ?_)|refine sq ?_|refine rg ?_|refine xc ?_|refine nl ?_|refine rt ?_
 exact rca1 (cs:=[.bool (decide (s.num < 0)),n1,n2]) (vs:=[.bool (decide (s.num < 0)),n1,n2]) (T:=TRt) ⟨n1,n2,rfl,hn1,hn2,rfl⟩
theorem lfold_tr (f:FuncId) (cap:Array Value) (U:Ch) [Lent U] (qs:List Rat) (hS:SeqR Tryz.prog f cap U qs) (hM:qs.length ≤ 4096) :
  Tr Tryz.prog 99 [.func (.func f) #[] cap,nS,.func (.func 98) #[] #[]] [U] [] fun u D=>∃ hs:List HV,u.oneCell' = true∧hs.length = qs.length∧D = [oww TRt 3 u qs.length (rcs qs hs),ofr hs qs]:=by
 have hrun:=@SeqR.run _ _ _ _ _ hS
 clear hS
 refine Tr.enterM env _ Tryz.func99 (by kernel_rfl) rfl Tryz.ntmps99 rfl (by repeat (first | exact has00 | refine has01 ?_)) fun w0=>?_
 repeat' first|refine bx1 fun c4=>?_|(refine wo ?_;first|refine oa ?_)|refine sq ?_|refine rg ?_|refine xc ?_|refine nl ?_|refine bk ?_
 rename_i c3
 refine TC.im (oww_nil TRt 3 _) ?_
 refine TC.im (owl_nil (e:=T64) (g:=wU) _) ?_
 refine TC.range [lpt c4 [.func (.func 98) #[] #[]] TF4,U] [pt c3 [nS] TRs,oww TRt 3 nS 0 [],ofr [] []] (fun l2 rec Dm pend B'=>∃ v hs,B' = [dfr Dm,pt c3 [v] TRs,oww TRt 3 v qs.length (rcs qs hs),ofr hs qs]∧pend = none∧v.oneCell' = true∧hs.length = qs.length) ?_ ?_ (hp:=has1 hasA (has1 (has_mem memA) has0))
 ·intro rec l2 Dm hr
  refine Tr.unb (hrun (α:=CfS) (lpt c4 [.func (.func 98) #[] #[]] TF4) l2 (fun g=>bnd [lrc l2 rec .ready none,dfr Dm,pt c3 [g.v] TRs,oww TRt 3 g.v g.i (rcs (qs.take g.i) g.hs),ofr g.hs (qs.take g.i)]) (fun g i=>g.i = i∧g.v.oneCell' = true∧g.hs.length = i) (fun _=>False) ⟨0,nS,[]⟩ ⟨rfl,rfl,rfl⟩ (fun p=>bnd_nob (by repeat (first | exact nb0 | refine nb1 ?_))) ?_) ?_
  ·rintro ⟨i,v,hs⟩ j x1 x2 hx1 hx2 ⟨hji,hv,hhl⟩ hj
   dsimp only at hji hv hhl ⊢
   subst hji
   have htl:(qs.take i).length = i:=by rw [List.length_take];omega
   have hsn:=qs_snoc hj
   generalize qs.getD i 0 = q at *
   have hrc:rcs (qs.take i) hs ++ rrow q (x1,x2) = rcs (qs.take (i + 1)) (hs ++ [(x1,x2)]):=by rw [← hsn,rcs_app (by omega),rcs_one]
   have hor:=fun (A F:List Ch) (hf:Fit A _ F)=>ofr_snoc (hs:=hs) (qs:=qs.take i) (by omega) q x1 x2 hf
   rw [hsn] at hor
   refine Ty.bndL (K:=[own T64 x1 (Us (dg q.num.natAbs)),own T64 x2 (Us (dg q.den))]) (C:=[lrc l2 rec .ready none,dfr Dm,pt c3 [v] TRs,oww TRt 3 v i (rcs (qs.take i) hs),ofr hs (qs.take i)]) ?_
   refine Ty.intro env hr (by repeat (first | exact has00 | refine has01 ?_)) fun w1=>?_
   clear hrun
   repeat' first|refine al fun c7=>?_|refine xbeg ?_|refine lda (cs:=rrow q (x1,x2)) ?_|refine slws (sz:=3) (xs:=rrow q (x1,x2)) fun g2=>?_|refine srz ?_ (hj:=Nat.le_of_ble_eq_true rfl)|(refine cav (cap:=#[]) (vs:=[v,.slice (some ⟨g2,0,none⟩) 1 1]) (put_tr' v (.slice (some ⟨g2,0,none⟩) 1 1) i (by omega) (rcs (qs.take i) hs) q x1 x2 hx1 hx2) ?_ (hp:=has1 (has_oww memA) has0);rintro v2 _ ⟨hv2,rfl⟩)|(refine wo ?_;first|refine ld ?_|refine ldl ?_|refine sr ?_)|refine rg ?_|refine nl ?_|refine bk ?_|refine xb ?_
   refine TX.im (hor _ _ fitA) ?_
   rw [hrc]
   exact yn ⟨⟨i + 1,v2,hs ++ [(x1,x2)]⟩,rfl,.inl ⟨rfl,rfl,hv2,by simp [hhl]⟩⟩
  ·rintro _ _ ⟨⟨i,v,hs⟩,rfl,⟨g1,g2,g3⟩ | h⟩
   ·dsimp only at g1 g2 g3
    subst g1
    exact ⟨_,rfl,.ready,none,_,rfl,by decide,v,hs,by rw [List.take_length],rfl,g2,g3⟩
   ·exact h.elim
 ·rintro l2 rec Dm pend B' ⟨v,hs,rfl,rfl,g2,g3⟩
  show TX env _ _ _ _ _ _
  refine TX.im (dfrl_nil _) ?_
  refine TX.im (dfrl_push (D:=Dm) (Ds:=[]) fitA) ?_
  repeat' first|(refine wo ?_;first|refine oa ?_|refine ld ?_)|refine sq ?_|refine rg ?_|refine xc ?_|refine nl ?_|refine rt ?_|refine xb ?_
  exact mt1 (Ds:=[Dm]) ⟨hs,g2,g3,rfl⟩
theorem mfold_tr (f:FuncId) (cap:Array Value) (U:Ch) [Lent U] (qs:List Rat) (hS:SeqR Tryz.prog f cap U qs) (s:Rat) (v1 v2:Value) (h1:v1.oneCell' = true) (h2:v2.oneCell' = true) (hF:∀ i,i < qs.length→FB (qs.getD i 0) 8589934592) (hP:∀ i,i ≤ qs.length→FB ((qs.take i).foldl (fun a q=>q + a) s) 8589934592) :
  Tr Tryz.prog 101 [.func (.func f) #[] cap,rv s v1 v2,.func (.func 100) #[] #[]] [U] [own T64 v1 (Us (dg s.num.natAbs)),own T64 v2 (Us (dg s.den))] (FQ (qs.foldl (fun a q=>q + a) s)):=by
 obtain ⟨acc,hacc⟩ : ∃ acc:Nat→Rat,acc = fun i=>(qs.take i).foldl (fun a q=>q + a) s:=⟨_,rfl⟩
 have ha0:acc 0 = s:=by rw [hacc];rfl
 have haN:acc qs.length = qs.foldl (fun a q=>q + a) s:=by rw [hacc];simp
 have hst:∀ i,i < qs.length→qs.getD i 0 + acc i = acc (i + 1):=fun i hi=>by rw [hacc];exact (foldl_take (fun a q=>q + a) s hi 0).symm
 have hPa:∀ i,i ≤ qs.length→FB (acc i) 8589934592:=fun i hi=>by rw [hacc];exact hP i hi
 rw [← haN,← ha0]
 clear hacc ha0 haN hP
 have hrun:=@SeqR.run _ _ _ _ _ hS
 clear hS
 obtain ⟨M,hM⟩ : ∃ M,M = qs.length:=⟨_,rfl⟩
 unfold FQ
 refine Tr.enterM env _ Tryz.func101 (by kernel_rfl) rfl Tryz.ntmps101 rfl (by repeat (first | exact has00 | refine has01 ?_)) fun w0=>?_
 repeat' first|refine bx fun c5=>?_|refine al fun c6=>?_|(refine wo ?_;first|refine oa ?_)|refine sq ?_|refine rg ?_|refine xc ?_|refine nl ?_|refine bk ?_
 rename_i c4
 refine TC.range [lpt c5 [.func (.func 100) #[] #[]] TF5,U] [pt c4 (rrow (acc 0) (v1,v2)) TRt,own T64 v1 (Us (dg (acc 0).num.natAbs)),own T64 v2 (Us (dg (acc 0).den))] (fun l2 rec Dm pend B'=>∃ vn vd,B' = [dfr Dm,pt c4 (rrow (acc M) (vn,vd)) TRt,own T64 vn (Us (dg (acc M).num.natAbs)),own T64 vd (Us (dg (acc M).den))]∧pend = none∧vn.oneCell' = true∧vd.oneCell' = true) ?_ ?_ (hp:=has1 hasA (has1 (has_mem memA) has0))
 ·intro rec l2 Dm hr
  refine Tr.unb (hrun (α:=FoS) (lpt c5 [.func (.func 100) #[] #[]] TF5) l2 (fun g=>bnd [lrc l2 rec .ready none,dfr Dm,pt c4 (rrow (acc g.i) (g.vn,g.vd)) TRt,own T64 g.vn (Us (dg (acc g.i).num.natAbs)),own T64 g.vd (Us (dg (acc g.i).den))]) (fun g i=>g.i = i∧g.vn.oneCell' = true∧g.vd.oneCell' = true) (fun _=>False) ⟨0,v1,v2⟩ ⟨rfl,h1,h2⟩ (fun p=>bnd_nob (by repeat (first | exact nb0 | refine nb1 ?_))) ?_) ?_
  ·rintro ⟨i,vn,vd⟩ j x1 x2 hx1 hx2 ⟨hji,hvn,hvd⟩ hj
   dsimp only at hji hvn hvd
   subst hji
   have hFj:=hF i hj
   have hPj:=hPa i (by omega)
   have hsj:=hst i hj
   have hA:=fun uv=>add1_tr (acc i) (qs.getD i 0) vn vd x1 x2 uv hvn hvd hx1 hx2 hPj hFj
   unfold FQ at hA
   rw [hsj] at hA
   clear hF hPa hst hrun hFj hPj hsj
   obtain ⟨q,hq⟩ : ∃ q,q = qs.getD i 0:=⟨_,rfl⟩
   rw [← hq] at hA ⊢
   refine Ty.bndL (K:=[own T64 x1 (Us (dg q.num.natAbs)),own T64 x2 (Us (dg q.den))]) (C:=[lrc l2 rec .ready none,dfr Dm,pt c4 (rrow (acc i) (vn,vd)) TRt,own T64 vn (Us (dg (acc i).num.natAbs)),own T64 vd (Us (dg (acc i).den))]) ?_
   refine Ty.intro env hr (by repeat (first | exact has00 | refine has01 ?_)) fun w1=>?_
   repeat' first|refine al fun c7=>?_|refine xbeg ?_|refine lda (cs:=rrow (acc i) (vn,vd)) ?_|refine lda (cs:=rrow q (x1,x2)) ?_|refine slws (sz:=3) (xs:=rrow q (x1,x2)) fun g2=>?_|refine srz ?_ (hj:=Nat.le_of_ble_eq_true rfl)|(refine cav (cap:=#[]) (vs:=[rv (acc i) vn vd,.slice (some ⟨g2,0,none⟩) 1 1]) (hA (.slice (some ⟨g2,0,none⟩) 1 1)) ?_;rintro _ _ ⟨n1,n2,rfl,hn1,hn2,rfl⟩)|(refine wo ?_;first|refine ldl ?_)|refine rg ?_|refine nl ?_|refine bk ?_|refine xb ?_
   exact yn ⟨⟨i + 1,n1,n2⟩,rfl,.inl ⟨rfl,rfl,hn1,hn2⟩⟩
  ·rintro _ _ ⟨⟨i,vn,vd⟩,rfl,⟨rfl,g2,g3⟩ | h⟩
   ·exact ⟨_,rfl,.ready,none,_,rfl,by decide,vn,vd,by rw [hM],rfl,g2,g3⟩
   ·exact h.elim
 ·rintro l2 rec Dm pend B' ⟨vn,vd,rfl,rfl,g2,g3⟩
  show TX env _ _ _ _ _ _
  refine TX.im (dfrl_nil _) ?_
  refine TX.im (dfrl_push (D:=Dm) (Ds:=[]) fitA) ?_
  rw [← hM]
  generalize acc M = q at *
  repeat' first|refine lda (cs:=rrow q (vn,vd)) ?_|refine srz ?_ (hj:=Nat.le_of_ble_eq_true rfl)|refine sq ?_|refine rg ?_|refine xc ?_|refine nl ?_|refine rt ?_|refine xb ?_
  exact mca1 (Ds:=[Dm]) (cs:=rrow q (vn,vd)) (vs:=rrow q (vn,vd)) (T:=TRt) ⟨vn,vd,rfl,g2,g3,rfl⟩
end Go.Art
namespace Go.Art
open Go Go.Proofs Go.RowKit
abbrev wts (L:List (List Int × Nat)):List (List Int):=L.map fun s=>Zs (dg s.2)
structure MsG where
 i:Nat
 o:Value
attribute [local irreducible] Fit pt own ro vw mpc lpt vels rels mow lrc dfr
attribute [local irreducible] lmp lme mit velg relg bnd owl natG
end Go.Art
namespace Go.Art
open Go Go.Proofs Go.RowKit
structure CoG where
 i:Nat
 ov:Value
 hs:List Value
 ls:List (List Int)
structure CiG where
 q:Nat
 hs:List Value
 ls:List (List Int)
structure CwG where
 i:Nat
 v:Value
attribute [local irreducible] Fit pt own ro vw mpc lpt vels rels mow lrc dfr
attribute [local irreducible] lmp lme mit velg relg bnd owl natG setP szL solE risR
end Go.Art
namespace Go.Art
open Go
structure RaI (t:List Int) (all:Int) (u:AlS) (dn:List Bool):Prop where
 ld:dn.length = t.length
 dr:∀ c:Nat,c < t.length→dn.getD c false = true→u.rest.getD c 0 < all
 B:∀ c:Nat,c < t.length→((c:Int) ∈ u.B ↔ dn.getD c false = false∧u.rest.getD c 0 < all)
 A:∀ c:Nat,c < t.length→((c:Int) ∈ u.A ↔ all < u.rest.getD c 0)
 sB:u.B.Pairwise (· ≤ ·)
 sA:u.A.Pairwise (· ≤ ·)
open Go Go.Proofs Go.RowKit
section
variable {P:Program} {E:Env P} {n:Sh} {X:Cx} {s:List K} {fr:Fr} {A A':List Ch} {ops:Array Oper} {rest:List Oper} {d:Nat} {ty t el:TypeId} {pos:String} {after:Array Edge} {v z:Value} {x y:Operand} {by_:Nat}
end
attribute [local irreducible] Fit pt own ro vw mpc lpt vels rels mow lrc dfr
attribute [local irreducible] lmp lme mit velg relg
structure RmG where
 u:AlS
 dn:List Bool
 i:Nat
end Go.Art
namespace Go.Art
open Go Go.Proofs Go.RowKit
structure RvG where
 i:Nat
 v1:Value
 v2:Value
 ss:List Value
 gs:List Value
attribute [local irreducible] Fit pt own ro vw mpc lpt vels rels mow lrc dfr
attribute [local irreducible] lmp lme mit velg relg bnd owl natG setP szL solE risR
end Go.Art
namespace Go.Art
open Go Go.Proofs Go.RowKit
attribute [local irreducible] Fit pt own ro vw mpc lpt vels rels mow lrc dfr
attribute [local irreducible] lmp lme mit velg relg bnd owl dfrl
end Go.Art
namespace Go.Art
open Go Go.Proofs Go.RowKit
theorem R_nxor {P:Program} {n:Sh} {fr:Fr} {w:World} {t t' ty:TypeId} {x y:Operand} {a b:Nat} (hx:ev fr x = some (Un a)) (hy:ev fr y = some (Un b)) (ha:a < 18446744073709551616) (hb:b < 18446744073709551616):OpV P n fr (.binOp .xor t x y t') ty w (Un (a ^^^ b)) w:=R_bin hx hy (by
 show Result.ok (Value.int .u64 (IntKind.u64.wrap ((BitVec.ofInt 64 (a:Int) ^^^ BitVec.ofInt 64 (b:Int)).toNat:Int))) w = _
 have hx:a ^^^ b < 2 ^ 64:=Nat.xor_lt_two_pow (by omega) (by omega)
 rw [BitVec.toNat_xor,bv64 ha,bv64 hb,wrapN _ (a ^^^ b) (by omega)])
attribute [local irreducible] Fit pt own ro vw mpc lpt vels rels mow lrc dfr
attribute [local irreducible] lmp lme mit velg relg
theorem OverNat_tr (v:Value) (l:List Nat) (hd:Dg l):Tr Tryz.prog 67 [v] [] [own T64 v (Us l)] fun _ D=>D = []:=by
 refine Tr.enter env _ Tryz.func67 (by kernel_rfl) rfl Tryz.ntmps67 rfl (by repeat (first | exact has00 | refine has01 ?_)) fun w0=>?_
 refine TC.lenu (v:=v) (l:=l) fun hll=>?_
 repeat' first|(refine wo ?_;first|refine oa ?_)|refine sq ?_|refine rg ?_|refine xc ?_|refine nl ?_|refine bk ?_
 refine TC.loop (ι:=Nat × List Nat) (fun g=>[(2,I g.1)]) (fun g=>[own T64 v (Us g.2)]) (fun g=>g.1 ≤ l.length∧g.2.length = l.length∧Dg g.2) (fun g=>l.length - g.1) (0,l) [0] ⟨Nat.zero_le _,rfl,hd⟩ ?_
 rintro ⟨i,m⟩ ⟨hi,hm,hdm⟩
 dsimp only at hi hm hdm ⊢
 by_cases hlt:i < l.length
 ·have hx:=hdm.getD i
  have hr:m.getD i 0 ^^^ 2779096485 < 18446744073709551616:=by
   have:=Nat.xor_lt_two_pow (n:=64) (show m.getD i 0 < 2 ^ 64 from hx) (show 2779096485 < 2 ^ 64 by decide)
   exact Nat.lt_of_lt_of_eq this rfl
  repeat' first|(refine nao ?_;refine TO.val (v:=Un (m.getD i 0 ^^^ 2779096485)) (fun _ _=>R_nxor (a:=m.getD i 0) (b:=2779096485) rfl rfl hx (by decide)) ?_)|(refine wo ?_;first|(refine ao ?_;first|refine aw ?_|refine oa ?_)|refine lu ?_|refine sou ?_|refine oa ?_|refine lnm ?_|refine ixmn ?_)|(refine gc ?_;first|(refine ci (fun hB=>?_) (fun hB=>?_) <;> try (exfalso;omega)))|refine sq ?_|refine rg ?_|refine xc ?_|refine nl ?_|refine sk ?_|refine bk ?_|refine xb ?_
  exact lp (i + 1,m.set i (m.getD i 0 ^^^ 2779096485)) ⟨hlt,by dsimp only;rw [List.length_set];exact hm,hdm.set hr⟩
 ·obtain rfl:i = l.length:=by omega
  repeat' first|(refine wo ?_;first|(refine ao ?_;first|refine oa ?_)|refine oa ?_|refine lnm ?_)|(refine gc ?_;first|(refine ci (fun hB=>?_) (fun hB=>?_) <;> try (exfalso;omega)))|refine sq ?_|refine rg ?_|refine xc ?_|refine nl ?_|refine xe ?_
  exact e0 rfl
theorem OverRatio_tr (t:Fr3) (n1 d1:Value) (h1:Dg t.2.1) (h2:Dg t.2.2):Tr Tryz.prog 23 [.agg #[.bool t.1,n1,d1]] [] [own T64 n1 (Us t.2.1),own T64 d1 (Us t.2.2)] fun _ D=>D = []:=by
 refine Tr.enter env _ Tryz.func23 (by kernel_rfl) rfl Tryz.ntmps23 rfl (by repeat (first | exact has00 | refine has01 ?_)) fun w0=>?_
 repeat' first|(refine gca ?_;first|(refine ca (OverNat_tr n1 t.2.1 h1) ?_;rintro _ _ rfl)|(refine ca (OverNat_tr d1 t.2.2 h2) ?_;rintro _ _ rfl))|refine bx fun q=>?_|(refine wo ?_;first|refine oa ?_|refine ld ?_)|refine sq ?_|refine rg ?_|refine xc ?_|refine nl ?_
 exact e0 rfl
theorem SameRatioT_tr (t:Fr3) (n1 d1 n2 d2:Value):Tr Tryz.prog 22 [.agg #[.bool t.1,n1,d1],.agg #[.bool t.1,n2,d2]] [vw n1 (Us t.2.1),vw d1 (Us t.2.2),vw n2 (Us t.2.1),vw d2 (Us t.2.2)] []
  fun v D=>v = .bool true∧D = []:=(SameRatio_tr t t n1 d1 n2 d2).mono fun v D h=>by rw [decide_eq_true rfl] at h;exact h
end Go.Art
namespace Go.Art
open Go Go.Proofs Go.RowKit
attribute [local irreducible] Fit pt own ro vw mpc lpt vels rels mow lrc dfr
attribute [local irreducible] lmp lme mit velg relg bnd owl dfrl massW setsW massD
end Go.Art
namespace Go.Art
open Go Go.Proofs Go.RowKit
def setA (k a:Nat):List Int:=(belowI k).filter fun s=>Nat.beq (a / 2 ^ s.toNat % 2) 1
def chkP (k:Nat):Bool:=(List.range (k + 1)).all fun d=>(risR d 0 k).isPerm (((List.range (2 ^ k)).filter fun a=>Nat.beq (popK k a) d).map (setA k))
def chkO (k:Nat):Bool:=(List.range (k + 1)).all fun d=>(endsL d k []).all fun js=>(ordF 0 (upto k) js).isPerm (setA k (msk (ordF 0 (upto k) js))) && Nat.beq (popK k (msk (ordF 0 (upto k) js))) d
open Go Go.Proofs Go.RowKit
def smlT (m:Int) (tbl:List Int) (k:Nat):List Int:=(tbl.take k).map fun x=>pick x m
attribute [local irreducible] Fit pt own ro vw mpc lpt vels rels mow lrc dfr
attribute [local irreducible] lmp lme mit velg relg bnd owl dfrl massW setsW massD smlT solE
end Go.Art
namespace Go.Art
open Go Go.Proofs Go.RowKit
structure MwG where
 i:Nat
attribute [local irreducible] Fit pt own ro vw mpc lpt vels rels mow lrc dfr
attribute [local irreducible] lmp lme mit velg relg bnd owl dfrl massW setsW massD smlT solE natG itemS oneS
end Go.Art
namespace Go.Art
open Go Go.Proofs Go.RowKit
attribute [local irreducible] Fit pt own ro vw mpc lpt vels rels mow lrc dfr
attribute [local irreducible] lmp lme mit velg relg bnd owl dfrl massW setsW massD smlT solE failV failQ stL
theorem len3 {l:List HV} (h:l.length = 3):∃ a b c,l = [a,b,c]:=by
 match l,h with
 | [a,b,c],_=>exact ⟨a,b,c,rfl⟩
end Go.Art
namespace Go.Art
open Go Go.Proofs Go.RowKit
def meanQ (t:List Int) (k e:Nat):Rat:=(curL t k e).foldl (fun a q=>q + a) 0
theorem failQ_nat {t:List Int} {k:Nat} (hz:solE t k = 0) (n:Nat):∃ a,a ≤ oneS t k ^ n∧failQ t k n = (a:Rat) / ((oneS t k ^ n:Nat):Rat):=by
 obtain ⟨a,h1,h2⟩:=part_nat hz n k (Nat.le_refl k)
 exact ⟨a,h1,h2⟩
theorem failQ_up {t:List Int} {k:Nat} (hz:solE t k = 0) {n N:Nat} (h:n ≤ N):∃ a,a ≤ oneS t k ^ N∧failQ t k n = (a:Rat) / ((oneS t k ^ N:Nat):Rat):=by
 obtain ⟨a,h1,h2⟩:=failQ_nat hz n
 have h0:=Nat.pos_of_ne_zero (oneS_pos hz)
 obtain ⟨m,rfl⟩:=Nat.exists_eq_add_of_le h
 refine ⟨a * oneS t k ^ m,by rw [Nat.pow_add];exact Nat.mul_le_mul_right _ h1,?_⟩
 rw [h2,Nat.pow_add]
 have e1:=nz (Nat.ne_of_gt (Nat.pow_pos (n:=n) h0))
 have e2:=nz (Nat.ne_of_gt (Nat.pow_pos (n:=m) h0))
 rw [Rat.natCast_mul,Rat.natCast_mul]
 generalize ((oneS t k ^ n:Nat):Rat) = x at *
 generalize ((oneS t k ^ m:Nat):Rat) = y at *
 grind
theorem mean_nat {t:List Int} {k e:Nat} (hz:solE t k = 0) (he:e ≤ 13):∀ j,j ≤ e→∃ a,a ≤ j * oneS t k ^ 12∧((curL t k e).take j).foldl (fun a q=>q + a) 0 = (a:Rat) / ((oneS t k ^ 12:Nat):Rat)
 | 0,_=>⟨0,Nat.zero_le _,by rw [List.take_zero];show (0:Rat) = _;rw [show ((0:Nat):Rat) = 0 from rfl];grind⟩
 | j + 1,hj=>by
  obtain ⟨a,h1,h2⟩:=mean_nat hz he j (by omega)
  obtain ⟨b,h3,h4⟩:=failQ_up hz (n:=j) (N:=12) (by omega)
  refine ⟨b + a,by rw [Nat.succ_mul];omega,?_⟩
  rw [foldl_take (fun a q=>q + a) 0 (by rw [curL_len];omega) 0,h2,curL_get (by omega),h4,Rat.natCast_add]
  generalize ((oneS t k ^ 12:Nat):Rat) = x
  grind
theorem mean_FB {t:List Int} {k e j:Nat} (hz:solE t k = 0) (hk:k ≤ 40) (hl:t.length ≤ 12) (he:e ≤ 13) (hj:j ≤ e):FB (((curL t k e).take j).foldl (fun a q=>q + a) 0) 8589934592:=by
 obtain ⟨a,ha,hq⟩:=mean_nat hz he j hj
 rw [hq]
 have h1:=oneS_lt hz hk hl
 have h2:oneS t k ^ 12 < 18446744073709551616 ^ 121:=by
  refine Nat.lt_of_le_of_lt (Nat.pow_le_pow_left (Nat.le_of_lt h1) 12) ?_
  rw [← Nat.pow_mul]
  exact Nat.pow_lt_pow_right (by decide) (by decide)
 have h3:a < 18446744073709551616 ^ 122:=by
  rw [show (122:Nat) = 121 + 1 from rfl,Nat.pow_succ]
  have:=Nat.mul_le_mul_right (oneS t k ^ 12) (show j ≤ 13 by omega)
  omega
 exact (FB_nat (B:=122) (Nat.ne_of_gt (Nat.pow_pos (Nat.pos_of_ne_zero (oneS_pos hz)))) h3 (Nat.lt_trans h2 (Nat.pow_lt_pow_right (by decide) (by decide)))).le (by decide)
theorem failQ_FBc {t:List Int} {k n:Nat} (hz:solE t k = 0) (hk:k ≤ 40) (hl:t.length ≤ 12) (hn:n ≤ 12):FB (failQ t k n) 8589934592:=part_FB hz hk hl hn (Nat.le_refl k)
attribute [local irreducible] Fit pt own ro vw mpc lpt vels rels mow lrc dfr
attribute [local irreducible] lmp lme mit velg relg bnd owl dfrl gow shB grB
theorem Curve_err (tv:Value) (t:List Int) (k n:Int) (h:ripE t k n ≠ 0):Tr Tryz.prog 45 [tv,I k,I n] [vw tv (Is t)] [] fun u D=>u = tup2 nS (I (ripE t k n))∧D = []:=by
 have hR:=curefuses_tr tv t k n
 generalize ripE t k n = e at *
 refine Tr.enter env _ Tryz.func45 (by kernel_rfl) rfl Tryz.ntmps45 rfl (by repeat (first | exact has00 | refine has01 ?_)) fun w0=>?_
 repeat' first|(refine gca ?_;first|(refine ca hR ?_;rintro _ _ ⟨rfl,rfl⟩))|(refine wo ?_;first|(refine ao ?_;first|refine oa ?_)|refine oa ?_)|(refine gc ?_;first|(refine cn (fun hB=>?_) (fun hB=>?_) <;> try (exfalso;omega)))|refine sq ?_|refine rg ?_|refine xc ?_|refine nl ?_|refine rt ?_
 exact r2 ⟨rfl,rfl⟩
theorem Curve_ok (tv:Value) (htv:tv.oneCell' = true) (t:List Int) (k n:Nat) (hz:solE t k = 0) (hk:k ≤ 40) (hl:t.length ≤ 12) (hn:n ≤ 12):Tr Tryz.prog 45 [tv,I k,I n] [vw tv (Is t)] []
  fun u D=>∃ v hs,u = tup2 v (I 0)∧v.oneCell' = true∧hs.length = n + 1∧D = [oww TRt 3 v (n + 1) (rcs (curL t k (n + 1)) hs),ofr hs (curL t k (n + 1))]:=by
 have hk1:=(solE_zero hz).1
 have hR:=curefuses_tr tv t k n
 rw [show ripE t k n = 0 by unfold ripE;rw [if_neg (by omega)];exact hz] at hR
 have hP:=points_tr tv htv (k:Int) ((n + 1:Nat):Int)
 have hL:=fun p1 p2 p3=>lfold_tr _ _ _ _ (points1_seq p1 p2 p3 tv htv t k (n + 1) hz hk hl (by omega)) (by rw [curL_len];omega)
 have hcl:=curL_len t k (n + 1)
 have hn1:(n:Int) + 1 = ((n + 1:Nat):Int):=rfl
 clear hz
 generalize curL t k (n + 1) = L at *
 rw [hcl] at hL
 refine Tr.enter env _ Tryz.func45 (by kernel_rfl) rfl Tryz.ntmps45 rfl (by repeat (first | exact has00 | refine has01 ?_)) fun w0=>?_
 repeat' first|(refine gca ?_;first|(refine ca hR ?_;rintro _ _ ⟨rfl,rfl⟩)|(refine ca hP ?_;rintro _ _ ⟨p1,p2,p3,rfl,rfl⟩)|(refine ca (hL p1 p2 p3) ?_ (hp:=has1 (lbd_of (has1 hasA (has1 hasA (has1 hasA (has1 hasA has0))))) has0);rintro v _ ⟨hs,hv,hhs,rfl⟩))|(refine aw (m:=(n:Int) + 1) ?_;rw [hn1])|(refine wo ?_;first|(refine ao ?_;first|refine oa ?_)|refine oa ?_)|(refine gc ?_;first|refine cf ?_)|refine sq ?_|refine rg ?_|refine xc ?_|refine nl ?_|refine sk ?_|refine rt ?_
 exact r2 ⟨v,hs,rfl,hv,hhs,rfl⟩
theorem Mean_err (tv:Value) (t:List Int) (k n:Int) (h:ripE t k n ≠ 0):Tr Tryz.prog 47 [tv,I k,I n] [vw tv (Is t)] [] (FW (rqn,ripE t k n)):=by
 have hS:=curefuses_tr tv t k n
 refine Tr.mono (R:=fun u D=>u = tup2 rv0 (I (ripE t k n))∧D = [own T64 nS (Us []),own T64 nS (Us [])]) ?_ fun u D h=>FW.of0 h
 generalize ripE t k n = e at *
 refine Tr.enter env _ Tryz.func47 (by kernel_rfl) rfl Tryz.ntmps47 rfl (by repeat (first | exact has00 | refine has01 ?_)) fun w0=>?_
 repeat' first|(refine gca ?_;first|(refine ca hS ?_;rintro _ _ ⟨rfl,rfl⟩))|refine al fun c=>?_|refine bdz ?_|refine srz ?_|(refine wo ?_;first|(refine ao ?_;first|refine oa ?_)|refine oa ?_)|(refine gc ?_;first|(refine cn (fun hB=>?_) (fun hB=>?_) <;> try (exfalso;omega)))|refine sq ?_|refine rg ?_|refine xc ?_|refine nl ?_|refine rt ?_
 refine TX.im (own_nil T64 _) (TX.im (own_nil T64 _) ?_)
 exact rca (cs:=[.bool false,nS,nS]) (vs:=[.bool false,nS,nS]) (T:=TRt) ⟨rfl,rfl⟩
theorem Mean_ok (tv:Value) (htv:tv.oneCell' = true) (t:List Int) (k n:Nat) (hz:solE t k = 0) (hk:k ≤ 40) (hl:t.length ≤ 12) (hn:n ≤ 12):Tr Tryz.prog 47 [tv,I k,I n] [vw tv (Is t)] [] (FQ2 (meanQ t k n) 0):=by
 have hk1:=(solE_zero hz).1
 have hR:=curefuses_tr tv t k n
 rw [show ripE t k n = 0 by unfold ripE;rw [if_neg (by omega)];exact hz] at hR
 have hP:=points_tr tv htv (k:Int) (n:Int)
 have hL:=fun p1 p2 p3 v1 v2 h1 h2=>mfold_tr _ _ _ _ (points1_seq p1 p2 p3 tv htv t k n hz hk hl (by omega)) 0 v1 v2 h1 h2 (fun i hi=>by rw [curL_len] at hi;rw [curL_get hi];exact failQ_FBc hz hk hl (by omega)) (fun i hi=>by rw [curL_len] at hi;exact mean_FB hz hk hl (by omega) hi)
 have hA0:=FAdd0_tr
 clear hz
 unfold meanQ
 generalize (curL t k n).foldl (fun a q=>q + a) 0 = p at *
 unfold FQ2 at hA0 ⊢
 unfold FQ at hL
 refine Tr.enter env _ Tryz.func47 (by kernel_rfl) rfl Tryz.ntmps47 rfl (by repeat (first | exact has00 | refine has01 ?_)) fun w0=>?_
 repeat' first|(refine gca ?_;first|(refine ca hR ?_;rintro _ _ ⟨rfl,rfl⟩)|(refine ca hA0 ?_;rintro _ _ ⟨a0,b0,rfl,ha0,hb0,rfl⟩))|refine al fun c=>?_|refine srz ?_|(refine wo ?_;first|(refine ao ?_;first|refine oa ?_)|refine oa ?_)|(refine gc ?_;first|refine cf ?_)|refine sq ?_|refine rg ?_|refine xc ?_|refine nl ?_|refine sk ?_
 rename_i c6
 have z0:rrow (0:Rat) (a0,b0) = [.bool (decide ((0:Rat).num < 0)),a0,b0]:=rfl
 refine rs (fun w'=>w'.heap[c]? = some (.cells (rrow (0:Rat) (a0,b0)).toArray TRt (0,0))) ?_ (fun w' hw=>pt_at memA hw)
 refine kra 0 ?_
 refine kra 1 ?_
 refine kra 2 ?_
 refine kr 4 (v:=.agg (rrow (0:Rat) (a0,b0)).toArray) (fun w' h=>R_loadA (E:=env) (vs:=rrow (0:Rat) (a0,b0)) rfl rfl rfl rfl h rfl rfl) ?_
 refine kra 5 ?_
 refine t1 3 ?_
 refine ca hP ?_
 rintro _ _ ⟨p1,p2,p3,rfl,rfl⟩
 refine nl ?_
 refine te (fun w' hw=>pt_at memA hw) ?_
 refine t1 6 ?_
 refine ca (hL p1 p2 p3 a0 b0 ha0 hb0) ?_ (hp:=has1 (lbd_of (has1 hasA (has1 hasA (has1 hasA (has1 hasA has0))))) has0)
 rintro _ _ ⟨m1,m2,rfl,hm1,hm2,rfl⟩
 refine nl ?_
 refine te (fun w' hw=>pt_at memA hw) ?_
 refine t1 7 ?_
 refine srz ?_ (hj:=Nat.le_of_ble_eq_true rfl)
 refine nl ?_
 refine te (fun w' hw=>pt_at memA hw) ?_
 refine t1 8 ?_
 refine oa ?_
 refine nl ?_
 refine te (fun w' hw=>pt_at memA hw) ?_
 refine t0 ?_
 repeat' first|refine xc ?_|refine rt ?_
 exact rca (cs:=[.bool (decide (p.num < 0)),m1,m2]) (vs:=[.bool (decide (p.num < 0)),m1,m2]) (T:=TRt) ⟨m1,m2,rfl,hm1,hm2,rfl⟩
end Go.Art
namespace Go.Art
open Go Go.Proofs Go.RowKit
theorem SlW.hi {w:World} {v:Value} {n:Nat} {xs:List Value} (h:SlW w v n xs) {sz m:Nat} (h1:m ≤ n):SlW w (slSubW sz v 0 m) m (xs.take (m * sz)):=by
 obtain ⟨a,cap,rfl,h2,h3,h4,h5⟩:=h
 refine ⟨if cap = 0 then a else a.map (·.add (0 * sz)),cap - 0,rfl,by omega,by omega,fun h6=>?_,fun i u hi=>?_⟩
 ·obtain ⟨x,rfl⟩:=h4 (by omega)
  rw [if_neg (by omega)]
  exact ⟨_,rfl⟩
 ·rw [List.getElem?_take] at hi
  split at hi
  ·obtain ⟨x,rfl,hc⟩:=h5 i u hi
   by_cases e:cap = 0
   ·rw [if_pos e];exact ⟨x,rfl,hc⟩
   ·rw [if_neg e]
    refine ⟨x.add (0 * sz),rfl,?_⟩
    rw [Deep.add_add,Nat.zero_mul,Nat.zero_add];exact hc
  ·cases hi
theorem has_hiW {F:List Ch} {e:TypeId} {sz n m:Nat} {v:Value} {xs ys:List Value} (h:oww e sz v n xs ∈ F) (hm:m ≤ n) (hy:xs.take (m * sz) = ys):Has F (vwf (slSubW sz v 0 m) m ys):=by
 subst hy
 refine ⟨fun w hw=>(OwnV.slw (hw.h (oww e sz v n xs) h)).hi hm,fun _ h=>h,fun _ h=>h,fun b hb=>⟨_,h,?_⟩⟩
 rcases hb with hb | hb | ⟨_,hb⟩
 ·exact hb.elim
 ·exact hb.elim
 ·refine .inl ?_
  show v.ownBlock = some b
  cases v <;> try exact hb
  rename_i a l c
  cases a with
  | none=>simp [slSubW,Value.ownBlock] at hb
  | some a=>
   simp only [slSubW] at hb
   split at hb
   ·exact hb
   ·simp only [Option.map_some,Value.ownBlock,Option.some.injEq] at hb ⊢
    rw [← hb,add_block]
section
variable {P:Program} {E:Env P} {n:Sh} {X:Cx} {s:List K} {fr:Fr} {A A':List Ch} {ops:Array Oper} {rest:List Oper} {d m N sz by_:Nat} {ty t t' el:TypeId} {pos:String} {after:Array Edge} {v u z:Value} {x y:Operand} {xs vs:List Value} {dt:TypeDesc} {k1 k':IntKind} {w:World}
theorem slwh {m:Nat} (k:TO E n X s ops rest ((d,slSubW sz v 0 m) :: fr) A) (hlo:m ≤ N) (hx:ev fr x = some v:=by rfl) (hy:ev fr y = some (.int k1 m):=by rfl) (hm:Has A (vwf v N xs):=by exact hasA) (ht:lk E.und t = some (.slice el):=by rfl) (he:lk E.inf el = some (z,sz,by_):=by rfl) (hd:Nat.blt d n.n = true:=by rfl) :
  TO E n X s ops (⟨some d,.slice t x none (some y) none,ty,pos,after,none⟩ :: rest) fr A:=TO.val (v:=slSubW sz v 0 m) (fun w h=>⟨fun a ha _ _ _ _=>by
 obtain ⟨a0,cap,rfl,h2,h3,_⟩:=(hm.P w h:SlW w v N xs)
 obtain ⟨inf,hi',_,hs,_⟩:=E.info he
 have hu:=run_underlying (P:=P) (E.un ht) w
 have hmc:m ≤ cap:=by omega
 have hr:(Instr.sliceAt t (.slice a0 N cap) none (some (.int k1 m)) none).run P w = .ok (slSubW sz (.slice a0 N cap) 0 m) w:=by
  simp [Instr.sliceAt,Instr.slice,hu,Instr.sliceBounds,Instr.sliceBound,asIntOf,sizeOf,typeInfo,hi',hs,slSubW,hmc]
 simp only [execOp,ha.ev hx]
 simp [ha.ev hy,hr]⟩) k hd
end
theorem vfr_of {F:List Ch}:∀ {hs:List HV} {qs:List Rat},hs.length = qs.length→(∀ i,i < qs.length→Has F (vw (hs.getD i nS2).1 (Us (dg (qs.getD i 0).num.natAbs)))∧Has F (vw (hs.getD i nS2).2 (Us (dg (qs.getD i 0).den))))→Has F (vfr hs qs)
 | [],[],_,_=>has_vfr_nil
 | [],_ :: _,h,_=>by simp at h
 | _ :: _,[],h,_=>by simp at h
 | (v1,v2) :: hs,q :: qs,h,H=>has_vfr_cons (H 0 (by simp)).1 (H 0 (by simp)).2 (vfr_of (by simpa using h) fun i hi=>H (i + 1) (by simpa using hi))
theorem gd_appL {α:Type} (l m:List α) (z:α) {a:Nat} (h:a < l.length):(l ++ m).getD a z = l.getD a z:=by
 rw [List.getD_eq_getElem?_getD,List.getD_eq_getElem?_getD,List.getElem?_append_left h]
theorem vfr_pre {F:List Ch} {hs hs2:List HV} {qs qs2:List Rat} (hl:hs.length = qs.length) (hl2:hs2.length = qs2.length) (h:Has F (vfr (hs ++ hs2) (qs ++ qs2))):Has F (vfr hs qs):=vfr_of hl fun i hi=>by
 have:=has_fr h (by simp [hl,hl2]) (i:=i) (by simp;omega)
 rwa [gd_appL hs hs2 nS2 (by omega),gd_appL qs qs2 0 hi] at this
theorem curL_succ (t:List Int) (k n:Nat):curL t k (n + 1) = curL t k n ++ [failQ t k n]:=by unfold curL;rw [List.range_succ,List.map_append];rfl
theorem mean_sum (t:List Int) (k n:Nat) (l:List Rat) (a:Rat):l.foldl (fun a q=>q + a) a = l.foldl (· + ·) a:=by
 congr 1;funext a q;exact Rat.add_comm q a
theorem mean_FB5 {t:List Int} {k e j:Nat} (hz:solE t k = 0) (hk:k ≤ 40) (hl:t.length ≤ 12) (he:e ≤ 13) (hj:j ≤ e):FB (((curL t k e).take j).foldl (fun a q=>q + a) 0) 100000:=by
 obtain ⟨a,ha,hq⟩:=mean_nat hz he j hj
 rw [hq]
 have h1:=oneS_lt hz hk hl
 have h2:oneS t k ^ 12 < 18446744073709551616 ^ 121:=by
  refine Nat.lt_of_le_of_lt (Nat.pow_le_pow_left (Nat.le_of_lt h1) 12) ?_
  rw [← Nat.pow_mul]
  exact Nat.pow_lt_pow_right (by decide) (by decide)
 have h3:a < 18446744073709551616 ^ 122:=by
  rw [show (122:Nat) = 121 + 1 from rfl,Nat.pow_succ]
  have:=Nat.mul_le_mul_right (oneS t k ^ 12) (show j ≤ 13 by omega)
  omega
 exact (FB_nat (B:=122) (Nat.ne_of_gt (Nat.pow_pos (Nat.pos_of_ne_zero (oneS_pos hz)))) h3 (Nat.lt_trans h2 (Nat.pow_lt_pow_right (by decide) (by decide)))).le (by decide)
theorem failQ_FB5 {t:List Int} {k n:Nat} (hz:solE t k = 0) (hk:k ≤ 40) (hl:t.length ≤ 12) (hn:n ≤ 12):FB (failQ t k n) 100000:=part_FB5 hz hk hl hn (Nat.le_refl k)
attribute [local irreducible] Fit pt own ro vw mpc lpt vels rels mow lrc dfr
attribute [local irreducible] lmp lme mit velg relg bnd owl dfrl gow shB grB
theorem Rref26_tr (tv:Value) (t:List Int) (k n:Int):Tr Tryz.prog 94 [tv,I k,I n] [vw tv (Is t)] [] fun u D=>u = I (ripE t k n)∧D = []:=by
 have hC:=RSoCheck_tr tv t k
 have h13:=@solE_13 t k
 unfold ripE
 by_cases hc:k < 1∨1024 < k∨n < 0∨4096 < n
 ·rw [if_pos hc]
  refine Tr.enter env _ Tryz.func94 (by kernel_rfl) rfl Tryz.ntmps94 rfl (by repeat (first | exact has00 | refine has01 ?_)) fun w0=>?_
  repeat' first|(refine wo ?_;first|(refine ao ?_;first|refine oa ?_)|refine oa ?_|refine gy ?_|refine gn ?_|(refine gsi (fun hB=>?_) (fun hB=>?_) <;> try (exfalso;omega)))|(refine gc ?_;first|refine ct ?_|(refine ci (fun hB=>?_) (fun hB=>?_) <;> try (exfalso;omega)))|refine sq ?_|refine rg ?_|refine xc ?_|refine nl ?_|refine rt ?_
  all_goals exact r1 ⟨rfl,rfl⟩
 ·rw [if_neg hc]
  by_cases hz:solE t k = 0
  ·rw [hz] at hC ⊢
   refine Tr.enter env _ Tryz.func94 (by kernel_rfl) rfl Tryz.ntmps94 rfl (by repeat (first | exact has00 | refine has01 ?_)) fun w0=>?_
   repeat' first|(refine gca ?_;first|(refine ca hC ?_;rintro _ _ ⟨rfl,rfl⟩))|(refine wo ?_;first|(refine ao ?_;first|refine oa ?_)|refine oa ?_|refine gy ?_|(refine gsi (fun hB=>?_) (fun hB=>?_) <;> try (exfalso;omega)))|(refine gc ?_;first|refine cf ?_|(refine ci (fun hB=>?_) (fun hB=>?_) <;> try (exfalso;omega)))|refine sq ?_|refine rg ?_|refine xc ?_|refine nl ?_|refine sk ?_|refine rt ?_
   exact r1 ⟨rfl,rfl⟩
  ·rw [h13 hz] at hC ⊢
   refine Tr.enter env _ Tryz.func94 (by kernel_rfl) rfl Tryz.ntmps94 rfl (by repeat (first | exact has00 | refine has01 ?_)) fun w0=>?_
   repeat' first|(refine gca ?_;first|(refine ca hC ?_;rintro _ _ ⟨rfl,rfl⟩))|(refine wo ?_;first|(refine ao ?_;first|refine oa ?_)|refine oa ?_|refine gy ?_|(refine gsi (fun hB=>?_) (fun hB=>?_) <;> try (exfalso;omega)))|(refine gc ?_;first|refine ct ?_|(refine ci (fun hB=>?_) (fun hB=>?_) <;> try (exfalso;omega)))|refine sq ?_|refine rg ?_|refine xc ?_|refine nl ?_|refine sk ?_|refine rt ?_
   exact r1 ⟨rfl,rfl⟩
theorem RCurve_err (tv:Value) (t:List Int) (k n:Int) (h:ripE t k n ≠ 0):Tr Tryz.prog 46 [tv,I k,I n] [vw tv (Is t)] [] fun u D=>u = tup2 nS (I (ripE t k n))∧D = []:=by
 have hR:=Rref26_tr tv t k n
 generalize ripE t k n = e at *
 refine Tr.enter env _ Tryz.func46 (by kernel_rfl) rfl Tryz.ntmps46 rfl (by repeat (first | exact has00 | refine has01 ?_)) fun w0=>?_
 repeat' first|(refine gca ?_;first|(refine ca hR ?_;rintro _ _ ⟨rfl,rfl⟩))|(refine wo ?_;first|(refine ao ?_;first|refine oa ?_)|refine oa ?_)|(refine gc ?_;first|(refine cn (fun hB=>?_) (fun hB=>?_) <;> try (exfalso;omega)))|refine sq ?_|refine rg ?_|refine xc ?_|refine nl ?_|refine rt ?_
 exact r2 ⟨rfl,rfl⟩
theorem RCurve_ok (tv:Value) (t:List Int) (k n:Nat) (hz:solE t k = 0) (hk:k ≤ 40) (hl:t.length ≤ 12) (hn:n ≤ 12):Tr Tryz.prog 46 [tv,I k,I n] [vw tv (Is t)] []
  fun u D=>∃ v hs,u = tup2 v (I 0)∧v.oneCell' = true∧hs.length = n + 1∧D = [oww TRt 3 v (n + 1) (rcs (curL t k (n + 1)) hs),ofr hs (curL t k (n + 1))]:=by
 have hk1:=(solE_zero hz).1
 have hR:=Rref26_tr tv t k n
 rw [show ripE t k n = 0 by unfold ripE;rw [if_neg (by omega)];exact hz] at hR
 have hF:=fun i (hi:i ≤ n)=>RFail_ok tv t k i hz hk hl (by omega)
 have hcs:=curL_succ t k
 have hcl:=curL_len t k
 unfold FQ2 at hF
 clear hz
 refine Tr.enter env _ Tryz.func46 (by kernel_rfl) rfl Tryz.ntmps46 rfl (by repeat (first | exact has00 | refine has01 ?_)) fun w0=>?_
 repeat' first|(refine gca ?_;first|(refine ca hR ?_;rintro _ _ ⟨rfl,rfl⟩))|(refine wo ?_;first|(refine ao ?_;first|refine oa ?_)|refine oa ?_)|(refine gc ?_;first|refine cf ?_)|refine sq ?_|refine rg ?_|refine xc ?_|refine nl ?_|refine sk ?_|refine bk ?_
 refine TC.im (oww_nil TRt 3 _) ?_
 refine TC.im (owl_nil (e:=T64) (g:=wU) _) ?_
 refine TC.loop (ι:=SuG) (fun g=>[(10,I g.u),(9,g.v)]) (fun g=>[oww TRt 3 g.v g.u (rcs (curL t k g.u) g.hs),ofr g.hs (curL t k g.u)]) (fun g=>g.u ≤ n + 1∧g.v.oneCell' = true∧g.hs.length = g.u) (fun g=>n + 1 - g.u) ⟨0,nS,[]⟩ [0,1,2] ⟨Nat.zero_le _,rfl,rfl⟩ ?_
 rintro ⟨u,v,hs'⟩ ⟨hu,hv,hhs⟩
 dsimp only at hu hv hhs ⊢
 by_cases hut:u < n + 1
 rotate_left
 ·obtain rfl:u = n + 1:=by omega
  repeat' first|(refine wo ?_;first|(refine ao ?_;first|refine oa ?_)|refine oa ?_)|(refine gc ?_;first|(refine ci (fun hB=>?_) (fun hB=>?_) <;> try (exfalso;omega)))|refine sq ?_|refine rg ?_|refine xc ?_|refine nl ?_|refine xe ?_|refine rt ?_
  exact r2 ⟨v,hs',rfl,hv,hhs,rfl⟩
 have hN:=hF u (by omega)
 have hrap:=fun p=>rcs_app (qs:=curL t k u) (rs:=[failQ t k u]) (hs:=hs') (gs:=[p]) (by rw [hcl,hhs])
 have hsn:=fun (v1 v2:Value) (A F:List Ch) hf=>ofr_snoc (hs:=hs') (qs:=curL t k u) (by rw [hcl,hhs]) (failQ t k u) v1 v2 (A:=A) (F:=F) hf
 rw [← hcs] at hrap hsn
 simp only [rcs_one] at hrap
 clear hF hcs
 generalize failQ t k u = qq at *
 repeat' first|(refine gca ?_;first|(refine ca hN ?_;rintro _ _ ⟨vn,vd,rfl,hvn,hvd,rfl⟩))|refine al fun c=>?_|refine srz ?_|refine lda (vs:=rrow qq (vn,vd)) ?_|refine slws (sz:=3) (xs:=rrow qq (vn,vd)) fun g2=>?_|refine apw (e:=TRt) (sz:=3) (N:=u) (M:=1) (xs:=rcs (curL t k u) hs') (ys:=rrow qq (vn,vd)) (by decide) rfl (one_cons rfl (one_cons hvn (one_cons hvd one_nil))) fun v' hv'=>?_|(refine wo ?_;first|(refine ao ?_;first|refine aw ?_|refine oa ?_)|refine oa ?_)|(refine gc ?_;first|(refine ci (fun hB=>?_) (fun hB=>?_) <;> try (exfalso;omega)))|refine sq ?_|refine rg ?_|refine xc ?_|refine nl ?_|refine sk ?_|refine bk ?_|refine xb ?_
 refine TX.im (hsn vn vd _ _ fitA) ?_
 exact lp ⟨u + 1,v',hs' ++ [(vn,vd)]⟩ ⟨hut,hv',by simp [hhs]⟩ (hf:=by dsimp only;rw [hrap];exact fitA)
theorem RMean_err (tv:Value) (t:List Int) (k n:Int) (h:ripE t k n ≠ 0):Tr Tryz.prog 48 [tv,I k,I n] [vw tv (Is t)] [] (FW (rqn,ripE t k n)):=by
 have hS:=RCurve_err tv t k n h
 refine Tr.mono (R:=fun u D=>u = tup2 rv0 (I (ripE t k n))∧D = [own T64 nS (Us []),own T64 nS (Us [])]) ?_ fun u D h=>FW.of0 h
 generalize ripE t k n = e at *
 refine Tr.enter env _ Tryz.func48 (by kernel_rfl) rfl Tryz.ntmps48 rfl (by repeat (first | exact has00 | refine has01 ?_)) fun w0=>?_
 repeat' first|(refine gca ?_;first|(refine ca hS ?_;rintro _ _ ⟨rfl,rfl⟩))|refine al fun c=>?_|refine bdz ?_|refine srz ?_|(refine wo ?_;first|(refine ao ?_;first|refine oa ?_)|refine oa ?_)|(refine gc ?_;first|(refine cn (fun hB=>?_) (fun hB=>?_) <;> try (exfalso;omega)))|refine sq ?_|refine rg ?_|refine xc ?_|refine nl ?_|refine rt ?_
 refine TX.im (own_nil T64 _) (TX.im (own_nil T64 _) ?_)
 exact rca (cs:=[.bool false,nS,nS]) (vs:=[.bool false,nS,nS]) (T:=TRt) ⟨rfl,rfl⟩
theorem RMean_ok (tv:Value) (t:List Int) (k n:Nat) (hz:solE t k = 0) (hk:k ≤ 40) (hl:t.length ≤ 12) (hn:n ≤ 12):Tr Tryz.prog 48 [tv,I k,I n] [vw tv (Is t)] [] (FQ2 (meanQ t k n) 0):=by
 have hS:=RCurve_ok tv t k n hz hk hl hn
 have hcl:=curL_len t k n
 have hAdd:=fun v hs (hl':hs.length = (curL t k n).length)=>RFAdd_tr v (curL t k n) hs hl' (by omega) (fun i hi=>by
  rw [curL_get (by omega)];exact failQ_FB5 hz hk hl (by omega)) (fun i hi=>by rw [← mean_sum t k n];exact mean_FB5 hz hk hl (by omega) (by omega))
 rw [← mean_sum t k n] at hAdd
 rw [curL_succ] at hS
 unfold meanQ
 unfold FQ2 at hAdd ⊢
 clear hz
 generalize (curL t k n).foldl (fun a q=>q + a) (0:Rat) = p at *
 generalize failQ t k n = q0 at *
 generalize curL t k n = qs at *
 rw [hcl] at hAdd
 refine Tr.enter env _ Tryz.func48 (by kernel_rfl) rfl Tryz.ntmps48 rfl (by repeat (first | exact has00 | refine has01 ?_)) fun w0=>?_
 repeat' first|refine al fun c=>?_|refine srz ?_|refine (ca hS ?_) ; rintro _ _ ⟨v,hs,rfl,hv,hhs,rfl⟩|(refine wo ?_;first|(refine ao ?_;first|refine oa ?_)|refine oa ?_)|(refine gc ?_;first|refine cf ?_)|refine sq ?_|refine rg ?_|refine xc ?_|refine nl ?_|refine sk ?_
 obtain ⟨hr,h0,rfl⟩ : ∃ hr h0,hs = hr ++ [h0]:=⟨hs.dropLast,hs.getLast (by intro e;rw [e] at hhs;simp at hhs),(List.dropLast_concat_getLast _).symm⟩
 have hrl:hr.length = qs.length:=by simp at hhs;omega
 have htk:(rcs (qs ++ [q0]) (hr ++ [h0])).take (n * 3) = rcs qs hr:=by rw [rcs_app hrl,← hcl,← rcs_len hrl,List.take_left'];rfl
 repeat' first|(refine gca ?_;first|(refine ca (hAdd _ hr (by omega)) ?_ (hp:=has1 (has_hiW (e:=TRt) (sz:=3) memA (Nat.le_succ n) htk) (has1 (vfr_pre (hs2:=[h0]) (qs2:=[q0]) hrl rfl (has_ofr (by simp [hrl]) memA)) has0));rintro _ _ ⟨vn,vd,rfl,hvn,hvd,rfl⟩))|refine slwh (sz:=3) (m:=n) (N:=n + 1) ?_ (Nat.le_succ n) (hm:=has_oww memA)|refine srz ?_|(refine wo ?_;first|refine oa ?_)|refine xc ?_|refine nl ?_|refine rt ?_
 exact rca (cs:=[.bool (decide (p.num < 0)),vn,vd]) (vs:=[.bool (decide (p.num < 0)),vn,vd]) (T:=TRt) ⟨vn,vd,rfl,hvn,hvd,rfl⟩
end Go.Art
namespace Go.Art
open Go Go.Proofs Go.RowKit
attribute [local irreducible] Fit pt own ro vw mpc lpt vels rels mow lrc dfr
attribute [local irreducible] lmp lme mit velg relg bnd owl dfrl massW setsW massD smlT solE failV failQ stL
end Go.Art
namespace Go.Art
open Go Go.Proofs Go.RowKit
structure WholeF (n:Nat) (x:List Rat) (is:List Nat):Prop where
 sum:sR (fun i=>x.getD i 0) is = 1
 pre:∀ i,FB (sR (fun i=>x.getD i 0) (is.take i)) 8589934592
 one:∀ i,i < is.length→FB (x.getD (is.getD i 0) 0) 8589934592
 at_:∀ i,i < is.length→is.getD i 0 / (n + 1) + is.getD i 0 % (n + 1) = n
open Go Go.Proofs Go.RowKit
section
variable {P:Program} {E:Env P} {n:Sh} {X:Cx} {s:List K} {fr:Fr} {A A':List Ch} {ops:Array Oper} {rest:List Oper} {d m N sz by_:Nat} {ty t t' el:TypeId} {pos:String} {after:Array Edge} {v u z:Value} {x y:Operand} {xs vs:List Value} {dt:TypeDesc} {k1 k':IntKind} {w:World}
end
structure WgG where
 i:Nat
 a:Value
 b:Value
attribute [local irreducible] Fit pt own ro vw mpc lpt vels rels mow lrc dfr
attribute [local irreducible] lmp lme mit velg relg bnd owl dfrl massW setsW massD smlT solE failV failQ stL natG itemS oneS
end Go.Art
namespace Go.Art
open Go Go.Proofs Go.RowKit
abbrev StkP (L:List Rat) (e:Int) (u:Value) (D:List Ch):Prop:=∃ v hs,u = tup2 v (I e)∧hs.length = L.length∧D = [oww TRt 3 v L.length (rcs L hs),ofr hs L]
def stkV (t:List Int) (k n:Int):List Rat × Int:=if ripE t k n = 0 then (stL t k.toNat n.toNat,0) else ([],ripE t k n)
theorem stk_none (e:Int):∀ v D,(v = tup2 nS (I e)∧D = ([]:List Ch))→∃ D',StkP [] e v D'∧Im D D'∧∀ c ∈ D',∀ b,¬ c.bd b:=by
 rintro v D ⟨rfl,rfl⟩
 exact ⟨_,⟨nS,[],rfl,rfl,rfl⟩,(owl_nil (e:=T64) (g:=wU) []).trans (oww_nil TRt 3 _),by repeat (first | exact nb0 | refine nb1 ?_)⟩
attribute [local irreducible] Fit pt own ro vw mpc lpt vels rels mow lrc dfr
attribute [local irreducible] lmp lme mit velg relg bnd owl dfrl massW setsW massD smlT solE failV failQ stL
end Go.Art
namespace Go.Art
open Go Go.Proofs Go.RowKit
section
variable {P:Program} {E:Env P} {n:Sh} {fr:Fr} {w:World}
theorem res_cac {fn:Func} {a:Act} (ha:Holds n a fr) {t u v:Nat} {ty1 ty2 ty3 T:TypeId} {d1 dt d3:TypeDesc} {z:Value} {sz by_ b:Nat} {cs vs:List Value} {a1 a3:Addr} {v1 v3:Value} (hr:fn.results = #[.cell t ty1,.cell u ty2,.cell v ty3])
  (ht1:lk E.und ty1 = some d1) (hg1:aggB d1 = false) (h1:get fr t = some (.pointer (some a1))) (hc1:w.cell? a1 = some v1) (ht:lk E.und ty2 = some dt) (hg:aggB dt = true) (hi:lk E.inf ty2 = some (z,sz,by_)) (h2:get fr u = some (ptr b))
  (hb:w.heap[b]? = some (.cells cs.toArray T (0,0))) (hv:cs.take sz = vs) (hl:vs.length = sz) (ht3:lk E.und ty3 = some d3) (hg3:aggB d3 = false) (h3:get fr v = some (.pointer (some a3))) (hc3:w.cell? a3 = some v3):(results fn a.tmps).run P w = .ok (.tuple #[v1,.agg vs.toArray,v3]) w:=by
 obtain ⟨inf,g1,_,g2,_⟩:=E.info hi
 have h5:=run_loadCells_list (P:=P) w ⟨b,0,none⟩ vs (fun m u hm=>by
  rw [Addr.add_lit]
  refine blk_cell hb ?_
  rw [← hv,List.getElem?_take] at hm
  split at hm
  ·simpa using hm
  ·cases hm)
 rw [hl] at h5
 have e1:a.tmps[t]?.getD undef = .pointer (some a1):=by have:=ha.slot t _ h1;simpa using this
 have e2:a.tmps[u]?.getD undef = ptr b:=by have:=ha.slot u _ h2;simpa using this
 have e3:a.tmps[v]?.getD undef = .pointer (some a3):=by have:=ha.slot v _ h3;simpa using this
 simp only [results,hr]
 simp [e1,e2,e3,asAddr,loadVar,aggB_t (w:=w) ht hg,sizeOf,typeInfo,g1,g2,h5,aggB_run (w:=w) ht1 hg1,hc1,aggB_run (w:=w) ht3 hg3,hc3]
variable {A A' D G:List Ch} {m:Nat}
theorem mcac {Ds:List Nat} {w0:World} {A0:List Ch} {R':Value→List Ch→Prop} {fn:Func} {t u v:Nat} {ty1 ty2 ty3 T T1 T3:TypeId} {d1 dt d3:TypeDesc} {z:Value} {sz by_ b1 b b3:Nat} {c1 cs c3 vs:List Value} {v1 v3:Value} (h:R' (.tuple #[v1,.agg vs.toArray,v3]) D)
  (hr:fn.results = #[.cell t ty1,.cell u ty2,.cell v ty3]:=by rfl) (ht1:lk E.und ty1 = some d1:=by rfl) (hg1:aggB d1 = false:=by rfl) (h1:get fr t = some (ptr b1):=by rfl) (hm:Tk (dfrl Ds) A A':=by exact tkA) (m1:pt b1 c1 T1 ∈ A':=by exact memA) (hc1:c1[0]? = some v1:=by rfl)
  (ht:lk E.und ty2 = some dt:=by rfl) (hg:aggB dt = true:=by rfl) (hi:lk E.inf ty2 = some (z,sz,by_):=by rfl) (h2:get fr u = some (ptr b):=by rfl) (m2:pt b cs T ∈ A':=by exact memA) (hv:cs.take sz = vs:=by rfl) (hl:vs.length = sz:=by rfl)
  (ht3:lk E.und ty3 = some d3:=by rfl) (hg3:aggB d3 = false:=by rfl) (h3:get fr v = some (ptr b3):=by rfl) (m3:pt b3 c3 T3 ∈ A':=by exact memA) (hc3:c3[0]? = some v3:=by rfl) (hf:Fit A' D G:=by exact fitA) (nb:∀ c ∈ D,∀ b,¬ c.bd b:=by (repeat (first | exact nb0 | refine nb1 ?_));first | done | fail) (hn:n = ⟨m,marks Ds,none⟩:=by rfl) :
  TX E n ⟨bodyPostM (FF none) 0 P fn (RetP (PR w0 A0 R')),w0,A0⟩ [] .ret fr A:=by
 subst hn
 exact mG (.inl rfl) h (fun w hw a ha=>res_cac (E:=E) ha hr ht1 hg1 h1 (ptcell hw m1 hc1) ht hg hi h2 (pt_at m2 hw) hv hl ht3 hg3 h3 (ptcell hw m3 hc3)) hm hf nb
end
theorem cmp_dg {q r:Rat} {B C:Nat} (hq:FB q B) (hr:FB r C):(dg (q - r).num.natAbs).length ≤ B + C + 1:=by
 rw [Rat.sub_def',mk_abs _ (Nat.mul_ne_zero q.den_nz r.den_nz)]
 refine (dg_len _ _).2 (Nat.lt_of_le_of_lt (Nat.div_le_self _ _) ?_)
 have h1:=(dg_len _ _).1 hq.1
 have h2:=(dg_len _ _).1 hq.2
 have h3:=(dg_len _ _).1 hr.1
 have h4:=(dg_len _ _).1 hr.2
 have h5:=Int.natAbs_sub_le (q.num * r.den) (r.num * q.den)
 rw [Int.natAbs_mul,Int.natAbs_mul,Int.natAbs_natCast,Int.natAbs_natCast] at h5
 have h6:q.num.natAbs * r.den < 18446744073709551616 ^ B * 18446744073709551616 ^ C:=Nat.mul_lt_mul'' h1 h4
 have h7:r.num.natAbs * q.den < 18446744073709551616 ^ C * 18446744073709551616 ^ B:=Nat.mul_lt_mul'' h3 h2
 rw [Nat.mul_comm (18446744073709551616 ^ C)] at h7
 rw [Nat.pow_succ,Nat.pow_add]
 omega
attribute [local irreducible] Fit pt own ro vw mpc lpt vels rels mow lrc dfr
attribute [local irreducible] lmp lme mit velg relg bnd owl dfrl gow shB grB
abbrev NoL (e:Int) (u:Value) (D:List Ch):Prop:=u = tup3 (I 0) rv0 (I e)∧D = []
def leastR (F:Nat→Rat) (q:Rat):Nat→Nat→Option Nat
 | _,0=>none
 | i,m + 1=>if (F i - q).num.sign ≤ 0 then some i else leastR F q (i + 1) m
end Go.Art
namespace Go.Art
open Go Go.Proofs Go.RowKit
theorem least_some {F:Nat→Rat} {q:Rat} {i:Nat} (h:(F i - q).num.sign ≤ 0):∀ m s,s ≤ i→i < s + m→(∀ j,s ≤ j→j < i→¬ (F j - q).num.sign ≤ 0)→leastR F q s m = some i
 | 0,s,h1,h2,_=>by omega
 | m + 1,s,h1,h2,h3=>by
  unfold leastR
  by_cases e:s = i
  ·subst e;rw [if_pos h]
  ·rw [if_neg (h3 s (Nat.le_refl s) (by omega))]
   exact least_some h m (s + 1) (by omega) (by omega) fun j g1 g2=>h3 j (by omega) g2
theorem least_none {F:Nat→Rat} {q:Rat}:∀ m s,(∀ j,s ≤ j→j < s + m→¬ (F j - q).num.sign ≤ 0)→leastR F q s m = none
 | 0,_,_=>rfl
 | m + 1,s,h=>by
  unfold leastR
  rw [if_neg (h s (Nat.le_refl s) (by omega))]
  exact least_none m (s + 1) fun j g1 g2=>h j (by omega) (by omega)
def leastW (F:Nat→Rat) (q:Rat) (n:Nat):Int × Fr3 × Int:=match leastR F q 0 (n + 1) with
 | some i=>((i:Int),rqf (F i),0)
 | none=>(0,rqn,14)
theorem leastW_some {F:Nat→Rat} {q:Rat} {n i:Nat} (h:leastR F q 0 (n + 1) = some i):leastW F q n = ((i:Int),rqf (F i),0):=by unfold leastW;rw [h]
theorem leastW_none {F:Nat→Rat} {q:Rat} {n:Nat} (h:leastR F q 0 (n + 1) = none):leastW F q n = (0,rqn,14):=by unfold leastW;rw [h]
structure LsG where
 d:Bool
 x:Int
 f:Fr3
 e:Int
 v1:Value
 v2:Value
attribute [local irreducible] Fit pt own ro vw mpc lpt vels rels mow lrc dfr
attribute [local irreducible] lmp lme mit velg relg bnd owl dfrl gow shB grB
abbrev TEr':TypeId:=27
abbrev LW (r:Int × Fr3 × Int) (u:Value) (D:List Ch):Prop:=∃ v1 v2,u = tup3 (I r.1) (.agg #[.bool r.2.1.1,v1,v2]) (I r.2.2)∧v1.oneCell' = true∧v2.oneCell' = true∧D = [own T64 v1 (Us r.2.1.2.1),own T64 v2 (Us r.2.1.2.2)]
set_option maxHeartbeats 1000000 in
theorem Least_ok (tv:Value) (htv:tv.oneCell' = true) (t:List Int) (k n:Nat) (q:Rat) (e1 e2:Value) (he1:e1.oneCell' = true) (he2:e2.oneCell' = true) (hz:solE t k = 0) (hk:k ≤ 40) (hl:t.length ≤ 12) (hn:n ≤ 12) (hq:FB q 1000) (h:(q - 1).num.sign < 0∧0 < q.num.sign) :
  Tr Tryz.prog 43 [tv,I k,rv q e1 e2,I n] [vw tv (Is t),vw e1 (Us (dg q.num.natAbs)),vw e2 (Us (dg q.den))] [] (LW (leastW (failQ t k) q n)):=by
 have hk1:=(solE_zero hz).1
 have hR:=curefuses_tr tv t k n
 rw [show ripE t k n = 0 by unfold ripE;rw [if_neg (by omega)];exact hz] at hR
 have hK:=FCheck_tr q e1 e2 he1 he2 (hq.le (by decide))
 have hone:=FPair_tr 1 1 (by decide) (by decide) (by decide)
 have hS:=ISign_tr q.num e1 he1 (Nat.le_trans hq.1 (by decide))
 have h1F:FB (mkRat ((1:Nat):Int) 1) 1000:=⟨Nat.le_trans (FB_mk1 (a:=1) (D:=1) (by decide) (by decide) (by decide)).1 (by decide),Nat.le_trans (FB_mk1 (a:=1) (D:=1) (by decide) (by decide) (by decide)).2 (by decide)⟩
 have hC:=fun v1 v2 v3 v4 g1 g2 g3 g4=>FCmp_tr q (mkRat ((1:Nat):Int) 1) v1 v2 v3 v4 g1 g2 g3 g4 (hq.le (by decide)) (h1F.le (by decide)) (Nat.le_trans (cmp_dg hq h1F) (by decide))
 rw [← mk_one 1 (by decide)] at h
 have hP:=points_tr tv htv (k:Int) ((n + 1:Nat):Int)
 have hrunL:=fun p1 p2 p3=>@SeqR.run _ _ _ _ _ (points1_seq p1 p2 p3 tv htv t k (n + 1) hz hk hl (by omega))
 have hD:=fun i (hi:i < n + 1) v1 v2 v3 v4 g1 g2 g3 g4=>FCmp_tr (failQ t k i) q v1 v2 v3 v4 g1 g2 g3 g4 (failQ_FBc hz hk hl (by omega)) (hq.le (by decide)) (Nat.le_trans (cmp_dg (failQ_FBc hz hk hl (show i ≤ 12 by omega)) hq) (by decide))
 have hcl:=curL_len t k (n + 1)
 have hget:=fun i (hi:i < n + 1)=>curL_get (t:=t) (k:=k) hi
 have hn1:(n:Int) + 1 = ((n + 1:Nat):Int):=rfl
 clear hz h1F
 generalize mkRat ((1:Nat):Int) 1 = q1 at *
 unfold FQ2 at hone
 generalize (q - q1).num.sign = s1 at *
 generalize q.num.sign = s2 at *
 obtain ⟨hs1,hs2⟩:=h
 generalize curL t k (n + 1) = L at *
 generalize failQ t k = F at *
 refine Tr.enterM env _ Tryz.func43 (by kernel_rfl) rfl Tryz.ntmps43 rfl (by repeat (first | exact has00 | refine has01 ?_)) fun w0=>?_
 repeat' first|(refine gca ?_;first|(refine ca hR ?_;rintro _ _ ⟨rfl,rfl⟩)|(refine ca hK ?_;rintro _ _ ⟨rfl,rfl⟩)|(refine ca hone ?_;rintro _ _ ⟨o1,o2,rfl,ho1,ho2,rfl⟩)|(refine ca (hC e1 e2 o1 o2 he1 he2 ho1 ho2) ?_;rintro _ _ ⟨rfl,rfl⟩)|(refine ca hS ?_;rintro _ _ ⟨rfl,rfl⟩)|(refine ca hP ?_;rintro _ _ ⟨p1,p2,p3,rfl,rfl⟩))|refine bx fun c0=>?_|refine al fun c=>?_|refine lda (vs:=[.bool (decide (q.num < 0)),e1,e2]) ?_|refine lda (vs:=[.bool (decide (q.num < 0)),e1]) ?_|refine lda ?_|refine srz ?_|(refine aw (m:=(n:Int) + 1) ?_;rw [hn1])|(refine wo ?_;first|(refine ao ?_;first|refine oa ?_)|refine oa ?_|refine gy ?_|(refine gsi (fun hB=>?_) (fun hB=>?_) <;> try (exfalso;omega)))|(refine gc ?_;first|refine cf ?_|(refine ci (fun hB=>?_) (fun hB=>?_) <;> try (exfalso;omega)))|refine sq ?_|refine rg ?_|refine xc ?_|refine nl ?_|refine sk ?_|refine bk ?_
 rename_i c8 c9 c10 hs3
 refine TC.im (own_nil T64 _) (TC.im (own_nil T64 _) ?_)
 have hrun:=@hrunL p1 p2 p3
 clear hrunL hP hR hK hone hC hS
 refine TC.range [lbd [lpt c0 [.bool (decide (q.num < 0)),e1,e2] TRt,vw e1 (Us (dg q.num.natAbs)),vw e2 (Us (dg q.den))],lbd [lpt p1 [I ((n + 1:Nat):Int)] TLI,lpt p2 [tv] TLs,lpt p3 [I k] TLI,vw tv (Is t)]] [pt c8 [I 0] TLI,pt c9 [.bool false,nS,nS] TRt,pt c10 [I 0] TEr',own T64 nS (Us []),own T64 nS (Us [])] (fun l2 rec Dm pend B'=>∃ v1 v2,v1.oneCell' = true∧v2.oneCell' = true∧((∃ i,leastR F q 0 (n + 1) = some i∧pend = some .ret∧B' = [dfr Dm,pt c8 [I (i:Nat)] TLI,pt c9 (rrow (F i) (v1,v2)) TRt,pt c10 [I 0] TEr',own T64 v1 (Us (dg (F i).num.natAbs)),own T64 v2 (Us (dg (F i).den))])∨(leastR F q 0 (n + 1) = none∧pend = none∧B' = [dfr Dm,pt c8 [I 0] TLI,pt c9 [.bool false,v1,v2] TRt,pt c10 [I 0] TEr',own T64 v1 (Us []),own T64 v2 (Us [])]))) ?_ ?_ (hp:=has1 (lbd_of (has1 hasA (has1 hasA (has1 hasA has0)))) (has1 (lbd_of (has1 hasA (has1 hasA (has1 hasA (has1 hasA has0))))) has0))
 rotate_left
 ·rintro l2 rec Dm pend B' ⟨v1,v2,hv1,hv2,⟨i,hi,rfl,rfl⟩ | ⟨hi,rfl,rfl⟩⟩
  ·show TC env _ _ _ _ _ _
   refine TC.im (dfrl_nil _) ?_
   refine TC.im (dfrl_push (D:=Dm) (Ds:=[]) fitA) ?_
   rw [leastW_some hi]
   generalize F i = y at *
   repeat' first|refine rt ?_
   exact mcac (Ds:=[Dm]) (vs:=rrow y (v1,v2)) ⟨v1,v2,rfl,hv1,hv2,rfl⟩
  ·show TX env _ _ _ _ _ _
   refine TX.im (dfrl_nil _) ?_
   refine TX.im (dfrl_push (D:=Dm) (Ds:=[]) fitA) ?_
   rw [leastW_none hi]
   repeat' first|refine bdz ?_|refine srz ?_ (hj:=Nat.le_of_ble_eq_true rfl)|(refine wo ?_;first|refine sr ?_)|refine sq ?_|refine rg ?_|refine xc ?_|refine nl ?_|refine rt ?_|refine xb ?_
   refine TX.im (own_nil T64 _) (TX.im (own_nil T64 _) ?_)
   exact mcac (Ds:=[Dm]) (vs:=[.bool false,nS,nS]) ⟨nS,nS,rfl,rfl,rfl,rfl⟩
 intro rec l2 Dm hr
 refine Tr.unb (hrun (α:=LsG) (lbd [lpt c0 [.bool (decide (q.num < 0)),e1,e2] TRt,vw e1 (Us (dg q.num.natAbs)),vw e2 (Us (dg q.den))]) l2 (fun g=>bnd [lrc l2 rec (if g.d then .done else .ready) (if g.d then some .ret else none),dfr Dm,pt c8 [I g.x] TLI,pt c9 [.bool g.f.1,g.v1,g.v2] TRt,pt c10 [I 0] TEr',own T64 g.v1 (Us g.f.2.1),own T64 g.v2 (Us g.f.2.2)]) (fun g j=>g = ⟨false,0,rqn,0,nS,nS⟩∧∀ i,i < j→¬ (F i - q).num.sign ≤ 0) (fun g=>g.d = true∧g.v1.oneCell' = true∧g.v2.oneCell' = true∧∃ i,leastR F q 0 (n + 1) = some i∧g.x = (i:Nat)∧g.f = rqf (F i)) ⟨false,0,rqn,0,nS,nS⟩ ⟨rfl,fun i h=>absurd h (Nat.not_lt_zero i)⟩ (fun p=>bnd_nob (by repeat (first | exact nb0 | refine nb1 ?_))) ?_) ?_
 rotate_left
 ·rintro _ _ ⟨⟨d,x,f,e,v1,v2⟩,rfl,⟨h1,h2⟩ | ⟨h1,h2,h3,i,h4,h5,h6⟩⟩
  ·cases h1
   exact ⟨_,rfl,.ready,none,_,rfl,by decide,nS,nS,rfl,rfl,.inr ⟨least_none _ _ fun j _ g2=>h2 j (by rw [hcl];omega),rfl,rfl⟩⟩
  ·dsimp only at h1 h2 h3 h5 h6
   subst h1 h5 h6
   exact ⟨_,rfl,.done,some .ret,_,rfl,by decide,v1,v2,h2,h3,.inl ⟨i,h4,rfl,rfl⟩⟩
 clear hrun
 rintro g j x1 x2 hx1 hx2 ⟨rfl,hno⟩ hj
 rw [hcl] at hj
 have hDj:=hD j hj x1 x2 e1 e2 hx1 hx2 he1 he2
 have hL:=hget j hj
 rw [hL]
 clear hget hD hL
 refine Ty.bndL (K:=[own T64 x1 (Us (dg (F j).num.natAbs)),own T64 x2 (Us (dg (F j).den))]) (C:=[lrc l2 rec .ready none,dfr Dm,pt c8 [I 0] TLI,pt c9 [.bool false,nS,nS] TRt,pt c10 [I 0] TEr',own T64 nS (Us []),own T64 nS (Us [])]) ?_
 refine Ty.pre (pre:=[lpt c0 [.bool (decide (q.num < 0)),e1,e2] TRt,vw e1 (Us (dg q.num.natAbs)),vw e2 (Us (dg q.den))]) ?_ (has_lbds (C:=[lpt c0 [.bool (decide (q.num < 0)),e1,e2] TRt,vw e1 (Us (dg q.num.natAbs)),vw e2 (Us (dg q.den))]) (List.Mem.head _) _ (by repeat (first | exact has00 | refine has01 ?_)) fun c hc=>hc) (by repeat (first | exact has00 | refine has01 ?_))
 refine Ty.intro env hr (by repeat (first | exact has00 | refine has01 ?_)) fun w1=>?_
 by_cases hle:(F j - q).num.sign ≤ 0
 rotate_left
 ·have hno':∀ i,i < j + 1→¬ (F i - q).num.sign ≤ 0:=fun i hi=>by
   rcases Nat.lt_or_ge i j with g | g
   ·exact hno i g
   ·obtain rfl:i = j:=by omega
    exact hle
  clear hno
  generalize (F j - q).num.sign = sj at *
  generalize F j = y at *
  repeat' first|(refine gca ?_;first|(refine ca hDj ?_;rintro _ _ ⟨rfl,rfl⟩))|refine al fun c17=>?_|refine xbeg ?_|refine lda (cs:=rrow y (x1,x2)) ?_|refine ldla (vs:=rrow q (e1,e2)) ?_|refine srz ?_ (hj:=Nat.le_of_ble_eq_true rfl)|(refine wo ?_;first|(refine ao ?_;first|refine oa ?_)|refine oa ?_)|(refine gc ?_;first|(refine ci (fun hB=>?_) (fun hB=>?_) <;> try (exfalso;omega)))|refine sq ?_|refine rg ?_|refine xc ?_|refine nl ?_|refine sk ?_|refine bk ?_|refine xb ?_
  exact yn (D:=[lrc l2 rec .ready none,dfr Dm,pt c8 [I 0] TLI,pt c9 [.bool false,nS,nS] TRt,pt c10 [I 0] TEr',own T64 nS (Us []),own T64 nS (Us [])]) ⟨⟨false,0,rqn,0,nS,nS⟩,rfl,.inl ⟨rfl,rfl,hno'⟩⟩
 have hsm:leastR F q 0 (n + 1) = some j:=least_some hle (n + 1) 0 (Nat.zero_le _) (by omega) fun i _ hi=>hno i hi
 clear hno
 generalize (F j - q).num.sign = sj at *
 obtain ⟨y,hy⟩ : ∃ y,y = F j:=⟨_,rfl⟩
 rw [← hy] at hDj ⊢
 repeat' first|(refine gca ?_;first|(refine ca hDj ?_;rintro _ _ ⟨rfl,rfl⟩))|refine al fun c17=>?_|refine xbeg ?_|refine lda (cs:=rrow y (x1,x2)) ?_|refine ldla (vs:=rrow q (e1,e2)) ?_|refine srz ?_ (hj:=Nat.le_of_ble_eq_true rfl)|(refine wo ?_;first|(refine ao ?_;first|refine oa ?_)|refine oa ?_)|(refine gc ?_;first|(refine ci (fun hB=>?_) (fun hB=>?_) <;> try (exfalso;omega)))|refine sq ?_|refine rg ?_|refine xc ?_|refine nl ?_|refine bk ?_
 refine rs (fun _=>True) ?_ (fun _ _=>trivial)
 refine kra 0 ?_
 refine t2 1 2 ?_ ?_
 ·refine lda (vs:=rrow y (x1,x2)) ?_
  refine nl ?_
  refine te (fun _ _=>trivial) ?_
  refine t1 2 ?_
  refine sr ?_
  refine nl ?_
  refine te (fun _ _=>trivial) ?_
  refine t1 3 ?_
  refine srz ?_ (hj:=Nat.le_of_ble_eq_true rfl)
  refine nl ?_
  refine te (fun _ _=>trivial) ?_
  refine t1 4 ?_
  refine sr ?_
  refine nl ?_
  refine te (fun _ _=>trivial) ?_
  refine t0 ?_
  repeat' first|refine xc ?_|refine rt ?_
  exact yr (D:=[lrc l2 rec .done (some .ret),dfr Dm,pt c8 [I j] TLI,pt c9 (rrow y (x1,x2)) TRt,pt c10 [I 0] TEr',own T64 x1 (Us (dg y.num.natAbs)),own T64 x2 (Us (dg y.den))]) ⟨⟨true,j,rqf y,0,x1,x2⟩,rfl,.inr ⟨rfl,rfl,hx1,hx2,j,hsm,rfl,by rw [hy]⟩⟩
 ·refine sr ?_
  refine nl ?_
  refine te (fun _ _=>trivial) ?_
  refine t1 1 ?_
  refine lda (vs:=rrow y (x1,x2)) ?_
  refine nl ?_
  refine te (fun _ _=>trivial) ?_
  refine t1 3 ?_
  refine srz ?_ (hj:=Nat.le_of_ble_eq_true rfl)
  refine nl ?_
  refine te (fun _ _=>trivial) ?_
  refine t1 4 ?_
  refine sr ?_
  refine nl ?_
  refine te (fun _ _=>trivial) ?_
  refine t0 ?_
  repeat' first|refine xc ?_|refine rt ?_
  exact yr (D:=[lrc l2 rec .done (some .ret),dfr Dm,pt c8 [I j] TLI,pt c9 (rrow y (x1,x2)) TRt,pt c10 [I 0] TEr',own T64 x1 (Us (dg y.num.natAbs)),own T64 x2 (Us (dg y.den))]) ⟨⟨true,j,rqf y,0,x1,x2⟩,rfl,.inr ⟨rfl,rfl,hx1,hx2,j,hsm,rfl,by rw [hy]⟩⟩
end Go.Art
namespace Go.Art
open Go Go.Proofs Go.RowKit
theorem curL_one:curL [1,1] 2 (2 + 1) = [mkRat ((1:Nat):Int) 1,mkRat ((1:Nat):Int) 1,mkRat ((3:Nat):Int) 8]:=by decide +kernel
theorem least_one:leastW (failQ [1,1] 2) (mkRat ((1:Nat):Int) 2) 9 = (((2:Nat):Int),rqf (mkRat ((3:Nat):Int) 8),0):=by decide +kernel
theorem half_at:(mkRat ((1:Nat):Int) 2 - 1).num.sign < 0∧0 < (mkRat ((1:Nat):Int) 2).num.sign:=by decide +kernel
theorem solE_c1:solE [1,1] ((2:Nat):Int) = 0:=by decide
attribute [local irreducible] Fit pt own ro vw mpc lpt vels rels mow lrc dfr
attribute [local irreducible] lmp lme mit velg relg bnd owl dfrl massW setsW massD smlT solE failQ stL curL leastW
theorem is26_tr (t:Fr3) (n1 d1:Value) (x y:Nat) (hx:x < 9223372036854775808) (hy:y < 9223372036854775808) (hy0:y ≠ 0) (h:t = rqf (mkRat x y)):Tr Tryz.prog 49 [.agg #[.bool t.1,n1,d1],I x,I y] [vw n1 (Us t.2.1),vw d1 (Us t.2.2)] []
  fun v D=>v = .bool true∧D = []:=by
 subst h
 have hP:=FPair_tr x y hx hy hy0
 unfold FQ2 at hP
 generalize mkRat (x:Int) y = q at *
 refine Tr.enter env _ Tryz.func49 (by kernel_rfl) rfl Tryz.ntmps49 rfl (by repeat (first | exact has00 | refine has01 ?_)) fun w0=>?_
 repeat' first|(refine gca ?_;first|(refine ca hP ?_;rintro _ _ ⟨vn,vd,rfl,hvn,hvd,rfl⟩)|(refine ca (SameRatioT_tr (rqf q) n1 d1 vn vd) ?_;rintro _ _ ⟨rfl,rfl⟩))|refine bx fun b1=>?_|refine al fun b2=>?_|refine lda ?_|refine srz ?_|(refine wo ?_;first|(refine ao ?_;first|refine oa ?_)|refine oa ?_|refine gy ?_)|refine sq ?_|refine rg ?_|refine xc ?_|refine nl ?_|refine rt ?_
 exact r1 ⟨rfl,rfl⟩
theorem half26_tr:Tr Tryz.prog 51 [] [] [] (FQ (mkRat ((1:Nat):Int) 2)):=by
 have hP:=FPair_tr 1 2 (by decide) (by decide) (by decide)
 unfold FQ2 at hP
 unfold FQ
 generalize mkRat ((1:Nat):Int) 2 = s at *
 refine Tr.enter env _ Tryz.func51 (by kernel_rfl) rfl Tryz.ntmps51 rfl (by repeat (first | exact has00 | refine has01 ?_)) fun w0=>?_
 repeat' first|(refine gca ?_;first|(refine ca hP ?_;rintro _ _ ⟨n1,n2,rfl,hn1,hn2,rfl⟩))|refine al fun b2=>?_|refine lda ?_|refine srz ?_|(refine wo ?_;first|refine oa ?_)|refine sq ?_|refine rg ?_|refine xc ?_|refine nl ?_|refine rt ?_
 exact rca1 (cs:=[.bool (decide (s.num < 0)),n1,n2]) (vs:=[.bool (decide (s.num < 0)),n1,n2]) (T:=TRt) ⟨n1,n2,rfl,hn1,hn2,rfl⟩
theorem leasts26_tr (tv:Value) (htv:tv.oneCell' = true) (t:List Int) (k n w x y:Nat) (q:Rat) (e1 e2:Value) (he1:e1.oneCell' = true) (he2:e2.oneCell' = true) (hz:solE t k = 0) (hk:k ≤ 40) (hl:t.length ≤ 12) (hn:n ≤ 12) (hq:FB q 1000) (h:(q - 1).num.sign < 0∧0 < q.num.sign)
  (hw:leastW (failQ t k) q n = ((w:Int),rqf (mkRat (x:Int) y),0)) (hx:x < 9223372036854775808) (hy:y < 9223372036854775808) (hy0:y ≠ 0) :
  Tr Tryz.prog 50 [tv,I k,rv q e1 e2,I n,I w,I x,I y,I 0] [vw tv (Is t),vw e1 (Us (dg q.num.natAbs)),vw e2 (Us (dg q.den))] [] fun v D=>v = .bool true∧D = []:=by
 have hL:=Least_ok tv htv t k n q e1 e2 he1 he2 hz hk hl hn hq h
 have hI:=fun a b=>is26_tr (rqf (mkRat (x:Int) y)) a b x y hx hy hy0 rfl
 rw [hw] at hL
 clear hw h
 generalize mkRat (x:Int) y = p at *
 unfold LW at hL
 dsimp only at hL
 refine Tr.enter env _ Tryz.func50 (by kernel_rfl) rfl Tryz.ntmps50 rfl (by repeat (first | exact has00 | refine has01 ?_)) fun w0=>?_
 repeat' first|(refine gca ?_;first|(refine ca hL ?_;rintro _ _ ⟨n1,n2,rfl,hn1,hn2,rfl⟩)|(refine ca (hI n1 n2) ?_;rintro _ _ ⟨rfl,rfl⟩))|refine bx fun b1=>?_|refine al fun b2=>?_|refine lda (vs:=[.bool (decide (q.num < 0)),e1,e2]) ?_|refine lda ?_|refine srz ?_|(refine wo ?_;first|(refine ao ?_;first|refine oa ?_)|refine oa ?_|refine gy ?_|(refine gsi (fun hB=>?_) (fun hB=>?_) <;> try (exfalso;omega)))|(refine gc ?_;first|refine cf ?_)|refine sq ?_|refine rg ?_|refine xc ?_|refine nl ?_|refine sk ?_|refine rt ?_
 all_goals exact r1 ⟨rfl,rfl⟩
theorem cvA_tr (s:Value) (hs:s.oneCell' = true):Tr Tryz.prog 45 [s,I ((2:Nat):Int),I ((2:Nat):Int)] [vw s (Is [1,1])] [] fun w D=>∃ v h0 h1 h2,w = tup2 v (I 0)∧D = [oww TRt 3 v 3 (rcs [mkRat ((1:Nat):Int) 1,mkRat ((1:Nat):Int) 1,mkRat ((3:Nat):Int) 8] [h0,h1,h2]),ofr [h0,h1,h2] [mkRat ((1:Nat):Int) 1,mkRat ((1:Nat):Int) 1,mkRat ((3:Nat):Int) 8]]:=
 (Curve_ok s hs [1,1] 2 2 solE_c1 (by decide) (by decide) (by decide)).mono fun w D h=>by
  obtain ⟨v,hs,rfl,hv,hl,rfl⟩:=h
  obtain ⟨h0,h1,h2,rfl⟩:=len3 hl
  exact ⟨v,h0,h1,h2,rfl,by rw [curL_one]⟩
theorem awake26_tr:Tr Tryz.prog 41 [] [] [] fun v D=>v = .bool true∧D = []:=by
 have hA:=cvA_tr
 have hI1:=fun a b=>is26_tr (rqf (mkRat ((1:Nat):Int) 1)) a b 1 1 (by decide) (by decide) (by decide) rfl
 have hI3:=fun a b=>is26_tr (rqf (mkRat ((3:Nat):Int) 8)) a b 3 8 (by decide) (by decide) (by decide) rfl
 have hH:=half26_tr
 have hL:=fun s a b hs ha hb=>leasts26_tr s hs [1,1] 2 9 2 3 8 (mkRat ((1:Nat):Int) 2) a b ha hb solE_c1 (by decide) (by decide) (by decide) (FB.le (B:=1) (FB_mk1 (a:=1) (D:=2) (by decide) (by decide) (by decide)) (by decide)) half_at least_one (by decide) (by decide) (by decide)
 unfold FQ at hH
 generalize mkRat ((1:Nat):Int) 1 = q1 at *
 generalize mkRat ((3:Nat):Int) 8 = q3 at *
 generalize mkRat ((1:Nat):Int) 2 = q2 at *
 refine Tr.enter env _ Tryz.func41 (by kernel_rfl) rfl Tryz.ntmps41 rfl (by repeat (first | exact has00 | refine has01 ?_)) fun w0=>?_
 repeat' first|(refine gca ?_;first|(refine ca (hA v hv) ?_;rintro _ _ ⟨sv,a0,a1,a2,rfl,rfl⟩))|refine slz fun v hv=>?_|(refine wo ?_;first|(refine ao ?_;first|refine oa ?_)|refine oa ?_|refine gy ?_)|refine sq ?_|refine rg ?_|refine xc ?_|refine nl ?_
 have fa:=fun (F:List Ch) (h:ofr [a0,a1,a2] [q1,q1,q3] ∈ F) (i:Nat) (hi:i < 3)=>has_fr (has_ofr (hs:=[a0,a1,a2]) (qs:=[q1,q1,q3]) rfl h) rfl (i:=i) hi
 repeat' first|(refine gca ?_;first|(refine ca (hI1 a0.1 a0.2) ?_ (hp:=has1 (fa _ memA 0 (by decide)).1 (has1 (fa _ memA 0 (by decide)).2 has0));rintro _ _ ⟨rfl,rfl⟩)|(refine ca (hI1 a1.1 a1.2) ?_ (hp:=has1 (fa _ memA 1 (by decide)).1 (has1 (fa _ memA 1 (by decide)).2 has0));rintro _ _ ⟨rfl,rfl⟩)|(refine ca (hI3 a2.1 a2.2) ?_ (hp:=has1 (fa _ memA 2 (by decide)).1 (has1 (fa _ memA 2 (by decide)).2 has0));rintro _ _ ⟨rfl,rfl⟩)|(refine ca hH ?_;rintro _ _ ⟨h1,h2,rfl,hh1,hh2,rfl⟩)|(refine ca (hL v2 h1 h2 hv2 hh1 hh2) ?_;rintro _ _ ⟨rfl,rfl⟩))|refine lnw (v:=sv) ?_ (hm:=has_oww memA)|refine ixws (v:=sv) ?_ (hm:=has_oww memA)|refine ldaw (v:=sv) (m:=0) (sz:=3) (vs:=rrow q1 a0) rfl ?_ (hm:=has_oww memA)|refine ldaw (v:=sv) (m:=3) (sz:=3) (vs:=rrow q1 a1) rfl ?_ (hm:=has_oww memA)|refine ldaw (v:=sv) (m:=6) (sz:=3) (vs:=rrow q3 a2) rfl ?_ (hm:=has_oww memA)|refine slz fun v2 hv2=>?_|(refine wo ?_;first|(refine ao ?_;first|refine oa ?_)|refine oa ?_|refine gy ?_)|refine xc ?_|refine nl ?_|refine rt ?_
 exact r1 ⟨rfl,rfl⟩
end Go.Art
namespace Go.Art
open Go Go.Proofs Go.RowKit
def curV (t:List Int) (k n:Int):List Rat × Int:=if ripE t k n = 0 then (curL t k.toNat (n.toNat + 1),0) else ([],ripE t k n)
def meanV (t:List Int) (k n:Int):Fr3 × Int:=if ripE t k n = 0 then (rqf (meanQ t k.toNat n.toNat),0) else (rqn,ripE t k n)
theorem curV_len {t:List Int} {k n:Int} (hn:n ≤ 12∨4096 < n):(curV t k n).1.length ≤ 41:=by
 unfold curV
 split
 ·rename_i h
  have:=(ripE_zero h).2.1
  rw [curL_len];omega
 ·exact Nat.zero_le _
theorem meanV_dg (t:List Int) (k n:Int):Dg (meanV t k n).1.2.1∧Dg (meanV t k n).1.2.2:=by
 unfold meanV
 split
 ·exact ⟨Dg_dg _,Dg_dg _⟩
 ·exact ⟨Dg.nil,Dg.nil⟩
attribute [local irreducible] Fit pt own ro vw mpc lpt vels rels mow lrc dfr
attribute [local irreducible] lmp lme mit velg relg bnd owl dfrl massW setsW massD smlT solE failV failQ stL curL meanQ
theorem CurveV_tr (tv:Value) (htv:tv.oneCell' = true) (t:List Int) (k n:Int) (hk:k ≤ 40∨1024 < k) (hl:t.length ≤ 12) (hn:n ≤ 12∨4096 < n):Tr Tryz.prog 45 [tv,I k,I n] [vw tv (Is t)] [] (StkP (curV t k n).1 (curV t k n).2):=by
 unfold curV
 by_cases h:ripE t k n = 0
 ·rw [if_pos h]
  obtain ⟨h1,h2,hz⟩:=ripE_zero h
  obtain ⟨kn,rfl⟩ : ∃ kn:Nat,k = kn:=⟨k.toNat,by omega⟩
  obtain ⟨nn,rfl⟩ : ∃ nn:Nat,n = nn:=⟨n.toNat,by omega⟩
  rw [Int.toNat_natCast,Int.toNat_natCast]
  refine (Curve_ok tv htv t kn nn hz (by omega) hl (by omega)).mono fun u D h=>?_
  obtain ⟨v,hs,h1,h2,h3,h4⟩:=h
  exact ⟨v,hs,h1,by rw [curL_len];exact h3,by rw [curL_len];exact h4⟩
 ·rw [if_neg h]
  exact (Curve_err tv t k n h).post (stk_none _)
theorem RCurveV_tr (tv:Value) (t:List Int) (k n:Int) (hk:k ≤ 40∨1024 < k) (hl:t.length ≤ 12) (hn:n ≤ 12∨4096 < n):Tr Tryz.prog 46 [tv,I k,I n] [vw tv (Is t)] [] (StkP (curV t k n).1 (curV t k n).2):=by
 unfold curV
 by_cases h:ripE t k n = 0
 ·rw [if_pos h]
  obtain ⟨h1,h2,hz⟩:=ripE_zero h
  obtain ⟨kn,rfl⟩ : ∃ kn:Nat,k = kn:=⟨k.toNat,by omega⟩
  obtain ⟨nn,rfl⟩ : ∃ nn:Nat,n = nn:=⟨n.toNat,by omega⟩
  rw [Int.toNat_natCast,Int.toNat_natCast]
  refine (RCurve_ok tv t kn nn hz (by omega) hl (by omega)).mono fun u D h=>?_
  obtain ⟨v,hs,h1,h2,h3,h4⟩:=h
  exact ⟨v,hs,h1,by rw [curL_len];exact h3,by rw [curL_len];exact h4⟩
 ·rw [if_neg h]
  exact (RCurve_err tv t k n h).post (stk_none _)
theorem MeanV_tr (tv:Value) (htv:tv.oneCell' = true) (t:List Int) (k n:Int) (hk:k ≤ 40∨1024 < k) (hl:t.length ≤ 12) (hn:n ≤ 12∨4096 < n):Tr Tryz.prog 47 [tv,I k,I n] [vw tv (Is t)] [] (FW (meanV t k n)):=by
 unfold meanV
 by_cases h:ripE t k n = 0
 ·rw [if_pos h]
  obtain ⟨h1,h2,hz⟩:=ripE_zero h
  obtain ⟨kn,rfl⟩ : ∃ kn:Nat,k = kn:=⟨k.toNat,by omega⟩
  obtain ⟨nn,rfl⟩ : ∃ nn:Nat,n = nn:=⟨n.toNat,by omega⟩
  rw [Int.toNat_natCast,Int.toNat_natCast]
  exact Mean_ok tv htv t kn nn hz (by omega) hl (by omega)
 ·rw [if_neg h]
  exact Mean_err tv t k n h
theorem RMeanV_tr (tv:Value) (t:List Int) (k n:Int) (hk:k ≤ 40∨1024 < k) (hl:t.length ≤ 12) (hn:n ≤ 12∨4096 < n):Tr Tryz.prog 48 [tv,I k,I n] [vw tv (Is t)] [] (FW (meanV t k n)):=by
 unfold meanV
 by_cases h:ripE t k n = 0
 ·rw [if_pos h]
  obtain ⟨h1,h2,hz⟩:=ripE_zero h
  obtain ⟨kn,rfl⟩ : ∃ kn:Nat,k = kn:=⟨k.toNat,by omega⟩
  obtain ⟨nn,rfl⟩ : ∃ nn:Nat,n = nn:=⟨n.toNat,by omega⟩
  rw [Int.toNat_natCast,Int.toNat_natCast]
  exact RMean_ok tv t kn nn hz (by omega) hl (by omega)
 ·rw [if_neg h]
  exact RMean_err tv t k n h
theorem long26_tr (tv:Value) (t:List Int) (k n:Int):Tr Tryz.prog 39 [tv,I k,I n] [vw tv (Is t)] [] fun v D=>(∃ b,v = .bool b∧(b = false→t.length ≤ 12∧(k ≤ 40∨1024 < k)∧(n ≤ 12∨4096 < n)))∧D = []:=by
 refine Tr.enter env _ Tryz.func39 (by kernel_rfl) rfl Tryz.ntmps39 rfl (by repeat (first | exact has00 | refine has01 ?_)) fun w0=>?_
 refine TC.leni (v:=tv) (l:=t) fun htl=>?_
 repeat' first|(refine wo ?_;first|refine oa ?_)|refine sq ?_|refine rg ?_|refine xc ?_|refine nl ?_|refine bk ?_
 refine TC.loop (ι:=Nat) (fun i=>[(7,I i)]) (fun _=>[]) (fun i=>i ≤ t.length∧i ≤ 9) (fun i=>9 - i) 0 [0,1,2] ⟨Nat.zero_le _,Nat.zero_le _⟩ ?_
 rintro i ⟨hi,hi9⟩
 by_cases hlt:i < t.length∧i < 9
 ·obtain ⟨y,hy⟩ : ∃ y,t.getD i 0 = y:=⟨_,rfl⟩
  obtain ⟨hlt1,hlt2⟩:=hlt
  by_cases hc:1000 < y∧y ≤ 16777215
  ·repeat' first|refine lie hy ?_|(refine wo ?_;first|(refine ao ?_;first|refine oa ?_)|refine oa ?_|refine lnm ?_|refine ixmn ?_|refine gy ?_|(refine gsi (fun hB=>?_) (fun hB=>?_) <;> try (exfalso;omega)))|(refine gc ?_;first|(refine ci (fun hB=>?_) (fun hB=>?_) <;> try (exfalso;omega)))|refine sq ?_|refine rg ?_|refine xc ?_|refine nl ?_|refine sk ?_|refine bk ?_|refine rt ?_
   exact r1 ⟨⟨true,rfl,by intro h;cases h⟩,rfl⟩
  ·repeat' first|refine lie hy ?_|(refine wo ?_;first|(refine ao ?_;first|refine aw ?_|refine oa ?_)|refine oa ?_|refine lnm ?_|refine ixmn ?_|refine gy ?_|refine gn ?_|(refine gsi (fun hB=>?_) (fun hB=>?_) <;> try (exfalso;omega)))|(refine gc ?_;first|refine cf ?_|(refine ci (fun hB=>?_) (fun hB=>?_) <;> try (exfalso;omega)))|refine sq ?_|refine rg ?_|refine xc ?_|refine nl ?_|refine sk ?_|refine bk ?_|refine xb ?_
   all_goals exact lp (i + 1) (by omega)
 by_cases h1:(8:Int) < t.length
 ·repeat' first|(refine wo ?_;first|(refine ao ?_;first|refine oa ?_)|refine oa ?_|refine lnm ?_|refine gy ?_|refine gn ?_|refine gu ?_|(refine gsi (fun hB=>?_) (fun hB=>?_) <;> try (exfalso;omega)))|(refine gc ?_;first|refine cf ?_|(refine ci (fun hB=>?_) (fun hB=>?_) <;> try (exfalso;omega)))|refine sq ?_|refine rg ?_|refine xc ?_|refine nl ?_|refine xe ?_|refine rt ?_
  all_goals exact r1 ⟨⟨true,rfl,by intro h;cases h⟩,rfl⟩
 by_cases h2:5 < k
 ·by_cases h3:k ≤ 1024
  ·repeat' first|(refine wo ?_;first|(refine ao ?_;first|refine oa ?_)|refine oa ?_|refine lnm ?_|refine gy ?_|refine gn ?_|refine gu ?_|(refine gsi (fun hB=>?_) (fun hB=>?_) <;> try (exfalso;omega)))|(refine gc ?_;first|refine cf ?_)|refine sq ?_|refine rg ?_|refine xc ?_|refine nl ?_|refine xe ?_|refine rt ?_
   all_goals exact r1 ⟨⟨true,rfl,by intro h;cases h⟩,rfl⟩
  ·by_cases h4:8 < n
   ·by_cases h5:n ≤ 4096
    ·repeat' first|(refine wo ?_;first|(refine ao ?_;first|refine oa ?_)|refine oa ?_|refine lnm ?_|refine gy ?_|refine gn ?_|(refine gsi (fun hB=>?_) (fun hB=>?_) <;> try (exfalso;omega)))|(refine gc ?_;first|refine cf ?_)|refine sq ?_|refine rg ?_|refine xc ?_|refine nl ?_|refine xe ?_|refine rt ?_
     all_goals (refine r1 ⟨⟨_,rfl,fun h=>?_⟩,rfl⟩;simp at h;omega)
    ·repeat' first|(refine wo ?_;first|(refine ao ?_;first|refine oa ?_)|refine oa ?_|refine lnm ?_|refine gy ?_|refine gn ?_|(refine gsi (fun hB=>?_) (fun hB=>?_) <;> try (exfalso;omega)))|(refine gc ?_;first|refine cf ?_)|refine sq ?_|refine rg ?_|refine xc ?_|refine nl ?_|refine xe ?_|refine rt ?_
     all_goals (refine r1 ⟨⟨_,rfl,fun h=>?_⟩,rfl⟩;omega)
   ·repeat' first|(refine wo ?_;first|(refine ao ?_;first|refine oa ?_)|refine oa ?_|refine lnm ?_|refine gy ?_|refine gn ?_|(refine gsi (fun hB=>?_) (fun hB=>?_) <;> try (exfalso;omega)))|(refine gc ?_;first|refine cf ?_)|refine sq ?_|refine rg ?_|refine xc ?_|refine nl ?_|refine xe ?_|refine rt ?_
    all_goals (refine r1 ⟨⟨_,rfl,fun h=>?_⟩,rfl⟩;omega)
 ·by_cases h4:8 < n
  ·by_cases h5:n ≤ 4096
   ·repeat' first|(refine wo ?_;first|(refine ao ?_;first|refine oa ?_)|refine oa ?_|refine lnm ?_|refine gy ?_|refine gn ?_|(refine gsi (fun hB=>?_) (fun hB=>?_) <;> try (exfalso;omega)))|(refine gc ?_;first|refine cf ?_)|refine sq ?_|refine rg ?_|refine xc ?_|refine nl ?_|refine xe ?_|refine rt ?_
    all_goals (refine r1 ⟨⟨_,rfl,fun h=>?_⟩,rfl⟩;simp at h;omega)
   ·repeat' first|(refine wo ?_;first|(refine ao ?_;first|refine oa ?_)|refine oa ?_|refine lnm ?_|refine gy ?_|refine gn ?_|(refine gsi (fun hB=>?_) (fun hB=>?_) <;> try (exfalso;omega)))|(refine gc ?_;first|refine cf ?_)|refine sq ?_|refine rg ?_|refine xc ?_|refine nl ?_|refine xe ?_|refine rt ?_
    all_goals (refine r1 ⟨⟨_,rfl,fun h=>?_⟩,rfl⟩;omega)
  ·repeat' first|(refine wo ?_;first|(refine ao ?_;first|refine oa ?_)|refine oa ?_|refine lnm ?_|refine gy ?_|refine gn ?_|(refine gsi (fun hB=>?_) (fun hB=>?_) <;> try (exfalso;omega)))|(refine gc ?_;first|refine cf ?_)|refine sq ?_|refine rg ?_|refine xc ?_|refine nl ?_|refine xe ?_|refine rt ?_
   all_goals (refine r1 ⟨⟨_,rfl,fun h=>?_⟩,rfl⟩;omega)
theorem CurveTells_tr (tv:Value) (t:List Int) (k n:Int):Tr Tryz.prog 10 [tv,I k,I n] [vw tv (Is t)] [] fun v D=>v = .bool true∧D = []:=by
 have hD:=long26_tr tv t k n
 refine Tr.enter env _ Tryz.func10 (by kernel_rfl) rfl Tryz.ntmps10 rfl (by repeat (first | exact has00 | refine has01 ?_)) fun w0=>?_
 repeat' first|(refine gca ?_;first|(refine ca hD ?_;rintro _ _ ⟨⟨b,rfl,hb⟩,rfl⟩;cases b)|(refine ca awake26_tr ?_;rintro _ _ ⟨rfl,rfl⟩))|(refine wo ?_;first|refine oa ?_)|(refine gc ?_;first|refine ct ?_|refine cf ?_)|refine sq ?_|refine rg ?_|refine xc ?_|refine nl ?_|refine sk ?_|refine rt ?_
 rotate_left
 ·exact r1 ⟨rfl,rfl⟩
 obtain ⟨h1,h2,h3⟩:=hb rfl
 have hC:=CopyInts_tr tv t (by omega)
 have hS:=fun o ho=>CurveV_tr o ho t k n h2 h1 h3
 have hRS:=RCurveV_tr tv t k n h2 h1 h3
 have hF:=fun o ho=>MeanV_tr o ho t k n h2 h1 h3
 have hRF:=RMeanV_tr tv t k n h2 h1 h3
 have hLl:=curV_len (t:=t) (k:=k) h3
 have d1:=meanV_dg t k n
 generalize meanV t k n = m1 at *
 generalize curV t k n = sv at *
 obtain ⟨t1,e1⟩:=m1
 obtain ⟨L,e⟩:=sv
 unfold FW at hF hRF
 unfold StkP at hS hRS
 dsimp only at hF hRF hS hRS hLl d1
 clear hD hb
 repeat' first|(refine gca ?_;first|(refine ca hC ?_;rintro o _ rfl;refine TO.one (v:=o) (xs:=Is t) fun ho=>?_)|(refine ca (hS o ho) ?_;rintro _ _ ⟨v1,hs1,rfl,hl1,rfl⟩)|(refine ca hRS ?_;rintro _ _ ⟨v2,hs2,rfl,hl2,rfl⟩)|(refine ca (hF o ho) ?_;rintro _ _ ⟨n1,k1,rfl,hn1,hk1,rfl⟩)|(refine ca hRF ?_;rintro _ _ ⟨n2,k2,rfl,hn2,hk2,rfl⟩))|refine al fun c=>?_|refine srz ?_|(refine wo ?_;first|(refine ao ?_;first|refine oa ?_)|refine oa ?_|refine gy ?_|(refine gsn (fun hB=>?_) (fun hB=>?_) <;> try (exfalso;omega)))|refine sq ?_|refine rg ?_|refine xc ?_|refine nl ?_
 have hS1:=SameRatioT_tr t1 n1 k1 n2 k2
 have hSI:=SameIntsT_tr o tv t
 repeat' first|(refine gca ?_;first|(refine ca hS1 ?_;rintro _ _ ⟨rfl,rfl⟩)|(refine ca hSI ?_;rintro _ _ ⟨rfl,rfl⟩))|refine lda ?_|refine lnw (v:=v1) (N:=L.length) ?_ (hm:=has_oww memA)|refine lnw (v:=v2) (N:=L.length) ?_ (hm:=has_oww memA)|(refine wo ?_;first|(refine ao ?_;first|refine oa ?_)|refine oa ?_|refine gy ?_|(refine gsn (fun hB=>?_) (fun hB=>?_) <;> try (exfalso;omega)))|(refine gc ?_;first|refine cf ?_)|refine sq ?_|refine rg ?_|refine xc ?_|refine nl ?_|refine sk ?_|refine bk ?_
 refine TC.loop (ι:=Nat) (fun i=>[(16,I i)]) (fun i=>[ofr (hs1.drop i) (L.drop i)]) (fun i=>i ≤ L.length) (fun i=>L.length - i) 0 [0,7,8,10,12,14] (Nat.zero_le _) ?_
 rintro i hi
 by_cases hlt:i < L.length
 ·have hr1:=rcs_row (hs:=hs1) (qs:=L) hl1 (i:=i) hlt
  have hr2:=rcs_row (hs:=hs2) (qs:=L) hl2 (i:=i) hlt
  have hg2:=fun (F:List Ch) (h:ofr hs2 L ∈ F)=>has_fr (has_ofr hl2 h) hl2 (i:=i) hlt
  rw [drop_getD hlt 0,drop_getD (l:=hs1) (by omega) nS2]
  generalize hs1.getD i nS2 = x1 at *
  generalize hs2.getD i nS2 = x2 at *
  obtain ⟨a1,b1⟩:=x1
  obtain ⟨a2,b2⟩:=x2
  dsimp only at hg2
  have hpop:=fun (A F:List Ch) hf=>ofr_pop (h:=(a1,b1)) (hs:=hs1.drop (i + 1)) (q:=L.getD i 0) (qs:=L.drop (i + 1)) (A:=A) (F:=F) hf
  generalize L.getD i 0 = q at *
  have hSr:=SameRatioT_tr (rqf q) a1 b1 a2 b2
  have hOv:=OverRatio_tr (rqf q) a1 b1 (Dg_dg _) (Dg_dg _)
  generalize hX1:rcs L hs1 = xs1 at *
  generalize hX2:rcs L hs2 = xs2 at *
  refine TC.im (hpop _ _ fitA) ?_
  repeat' first|refine lnw (v:=v1) (N:=L.length) ?_ (hm:=has_oww memA)|(refine wo ?_;first|(refine ao ?_;first|refine oa ?_)|refine oa ?_)|(refine gc ?_;first|(refine ci (fun hB=>?_) (fun hB=>?_) <;> try (exfalso;omega)))|refine sq ?_|refine rg ?_|refine xc ?_|refine nl ?_|refine sk ?_|refine bk ?_
  repeat' first|refine qixws (v:=v1) (N:=L.length) (xs:=xs1) ?_ (hm:=has_oww memA)|refine qixws (v:=v2) (N:=L.length) (xs:=xs2) ?_ (hm:=has_oww memA)|refine qldaw (v:=v1) (m:=3 * i) hr1 ?_ (hm:=has_oww memA)|refine qldaw (v:=v2) (m:=3 * i) hr2 ?_ (hm:=has_oww memA)|(refine qca hSr (fun _ _ h=>h) ?_ (hp:=has1 hasA (has1 hasA (has1 (hg2 _ memA).1 (has1 (hg2 _ memA).2 has0)))))|(refine wo ?_;first|refine oa ?_)|(refine gc ?_;first|refine cf ?_)|refine rg ?_|refine xc ?_|refine sk ?_|refine rq ?_|refine nq ?_|(refine wq ?_;first|refine qa ?_)
  repeat' first|(refine gca ?_;first|(refine ca hOv ?_;rintro _ _ rfl))|refine ixws (v:=v1) (N:=L.length) (xs:=xs1) ?_ (hm:=has_oww memA)|refine ldaw (v:=v1) (m:=3 * i) hr1 ?_ (hm:=has_oww memA)|(refine wo ?_;first|(refine ao ?_;first|refine aw ?_)|refine oa ?_)|refine rg ?_|refine xc ?_|refine nl ?_|refine xb ?_
  exact lp (i + 1) hlt
 obtain rfl:i = L.length:=by omega
 repeat' first|(refine gca ?_;first|(refine ca (OverRatio_tr t1 n1 k1 d1.1 d1.2) ?_;rintro _ _ rfl)|(refine ca awake26_tr ?_;rintro _ _ ⟨rfl,rfl⟩))|refine lnw (v:=v1) (N:=L.length) ?_ (hm:=has_oww memA)|refine lda ?_|(refine wo ?_;first|(refine ao ?_;first|refine oa ?_)|refine oa ?_)|(refine gc ?_;first|(refine ci (fun hB=>?_) (fun hB=>?_) <;> try (exfalso;omega)))|refine sq ?_|refine rg ?_|refine xc ?_|refine nl ?_|refine xe ?_|refine rt ?_
 all_goals exact r1 ⟨rfl,rfl⟩
end Go.Art
