/- Texts put together: Rc Vo Yj Vr Yl Ym Yn Yo Yp Yq Yr Ys Yt Yu Yv Yw Yx Yy Ib. Conditions: none. -/
import Derived.Test.YtpabbhpgikdhfaaGreatWNf
set_option linter.unusedSimpArgs false
set_option linter.unusedVariables false
namespace Go.Art
open Go Go.Proofs Go.RowKit
def msk (l:List Int):Nat:=(l.map fun s=>2 ^ s.toNat).sum
def popK (k a:Nat):Nat:=((List.range k).map fun j=>a / 2 ^ j % 2).sum
def rmsk (k:Nat) (l:List Int):Nat:=msk (ordF 0 (upto k) (l.drop 2))
def fct:Nat→Nat
 | 0=>1
 | n + 1=>(n + 1) * fct n
def chkA (k:Nat):Bool:=(List.range (k + 1)).all fun d=>(endsL d k []).all fun js=>(ordF 0 (upto k) js).all (fun s=>decide (0 ≤ s∧s < k)) && Nat.blt (msk (ordF 0 (upto k) js)) (2 ^ k)
def chkB (k:Nat):Bool:=(List.range (2 ^ k)).all fun a=>Nat.ble (popK k a) k && (Nat.beq a 0 || Nat.blt 0 (popK k a)) && (List.range (k + 1)).all fun d=>Nat.beq ((endsL d k []).filter fun js=>Nat.beq (msk (ordF 0 (upto k) js)) a).length (bif Nat.beq d (popK k a) then fct d else 0)
def wtA (k a:Nat) (l:List Int):Nat:=bif Nat.beq (rmsk k l) a then wt k l else 0
def shrM (k a:Nat) (d:Nat):Nat:=if d = popK k a then fct d * (24 / fall k d) else 0
open Go Go.Proofs Go.RowKit
theorem natG_zero (W:List (List Int)→Bool) (L:List (List Int × Nat)) (b:List (List Int)) (m:Nat):natG W L 0 b m = if W b then m else 0:=by rw [natG]
theorem natG_succ (W:List (List Int)→Bool) (L:List (List Int × Nat)) (n:Nat) (b:List (List Int)) (m:Nat):natG W L (n + 1) b m = (L.map fun s=>natG W L n (b ++ [s.1]) (m * s.2)).sum:=by rw [natG]
theorem sum_mulR {α:Type} (f:α→Nat) (c:Nat):∀ l:List α,(l.map fun x=>f x * c).sum = (l.map f).sum * c
 | []=>by simp
 | a :: l=>by rw [List.map_cons,List.sum_cons,List.map_cons,List.sum_cons,sum_mulR f c l,Nat.add_mul]
theorem natG_lin (W:List (List Int)→Bool) (L:List (List Int × Nat)) (c:Nat):∀ n b m,natG W L n b (m * c) = natG W L n b m * c
 | 0,b,m=>by rw [natG_zero,natG_zero];split <;> simp
 | n + 1,b,m=>by
  rw [natG_succ,natG_succ,← sum_mulR]
  refine congrArg List.sum (List.map_congr_left fun s _=>?_)
  rw [Nat.mul_right_comm,natG_lin W L c n]
theorem natG_all {L:List (List Int × Nat)} {D:Nat} (hD:(L.map (·.2)).sum = D):∀ n b m,natG (fun _=>true) L n b m = m * D ^ n
 | 0,b,m=>by rw [natG_zero,if_pos rfl,Nat.pow_zero,Nat.mul_one]
 | n + 1,b,m=>by
  rw [natG_succ]
  have:(L.map fun s=>natG (fun _=>true) L n (b ++ [s.1]) (m * s.2)) = L.map fun s=>s.2 * (m * D ^ n):=List.map_congr_left fun s _=>by rw [natG_all hD n,Nat.mul_assoc,Nat.mul_left_comm]
  rw [this,sum_mulR (fun s:List Int × Nat=>s.2) (m * D ^ n) L,hD,Nat.pow_succ,Nat.mul_comm D,Nat.mul_assoc]
theorem natG_leW {W V:List (List Int)→Bool} (h:∀ b,W b = true→V b = true) (L:List (List Int × Nat)):∀ n b m,natG W L n b m ≤ natG V L n b m
 | 0,b,m=>by
  rw [natG_zero,natG_zero]
  by_cases e:W b = true
  ·rw [if_pos e,if_pos (h b e)];exact Nat.le_refl _
  ·rw [if_neg e];exact Nat.zero_le _
 | n + 1,b,m=>by
  rw [natG_succ,natG_succ]
  have key:∀ l:List (List Int × Nat),(l.map fun s=>natG W L n (b ++ [s.1]) (m * s.2)).sum ≤ (l.map fun s=>natG V L n (b ++ [s.1]) (m * s.2)).sum:=by
   intro l
   induction l with
   | nil=>simp
   | cons a r ih=>simp only [List.map_cons,List.sum_cons];have:=natG_leW h L n (b ++ [a.1]) (m * a.2);omega
  exact key L
theorem itemS_sum {t:List Int} {k:Nat} (hz:solE t k = 0):((itemS t k).map (·.2)).sum = oneS t k:=by
 obtain ⟨z1,z2,z3,z4⟩:=solE_zero hz
 have h1:(itemS t k).map (·.2) = (setP t k t.length).map fun s=>wS t k s.length:=by unfold itemS;rw [List.map_map];rfl
 rw [h1]
 have h2:∀ i,i < t.length→((szL t k i).map fun s=>wS t k s.length).sum = (t.getD i 0).toNat * prodC k t.length:=fun i hi=>by
  unfold szL
  by_cases e:t.getD i 0 = 0
  ·rw [if_pos e,e];simp
  ·rw [if_neg e,sum_const (fun s:List Int=>wS t k s.length) (wS t k (i + 1)) (risR (i + 1) 0 k) (fun s hs=>by rw [(risR_mem _ _ _ _ hs).1]),risR_len]
   unfold wS
   rw [Nat.sub_zero,Nat.add_sub_cancel,Nat.mul_comm,Nat.mul_assoc,prodX_mul (by omega) (by omega)]
 have h3:∀ n,n ≤ t.length→((setP t k n).map fun s=>wS t k s.length).sum = (t.take n).sum.toNat * prodC k t.length:=by
  intro n
  induction n with
  | zero=>intro _;rw [setP_zero];simp
  | succ n ih=>
   intro hn
   rw [setP_succ,List.map_append,List.sum_append,ih (by omega),h2 n (by omega),take_succ' (show n < t.length by omega) 0,List.sum_append,← Nat.add_mul]
   congr 1
   have ha:=(z3 (t.getD n 0) (by rw [List.getD_eq_getElem?_getD,List.getElem?_eq_getElem (by omega)];exact List.getElem_mem (by omega))).1
   have hb:0 ≤ (t.take n).sum:=(sum_bound (t:=t.take n) fun w hw=>z3 w (List.mem_of_mem_take hw)).1
   simp only [List.sum_cons,List.sum_nil,Int.add_zero]
   omega
 rw [h3 t.length (Nat.le_refl _),List.take_length];rfl
open Go Go.Proofs Go.RowKit
theorem tG_same {β:Type} {L M:List (β × Rat)} (H:∀ F:β→Rat,sR (fun s=>s.2 * F s.1) L = sR (fun s=>s.2 * F s.1) M):∀ (n:Nat) (F:List β→Rat),tG L n F = tG M n F
 | 0,F=>rfl
 | n + 1,F=>by
  simp only [tG]
  rw [H fun x=>tG L n fun l=>F (x :: l)]
  exact sR_congr fun s _=>by rw [tG_same H n]
theorem sR_cast {α:Type} (f:α→Nat):∀ l:List α,(((l.map f).sum:Nat):Rat) = sR (fun x=>(f x:Rat)) l
 | []=>rfl
 | a :: l=>by rw [List.map_cons,List.sum_cons];push_cast;rw [sR_cast f l];rfl
abbrev omg (t:List Int) (k:Nat):Nat→Rat:=natW (fun i=>wS t k (i + 1)) (oneS t k)
abbrev tabX (t:List Int) (k:Nat):List (List Int × Rat):=evX t.length k (omg t k)
theorem natG_tG (W:List (List Int)→Bool) (L:List (List Int × Nat)) {D:Nat} (hD:D ≠ 0):∀ n b m,((natG W L n b m:Nat):Rat) = (m:Rat) * (D:Rat) ^ n * tG (L.map fun s=>(s.1,(s.2:Rat) / (D:Rat))) n fun l=>if W (b ++ l) = true then 1 else 0
 | 0,b,m=>by
  rw [natG_zero]
  simp only [tG,List.append_nil,Rat.pow_zero,Rat.mul_one]
  split
  ·rw [Rat.mul_one]
  ·rw [Rat.mul_zero];rfl
 | n + 1,b,m=>by
  rw [natG_succ,sR_cast]
  simp only [tG]
  rw [sR_map,← sR_mul]
  refine sR_congr fun s _=>?_
  rw [natG_tG W L hD n]
  have h0:=nz hD
  simp only [List.append_assoc,List.singleton_append]
  push_cast
  rw [Rat.pow_succ]
  generalize (tG (L.map fun s=>(s.1,(s.2:Rat) / (D:Rat))) n fun l=>if W (b ++ s.1 :: l) = true then 1 else 0) = z
  grind
theorem wS_zero {t:List Int} {k i:Nat} (h:t.getD i 0 = 0):wS t k (i + 1) = 0:=by
 unfold wS;rw [Nat.add_sub_cancel,h];simp
theorem item_ev (t:List Int) (k:Nat) (F:List Int→Rat):sR (fun s=>s.2 * F s.1) ((itemS t k).map fun s=>(s.1,(s.2:Rat) / (oneS t k:Rat))) = sR (fun s=>s.2 * F s.1) (tabX t k):=by
 unfold itemS tabX evX setP
 rw [List.map_map,sR_map,sR_flat,sR_flat]
 refine sR_congr fun i _=>?_
 have hR:sR (fun s:List Int × Rat=>s.2 * F s.1) ((risR (i + 1) 0 k).map fun l=>(l,omg t k i)) = sR (fun l=>omg t k i * F l) (risR (i + 1) 0 k):=sR_map _ _ _
 refine Eq.trans ?_ hR.symm
 by_cases e:t.getD i 0 = 0
 ·rw [if_pos e]
  have h0:omg t k i = 0:=by
   show (wS t k (i + 1):Rat) / (oneS t k:Rat) = 0
   rw [wS_zero e,show ((0:Nat):Rat) = 0 from rfl];grind
  rw [h0]
  exact ((sR_congr fun l _=>Rat.zero_mul _).trans (sR_zero _)).symm
 ·rw [if_neg e]
  refine sR_congr fun l hl=>?_
  show (wS t k l.length:Rat) / (oneS t k:Rat) * F l = omg t k i * F l
  rw [(risR_mem _ _ _ _ hl).1];rfl
theorem omg_nonneg (t:List Int) (k i:Nat):0 ≤ omg t k i:=natW_nonneg _ _ _
theorem tabX_one {t:List Int} {k:Nat} (hz:solE t k = 0):sR (·.2) (tabX t k) = 1:=by
 have h1:=item_ev t k fun _=>1
 have h2:=itemS_sum hz
 have h0:=nz (oneS_pos hz)
 rw [sR_congr (f:=fun s:List Int × Rat=>s.2 * 1) (l:=tabX t k) (g:=(·.2)) fun s _=>Rat.mul_one _] at h1
 rw [← h1,sR_map]
 rw [sR_congr (g:=fun s:List Int × Nat=>(1 / (oneS t k:Rat)) * (s.2:Rat)) fun s _=>by grind,sR_mul,← sR_cast fun s:List Int × Nat=>s.2,h2]
 grind
abbrev pT (t:List Int) (k:Nat):Rat:=evI t.length k (omg t k) k 1
abbrev fT (t:List Int) (k u:Nat):Rat:=freeR t.length k (omg t k) u
abbrev lvT (t:List Int) (k n j:Nat):List Rat:=lvR (pT t k) (fT t k) n k j
def stT (t:List Int) (k n u:Nat):Rat:=stuckR n u (lvT t k n (k - u))
theorem ripple_tab {t:List Int} {k:Nat} (hz:solE t k = 0) (φ:Nat→Rat) (n:Nat):sR (fun u=>φ u * stT t k n u) (List.range (k + 1)) = tG (tabX t k) n fun ls=>φ (largeL k ls).length:=
 ripple_sets φ (fun i _=>omg_nonneg t k i) (tabX_one hz) n
open Go Go.Proofs Go.RowKit
theorem sg_flip (z:Int):sg (!decide (z < 0)) z.natAbs = -z:=by
 unfold sg
 by_cases h:z < 0
 ·rw [decide_eq_true h];simp;omega
 ·rw [decide_eq_false h];simp;omega
theorem sg_same (z:Int):sg (decide (z < 0)) z.natAbs = z:=by
 unfold sg
 by_cases h:z < 0
 ·rw [decide_eq_true h];simp;omega
 ·rw [decide_eq_false h];simp;omega
theorem FB_neg {q:Rat} {B:Nat} (h:FB q B):FB (-q) B:=by
 refine ⟨?_,?_⟩
 ·rw [Rat.neg_num,Int.natAbs_neg];exact h.1
 ·rw [Rat.neg_den];exact h.2
attribute [local irreducible] Fit pt own ro vw mpc lpt vels rels mow lrc dfr
attribute [local irreducible] lmp lme mit velg relg bnd owl
theorem INeg_tr (z:Int) (o:Value) (ho:o.oneCell' = true) (hz:(dg z.natAbs).length ≤ 1099511627776):Tr Tryz.prog 125 [iv z o] [vw o (Us (dg z.natAbs))] [] (IR (-z)):=by
 have hM:=IMake_tr (!decide (z < 0)) o (dg z.natAbs) (Dg_dg _) hz
 rw [nv_dg,sg_flip] at hM
 unfold IR at hM ⊢
 generalize dg z.natAbs = l at *
 generalize dg (-z).natAbs = l2 at *
 show Tr _ _ [.agg #[.bool (decide (z < 0)),o]] _ _ _
 generalize decide (z < 0) = b at *
 generalize decide (-z < 0) = b2 at *
 refine Tr.enter env _ Tryz.func125 (by kernel_rfl) rfl Tryz.ntmps125 rfl (by repeat (first | exact has00 | refine has01 ?_)) fun w0=>?_
 repeat' first|(refine gca ?_;first|(refine ca hM ?_;rintro _ _ ⟨o2,rfl,ho2,rfl⟩))|refine bx fun q=>?_|refine al fun c=>?_|refine srz ?_|(refine wo ?_;first|refine oa ?_|refine ld ?_)|refine sq ?_|refine rg ?_|refine xc ?_|refine nl ?_|refine rt ?_
 exact rca1 (b:=c) (cs:=[.bool b2,o2]) (vs:=[.bool b2,o2]) (T:=33) ⟨o2,rfl,ho2,rfl⟩
theorem IHeld_tr (z:Int) (o:Value) (ho:o.oneCell' = true) (hz:(dg z.natAbs).length ≤ 1099511627776):Tr Tryz.prog 102 [iv z o] [vw o (Us (dg z.natAbs))] [] (IR z):=by
 have hM:=IMake_tr (decide (z < 0)) o (dg z.natAbs) (Dg_dg _) hz
 rw [nv_dg,sg_same] at hM
 unfold IR at hM ⊢
 generalize dg z.natAbs = l at *
 show Tr _ _ [.agg #[.bool (decide (z < 0)),o]] _ _ _
 generalize decide (z < 0) = b at *
 refine Tr.enter env _ Tryz.func102 (by kernel_rfl) rfl Tryz.ntmps102 rfl (by repeat (first | exact has00 | refine has01 ?_)) fun w0=>?_
 repeat' first|(refine gca ?_;first|(refine ca hM ?_;rintro _ _ ⟨o2,rfl,ho2,rfl⟩))|refine bx fun q=>?_|refine al fun c=>?_|refine srz ?_|(refine wo ?_;first|refine oa ?_|refine ld ?_)|refine sq ?_|refine rg ?_|refine xc ?_|refine nl ?_|refine rt ?_
 exact rca1 (b:=c) (cs:=[.bool b,o2]) (vs:=[.bool b,o2]) (T:=33) ⟨o2,rfl,ho2,rfl⟩
theorem ISign_tr (z:Int) (o:Value) (ho:o.oneCell' = true) (hz:(dg z.natAbs).length ≤ 1099511627776):Tr Tryz.prog 54 [iv z o] [vw o (Us (dg z.natAbs))] [] fun u D=>u = I z.sign∧D = []:=by
 have hM:=IHeld_tr z o ho hz
 unfold IR iv at hM
 have hlp:0 < (dg z.natAbs).length ↔ z ≠ 0:=⟨fun h e=>by rw [e,Int.natAbs_zero,dg_zero] at h;simp at h,fun h=>dg_len_pos (by omega)⟩
 have h1:z < 0→z.sign = -1:=Int.sign_eq_neg_one_of_neg
 have h2:0 < z→z.sign = 1:=Int.sign_eq_one_of_pos
 have h3:z = 0→z.sign = 0:=fun h=>by rw [h];rfl
 generalize dg z.natAbs = l at *
 generalize z.sign = s at *
 show Tr _ _ [.agg #[.bool (decide (z < 0)),o]] _ _ _
 have h4:decide (z < 0) = true ↔ z < 0:=decide_eq_true_iff
 generalize decide (z < 0) = b at *
 cases b with
 | true=>
  have h5:=h1 (h4.1 rfl)
  refine Tr.enter env _ Tryz.func54 (by kernel_rfl) rfl Tryz.ntmps54 rfl (by repeat (first | exact has00 | refine has01 ?_)) fun w0=>?_
  repeat' first|(refine gca ?_;first|(refine ca hM ?_;rintro _ _ ⟨o2,rfl,ho2,rfl⟩))|refine bx fun q=>?_|refine lda ?_|refine srz ?_ (hj:=Nat.le_of_ble_eq_true rfl)|(refine wo ?_;first|refine oa ?_|refine ld ?_)|(refine gc ?_;first|refine ct ?_)|refine sq ?_|refine rg ?_|refine xc ?_|refine nl ?_|refine bk ?_|refine rt ?_
  all_goals exact r1 ⟨by rw [h5],rfl⟩
 | false=>
  have h5:¬ z < 0:=fun h=>by have:=h4.2 h;cases this
  by_cases h6:z = 0
  ·have h7:¬ 0 < l.length:=fun h=>hlp.1 h h6
   have h8:=h3 h6
   refine Tr.enter env _ Tryz.func54 (by kernel_rfl) rfl Tryz.ntmps54 rfl (by repeat (first | exact has00 | refine has01 ?_)) fun w0=>?_
   repeat' first|(refine gca ?_;first|(refine ca hM ?_;rintro _ _ ⟨o2,rfl,ho2,rfl⟩))|refine bx fun q=>?_|refine lda ?_|refine srz ?_ (hj:=Nat.le_of_ble_eq_true rfl)|(refine wo ?_;first|(refine ao ?_;first|refine oa ?_)|refine oa ?_|refine ld ?_|refine lnm ?_)|(refine gc ?_;first|refine cf ?_|(refine ci (fun hB=>?_) (fun hB=>?_) <;> try (exfalso;omega)))|refine sq ?_|refine rg ?_|refine xc ?_|refine nl ?_|refine sk ?_|refine bk ?_|refine rt ?_|refine xb ?_
   all_goals exact r1 ⟨by rw [h8],rfl⟩
  ·have h7:=hlp.2 h6
   have h8:=h2 (by omega)
   refine Tr.enter env _ Tryz.func54 (by kernel_rfl) rfl Tryz.ntmps54 rfl (by repeat (first | exact has00 | refine has01 ?_)) fun w0=>?_
   repeat' first|(refine gca ?_;first|(refine ca hM ?_;rintro _ _ ⟨o2,rfl,ho2,rfl⟩))|refine bx fun q=>?_|refine lda ?_|refine srz ?_ (hj:=Nat.le_of_ble_eq_true rfl)|(refine wo ?_;first|(refine ao ?_;first|refine oa ?_)|refine oa ?_|refine ld ?_|refine lnm ?_)|(refine gc ?_;first|refine cf ?_|(refine ci (fun hB=>?_) (fun hB=>?_) <;> try (exfalso;omega)))|refine sq ?_|refine rg ?_|refine xc ?_|refine nl ?_|refine bk ?_|refine rt ?_
   all_goals exact r1 ⟨by rw [h8],rfl⟩
theorem FSub_tr (q r:Rat) (v1 v2 v3 v4:Value) (h1:v1.oneCell' = true) (h2:v2.oneCell' = true) (h3:v3.oneCell' = true) (h4:v4.oneCell' = true) (hq:FB q 8589934592) (hr:FB r 8589934592) :
  Tr Tryz.prog 72 [rv q v1 v2,rv r v3 v4] [vw v1 (Us (dg q.num.natAbs)),vw v2 (Us (dg q.den)),vw v3 (Us (dg r.num.natAbs)),vw v4 (Us (dg r.den))] [] (FQ2 (q - r) 0):=by
 have hC1:=FCheck_tr q v1 v2 h1 h2 (hq.le (by decide))
 have hC2:=FCheck_tr r v3 v4 h3 h4 (hr.le (by decide))
 have hN:=INeg_tr r.num v3 h3 (by have:=hr.1;omega)
 have hS:=fun o ho=>FSum_tr q (-r) v1 v2 o v4 h1 h2 ho h4 hq (FB_neg hr)
 rw [← Rat.sub_eq_add_neg] at hS
 unfold rv at hS hC1 hC2
 simp only [Rat.neg_num,Rat.neg_den] at hS
 unfold IR iv at hN
 unfold FQ at hS
 unfold FQ2
 obtain ⟨p,hp⟩ : ∃ p,p = q - r:=⟨_,rfl⟩
 simp only [← hp] at hS ⊢
 clear hp
 show Tr _ _ [.agg #[.bool (decide (q.num < 0)),v1,v2],.agg #[.bool (decide (r.num < 0)),v3,v4]] _ _ _
 generalize dg (-r.num).natAbs = ln at *
 generalize decide (-r.num < 0) = bn at *
 generalize dg q.num.natAbs = lq at *
 generalize dg q.den = lqd at *
 generalize dg r.num.natAbs = lr at *
 generalize dg r.den = lrd at *
 generalize decide (q.num < 0) = b1 at *
 generalize decide (r.num < 0) = b2 at *
 refine Tr.enter env _ Tryz.func72 (by kernel_rfl) rfl Tryz.ntmps72 rfl (by repeat (first | exact has00 | refine has01 ?_)) fun w0=>?_
 repeat' first|(refine gca ?_;first|(refine ca hC1 ?_;rintro _ _ ⟨rfl,rfl⟩)|(refine ca hC2 ?_;rintro _ _ ⟨rfl,rfl⟩))|refine bx fun q=>?_|refine al fun c=>?_|refine lda ?_|(refine wo ?_;first|(refine ao ?_;first|refine oa ?_)|refine oa ?_|refine gy ?_)|(refine gc ?_;first|refine cf ?_)|refine sq ?_|refine rg ?_|refine xc ?_|refine nl ?_|refine sk ?_
 rename_i q1
 refine rs (fun w=>w.heap[q1]? = some (.cells [.bool b1,v1,v2].toArray TRt (0,0))∧w.heap[q]? = some (.cells [.bool b2,v3,v4].toArray TRt (0,0))) ?_ (fun w hw=>⟨pt_at memA hw,pt_at memA hw⟩)
 refine tk 0 (v:=.agg #[.bool b1,v1,v2]) (fun w h=>R_loadA (E:=env) (vs:=[.bool b1,v1,v2]) rfl rfl rfl rfl h.1 rfl rfl) ?_
 refine tka 1 ?_
 refine tk 2 (v:=.agg #[.bool b2,v3]) (fun w h=>R_loadA (E:=env) (vs:=[.bool b2,v3]) rfl rfl rfl rfl h.2 rfl rfl) ?_
 refine tka 4 ?_
 refine tkl 5 (cs:=[.bool b2,v3,v4]) (fun w h=>h.2) ?_
 refine t1 3 ?_
 refine ca hN ?_
 rintro _ _ ⟨o2,rfl,ho2,rfl⟩
 refine nl ?_
 refine te (fun w hw=>⟨pt_at memA hw,pt_at memA hw⟩) ?_
 refine t1 6 ?_
 refine bdm ?_
 refine nl ?_
 refine te (fun w hw=>⟨pt_at memA hw,pt_at memA hw⟩) ?_
 refine t1 7 ?_
 refine ca (hS o2 ho2) ?_
 rintro _ _ ⟨vn,vd,rfl,hvn,hvd,rfl⟩
 refine nl ?_
 refine te (fun w hw=>⟨pt_at memA hw,pt_at memA hw⟩) ?_
 refine t1 8 ?_
 refine srz ?_
 refine nl ?_
 refine te (fun w hw=>⟨pt_at memA hw,pt_at memA hw⟩) ?_
 refine tka 9 ?_
 refine t0 ?_
 repeat' first|refine xc ?_|refine rt ?_
 exact rca (cs:=[.bool (decide (p.num < 0)),vn,vd]) (vs:=[.bool (decide (p.num < 0)),vn,vd]) (T:=TRt) ⟨vn,vd,rfl,hvn,hvd,rfl⟩
end Go.Art
namespace Go.Art
open Go Go.Proofs Go.RowKit
theorem inv_parts {r:Rat} (h:0 < r.num):(r⁻¹).num = r.den∧(r⁻¹).den = r.num.natAbs:=by
 refine ⟨?_,?_⟩
 ·rw [Rat.num_inv,Int.sign_eq_one_of_pos h,Int.one_mul]
 ·rw [Rat.den_inv,if_neg (by omega)]
theorem FB_inv {r:Rat} {B:Nat} (h:0 < r.num) (k:FB r B):FB r⁻¹ B:=by
 obtain ⟨e1,e2⟩:=inv_parts h
 refine ⟨?_,?_⟩
 ·rw [e1,Int.natAbs_natCast];exact k.2
 ·rw [e2];exact k.1
attribute [local irreducible] Fit pt own ro vw mpc lpt vels rels mow lrc dfr
attribute [local irreducible] lmp lme mit velg relg bnd owl
theorem FOver_tr (b:Bool) (v3 v4:Value) (h3:v3.oneCell' = true) (h4:v4.oneCell' = true):Tr Tryz.prog 267 [.agg #[.bool b,v3,v4]] [] [] fun u D=>u = .agg #[.bool b,v4,v3]∧D = []:=by
 refine Tr.enter env _ Tryz.func267 (by kernel_rfl) rfl Tryz.ntmps267 rfl (by repeat (first | exact has00 | refine has01 ?_)) fun w0=>?_
 repeat' first|refine bx fun q=>?_|refine al fun c=>?_|refine bdm ?_|refine srz ?_|(refine wo ?_;first|refine oa ?_|refine ld ?_)|refine sq ?_|refine rg ?_|refine xc ?_|refine nl ?_|refine rt ?_
 exact rca1 (cs:=[.bool b,v4,v3]) (vs:=[.bool b,v4,v3]) (T:=TRt) ⟨rfl,rfl⟩
theorem FDiv_tr (q r:Rat) (v1 v2 v3 v4:Value) (h1:v1.oneCell' = true) (h2:v2.oneCell' = true) (h3:v3.oneCell' = true) (h4:v4.oneCell' = true) (hq:FB q 8589934592) (hr:FB r 8589934592) (hp:0 < r.num) :
  Tr Tryz.prog 218 [rv q v1 v2,rv r v3 v4] [vw v1 (Us (dg q.num.natAbs)),vw v2 (Us (dg q.den)),vw v3 (Us (dg r.num.natAbs)),vw v4 (Us (dg r.den))] [] (FQ2 (q / r) 0):=by
 have hC1:=FCheck_tr q v1 v2 h1 h2 (hq.le (by decide))
 have hC2:=FCheck_tr r v3 v4 h3 h4 (hr.le (by decide))
 have hO:=FOver_tr (decide (r.num < 0)) v3 v4 h3 h4
 have hP:=FProd_tr q r⁻¹ v1 v2 v4 v3 h1 h2 h4 h3 hq (FB_inv hp hr)
 obtain ⟨e1,e2⟩:=inv_parts hp
 have hl:0 < (dg r.num.natAbs).length:=dg_len_pos (by omega)
 rw [← Rat.div_def] at hP
 unfold rv at hP hC1 hC2
 rw [e1,e2,Int.natAbs_natCast,show decide (((r.den:Nat):Int) < 0) = decide (r.num < 0) by rw [decide_eq_false (by omega),decide_eq_false (by omega)]] at hP
 unfold FQ at hP
 unfold FQ2
 obtain ⟨p,hp'⟩ : ∃ p,p = q / r:=⟨_,rfl⟩
 simp only [← hp'] at hP ⊢
 clear hp' hp e1 e2
 show Tr _ _ [.agg #[.bool (decide (q.num < 0)),v1,v2],.agg #[.bool (decide (r.num < 0)),v3,v4]] _ _ _
 generalize dg q.num.natAbs = lq at *
 generalize dg q.den = lqd at *
 generalize dg r.num.natAbs = lr at *
 generalize dg r.den = lrd at *
 generalize decide (q.num < 0) = b1 at *
 generalize decide (r.num < 0) = b2 at *
 refine Tr.enter env _ Tryz.func218 (by kernel_rfl) rfl Tryz.ntmps218 rfl (by repeat (first | exact has00 | refine has01 ?_)) fun w0=>?_
 repeat' first|(refine gca ?_;first|(refine ca hC1 ?_;rintro _ _ ⟨rfl,rfl⟩)|(refine ca hC2 ?_;rintro _ _ ⟨rfl,rfl⟩))|refine bx fun q=>?_|refine al fun c=>?_|refine lda ?_|(refine wo ?_;first|(refine ao ?_;first|refine oa ?_)|refine oa ?_|refine ld ?_|refine lnm ?_|refine gy ?_)|(refine gc ?_;first|refine cf ?_|(refine ci (fun hB=>?_) (fun hB=>?_) <;> try (exfalso;omega)))|refine sq ?_|refine rg ?_|refine xc ?_|refine nl ?_|refine sk ?_|refine bk ?_|refine xb ?_
 rename_i q1
 refine rs (fun w=>w.heap[q1]? = some (.cells [.bool b1,v1,v2].toArray TRt (0,0))∧w.heap[q]? = some (.cells [.bool b2,v3,v4].toArray TRt (0,0))) ?_ (fun w hw=>⟨pt_at memA hw,pt_at memA hw⟩)
 refine tk 0 (v:=.agg #[.bool b1,v1,v2]) (fun w h=>R_loadA (E:=env) (vs:=[.bool b1,v1,v2]) rfl rfl rfl rfl h.1 rfl rfl) ?_
 refine tk 1 (v:=.agg #[.bool b2,v3,v4]) (fun w h=>R_loadA (E:=env) (vs:=[.bool b2,v3,v4]) rfl rfl rfl rfl h.2 rfl rfl) ?_
 refine t1 2 ?_
 refine ca hO ?_
 rintro _ _ ⟨rfl,rfl⟩
 refine nl ?_
 refine te (fun w hw=>⟨pt_at memA hw,pt_at memA hw⟩) ?_
 refine t1 3 ?_
 refine ca hP ?_
 rintro _ _ ⟨vn,vd,rfl,hvn,hvd,rfl⟩
 refine nl ?_
 refine te (fun w hw=>⟨pt_at memA hw,pt_at memA hw⟩) ?_
 refine t1 4 ?_
 refine srz ?_
 refine nl ?_
 refine te (fun w hw=>⟨pt_at memA hw,pt_at memA hw⟩) ?_
 refine tka 5 ?_
 refine t0 ?_
 repeat' first|refine xc ?_|refine rt ?_
 exact rca (cs:=[.bool (decide (p.num < 0)),vn,vd]) (vs:=[.bool (decide (p.num < 0)),vn,vd]) (T:=TRt) ⟨vn,vd,rfl,hvn,hvd,rfl⟩
end Go.Art
namespace Go.Art
open Go Go.Proofs Go.RowKit
def chsI (n:Nat) (k:Int):Nat:=if k < 0 then 0 else chs n k.toNat
theorem chsI_fill (m d j:Nat):chsI m ((d:Int) - j) = fillN m d j:=by
 unfold chsI fillN
 by_cases h:j ≤ d
 ·rw [if_neg (by omega),if_pos h,show ((d:Int) - j).toNat = d - j by omega]
 ·rw [if_pos (by omega),if_neg h]
theorem foldl_addR (l:List Rat):∀ s:Rat,l.foldl (· + ·) s = s + sR (fun x=>x) l:=by
 induction l with
 | nil=>intro s;simp only [List.foldl_nil,sR];grind
 | cons a l ih=>intro s;rw [List.foldl_cons,ih];simp only [sR];grind
theorem Tr.wk {P:Program} {f:FuncId} {args:List Value} {pre A:List Ch} {R:Value→List Ch→Prop} (W:Ch) (h:Tr P f args pre A R):Tr P f args pre (W :: A) R:=by
 refine ⟨fun w hw=>?_,h.lent⟩
 have h1:Sat (pre ++ A) w:=by
  have h2:Sat (W :: (pre ++ A)) w:=hw.perm List.perm_middle
  exact (Sat.cons.1 h2).2.2
 have e1:∀ b,wrs A b→wrs (W :: A) b:=fun b ⟨c,hc,hb⟩=>⟨c,List.mem_cons_of_mem _ hc,hb⟩
 have e2:∀ b,rds A b→rds (W :: A) b:=fun b ⟨c,hc,hb⟩=>⟨c,List.mem_cons_of_mem _ hc,hb⟩
 refine (h.run w h1).mono fun v w' ⟨B,hR,hS,hM,hB⟩=>⟨B,hR,hS,⟨hM.os,hM.tape,hM.output,hM.size,fun k hk hn=>hM.block k hk fun h=>hn (e1 k h),fun b hb=>(hM.wr b hb).imp_left (e1 b),fun b hb=>(hM.rd b hb).imp (e1 b) (Or.imp_left (e2 b))⟩,hB⟩
theorem Tr.unbK {P:Program} {f:FuncId} {args:List Value} {pre C:List Ch} {W:Ch} {R R':Value→List Ch→Prop} (h:Tr P f args pre [W,Go.Art.bnd C] R) (k:∀ v D,R v D→∃ C',D = [Go.Art.bnd C']∧R' v C'):Tr P f args pre (C ++ [W]) R':=by
 refine ⟨fun w hw=>?_,h.lent⟩
 have p1:(pre ++ (C ++ [W])).Perm (C ++ (pre ++ [W])):=(List.perm_append_comm_assoc pre C [W])
 have p2:(Go.Art.bnd C :: (pre ++ [W])).Perm (pre ++ [W,Go.Art.bnd C]):=by
  have:(Go.Art.bnd C :: (pre ++ [W])).Perm ((pre ++ [W]) ++ [Go.Art.bnd C]):=List.perm_append_comm (l₁:=[Go.Art.bnd C]) (l₂:=pre ++ [W])
  simpa using this
 have h1:Sat (pre ++ [W,Go.Art.bnd C]) w:=(bnd_sat.2 (hw.perm p1)).perm p2
 have e1:∀ b,wrs [W,Go.Art.bnd C] b→wrs (C ++ [W]) b:=fun b ⟨c,hc,hb⟩=>by
  simp only [List.mem_cons,List.not_mem_nil,or_false] at hc
  rcases hc with rfl | rfl
  ·exact ⟨c,by simp,hb⟩
  ·obtain ⟨d,hd,h⟩:=hb;exact ⟨d,List.mem_append_left _ hd,h⟩
 have e2:∀ b,rds [W,Go.Art.bnd C] b→rds (C ++ [W]) b:=fun b ⟨c,hc,hb⟩=>by
  simp only [List.mem_cons,List.not_mem_nil,or_false] at hc
  rcases hc with rfl | rfl
  ·exact ⟨c,by simp,hb⟩
  ·obtain ⟨d,hd,h⟩:=hb;exact ⟨d,List.mem_append_left _ hd,h⟩
 have f1:∀ (C:List Ch) (b:Nat),wrs [Go.Art.bnd C] b ↔ wrs C b:=fun C b=>by have:=bnd_wrs (C:=C) (F:=[]) (b:=b);rwa [List.append_nil] at this
 have f2:∀ (C:List Ch) (b:Nat),rds [Go.Art.bnd C] b ↔ rds C b:=fun C b=>by have:=bnd_rds (C:=C) (F:=[]) (b:=b);rwa [List.append_nil] at this
 refine (h.run w h1).mono fun v w' ⟨B,hR,hS,hM,hB⟩=>?_
 obtain ⟨C',rfl,hR'⟩:=k v B hR
 refine ⟨C',hR',by have:=bnd_sat.1 hS;rwa [List.append_nil] at this,?_,fun c hc b hb=>hB _ (List.Mem.head _) b ⟨c,hc,hb⟩⟩
 exact ⟨hM.os,hM.tape,hM.output,hM.size,fun k hk hn=>hM.block k hk fun h=>hn (e1 k h),fun b hb=>(hM.wr b ((f1 C' b).2 hb)).imp_left (e1 b),fun b hb=>(hM.rd b ((f2 C' b).2 hb)).imp (e1 b) (Or.imp_left (e2 b))⟩
theorem Ty.bndL {P:Program} {l:Nat} {vs:List Value} {K pre C:List Ch} {R:Bool→List Ch→Prop} (h:Ty P l vs pre (C ++ K) fun b D=>R b [Go.Art.bnd D]):Ty P l vs pre (K ++ [Go.Art.bnd C]) R:=by
 refine ⟨fun w hw=>?_,h.lent⟩
 have p1:(pre ++ (K ++ [Go.Art.bnd C])).Perm (Go.Art.bnd C :: (pre ++ K)):=by
  have:((pre ++ K) ++ [Go.Art.bnd C]).Perm (Go.Art.bnd C :: (pre ++ K)):=List.perm_append_comm (l₁:=pre ++ K) (l₂:=[Go.Art.bnd C])
  simpa using this
 have h1:Sat (pre ++ (C ++ K)) w:=(bnd_sat.1 (hw.perm p1)).perm (List.perm_append_comm_assoc C pre K)
 have e1:∀ b,wrs (C ++ K) b→wrs (K ++ [Go.Art.bnd C]) b:=fun b ⟨c,hc,hb⟩=>by
  rcases List.mem_append.1 hc with hc | hc
  ·exact ⟨Go.Art.bnd C,by simp,c,hc,hb⟩
  ·exact ⟨c,List.mem_append_left _ hc,hb⟩
 have e2:∀ b,rds (C ++ K) b→rds (K ++ [Go.Art.bnd C]) b:=fun b ⟨c,hc,hb⟩=>by
  rcases List.mem_append.1 hc with hc | hc
  ·exact ⟨Go.Art.bnd C,by simp,c,hc,hb⟩
  ·exact ⟨c,List.mem_append_left _ hc,hb⟩
 have f1:∀ (C:List Ch) (b:Nat),wrs [Go.Art.bnd C] b ↔ wrs C b:=fun C b=>by have:=bnd_wrs (C:=C) (F:=[]) (b:=b);rwa [List.append_nil] at this
 have f2:∀ (C:List Ch) (b:Nat),rds [Go.Art.bnd C] b ↔ rds C b:=fun C b=>by have:=bnd_rds (C:=C) (F:=[]) (b:=b);rwa [List.append_nil] at this
 refine (h.run w h1).mono fun b w' ⟨B,hR,hS,hM,hB⟩=>⟨[Go.Art.bnd B],hR,bnd_sat.2 (by rw [List.append_nil];exact hS),⟨hM.os,hM.tape,hM.output,hM.size,fun k hk hn=>hM.block k hk fun h=>hn (e1 k h),fun x hx=>(hM.wr x ((f1 B x).1 hx)).imp_left (e1 x),fun x hx=>(hM.rd x ((f2 B x).1 hx)).imp (e1 x) (Or.imp_left (e2 x))⟩,fun c hc x hx=>?_⟩
 obtain rfl:=List.mem_singleton.1 hc
 obtain ⟨y,hy,h2⟩:=hx
 exact hB y hy x h2
section
variable {P:Program} {E:Env P} {n:Sh} {fr:Fr} {A A' D G:List Ch} {m:Nat}
theorem mca1 {Ds:List Nat} {w0:World} {A0:List Ch} {R':Value→List Ch→Prop} {fn:Func} {t:Nat} {ty T:TypeId} {dt:TypeDesc} {z:Value} {sz by_ b:Nat} {cs vs:List Value} (h:R' (.agg vs.toArray) D) (hr:fn.results = #[.cell t ty]:=by rfl) (ht:lk E.und ty = some dt:=by rfl) (hg:aggB dt = true:=by rfl) (hi:lk E.inf ty = some (z,sz,by_):=by rfl)
  (hv:get fr t = some (ptr b):=by rfl) (hm:Tk (dfrl Ds) A A':=by exact tkA) (hp:pt b cs T ∈ A':=by exact memA) (hcs:cs.take sz = vs:=by rfl) (hl:vs.length = sz:=by rfl) (hf:Fit A' D G:=by exact fitA) (nb:∀ c ∈ D,∀ b,¬ c.bd b:=by (repeat (first | exact nb0 | refine nb1 ?_));first | done | fail) (hn:n = ⟨m,marks Ds,none⟩:=by rfl) :
  TX E n ⟨bodyPostM (FF none) 0 P fn (RetP (PR w0 A0 R')),w0,A0⟩ [] .ret fr A:=by
 subst hn
 exact mG (.inl rfl) h (fun w hw a ha=>res_a1 (E:=E) ha hr ht hg hi hv (pt_at hp hw) hcs hl) hm hf nb
end
structure SeqQ (P:Program) (f:FuncId) (cap:Array Value) (U W:Ch) (qs:List Rat):Prop where
 run:∀ {α:Type} (V:Ch) [Lent V] (l:Nat) (J:α→Ch) (pl:α→Nat→Prop) (S:α→Prop) (a0:α),pl a0 0→(∀ a b,¬ (J a).bd b) →
  (∀ a i v1 v2,v1.oneCell' = true→v2.oneCell' = true→pl a i→i < qs.length→Ty P l [rv (qs.getD i 0) v1 v2] [V] [own T64 v1 (Us (dg (qs.getD i 0).num.natAbs)),own T64 v2 (Us (dg (qs.getD i 0).den)),J a] fun ok B=>∃ a',B = [J a']∧((ok = true∧pl a' (i + 1))∨(ok = false∧S a'))) →
  Tr P f (yv l :: cap.toList) [V,U] [W,J a0] fun _ B=>∃ a,B = [J a]∧(pl a qs.length∨S a)
theorem in_step {t:List Int} {k:Nat} (hz:solE t k = 0) {i u j:Nat} (hi:i < t.length):mkRat (t.getD i 0) t.sum.toNat * mkRat ((chs u j * fillN (k - u) (i + 1) j:Nat):Int) (chs k (i + 1)) = omg t k i * ((chs u j:Rat) * fillC (k - u) (i + 1) j):=by
 obtain ⟨z1,z2,z3,z4⟩:=solE_zero hz
 have hs:=sum_posT z3 z4
 have h1:=cha_eq (d:=i + 1) hz (by omega) (by omega)
 rw [Nat.add_sub_cancel] at h1
 have h2:omg t k i = mkRat ((wS t k (i + 1):Nat):Int) (oneS t k):=(Rat.mkRat_eq_div _ _).symm
 rw [h2,← h1,fillC_nat]
 have c0:chs k (i + 1) ≠ 0:=chs_pos (by omega)
 have s0:t.sum.toNat ≠ 0:=by omega
 rw [Rat.mkRat_mul_mkRat]
 have e:(chs u j:Rat) * (fillN (k - u) (i + 1) j:Rat) = mkRat ((chs u j * fillN (k - u) (i + 1) j:Nat):Int) 1:=by rw [Rat.mkRat_eq_div];push_cast;grind
 rw [e,Rat.mkRat_mul_mkRat,Nat.mul_one,Nat.mul_comm (chs k (i + 1)) t.sum.toNat]
theorem fillN_le (m d j:Nat):fillN m d j ≤ 2 ^ m:=by
 unfold fillN;split
 ·exact chs_le _ _
 ·exact Nat.zero_le _
theorem inN_le {t:List Int} {k u j:Nat} (hz:solE t k = 0) (hk:k ≤ 40) (hu:u ≤ k):∀ m,m ≤ t.length→inN m k (fun i=>wS t k (i + 1)) u j ≤ m * (oneS t k * (2 ^ 40 * 2 ^ 40)):=by
 intro m
 induction m with
 | zero=>intro _;unfold inN;simp
 | succ m ih=>
  intro hm
  have h1:inN (m + 1) k (fun i=>wS t k (i + 1)) u j = inN m k (fun i=>wS t k (i + 1)) u j + wS t k (m + 1) * (chs u j * fillN (k - u) (m + 1) j):=by unfold inN;rw [List.range_succ,List.map_append,List.sum_append];simp
  rw [h1,Nat.succ_mul]
  refine Nat.add_le_add (ih (by omega)) (Nat.mul_le_mul (wS_le hz (by omega) (by omega)) (Nat.mul_le_mul ?_ ?_))
  ·exact Nat.le_trans (chs_le _ _) (Nat.pow_le_pow_right (by decide) (by omega))
  ·exact Nat.le_trans (fillN_le _ _ _) (Nat.pow_le_pow_right (by decide) (by omega))
theorem FB_nat {a E B:Nat} (hE:E ≠ 0) (ha:a < 18446744073709551616 ^ B) (hb:E < 18446744073709551616 ^ B):FB ((a:Rat) / (E:Rat)) B:=by
 have e:(a:Rat) / (E:Rat) = mkRat (a:Int) E:=(Rat.mkRat_eq_div _ _).symm
 rw [e]
 exact FB_mk hE ((dg_len _ _).2 ha) ((dg_len _ _).2 hb)
theorem evI_FB {t:List Int} {k u j m:Nat} (hz:solE t k = 0) (hk:k ≤ 40) (hl:t.length ≤ 12) (hu:u ≤ k) (hm:m ≤ t.length):FB (evI m k (omg t k) u j) 12:=by
 rw [evI_nat]
 have h1:=inN_le (j:=j) hz hk hu m hm
 have h2:=oneS_lt hz hk hl
 refine FB_nat (oneS_pos hz) (Nat.lt_of_le_of_lt h1 ?_) (Nat.lt_trans h2 (by decide))
 have h3:m * (oneS t k * (2 ^ 40 * 2 ^ 40)) ≤ 12 * (18446744073709551616 ^ 10 * (2 ^ 40 * 2 ^ 40)):=Nat.mul_le_mul (by omega) (Nat.mul_le_mul_right _ (Nat.le_of_lt h2))
 exact Nat.lt_of_le_of_lt h3 (by decide)
theorem term_FB {t:List Int} {k u j i:Nat} (hz:solE t k = 0) (hk:k ≤ 40) (hl:t.length ≤ 12) (hu:u ≤ k) (hi:i < t.length):FB (omg t k i * ((chs u j:Rat) * fillC (k - u) (i + 1) j)) 12:=by
 have e:omg t k i * ((chs u j:Rat) * fillC (k - u) (i + 1) j) = ((wS t k (i + 1) * (chs u j * fillN (k - u) (i + 1) j):Nat):Rat) / (oneS t k:Rat):=by
  unfold omg natW;rw [fillC_nat,Rat.div_def,Rat.div_def];push_cast;grind
 rw [e]
 have h2:=oneS_lt hz hk hl
 have h3:=wS_le (d:=i + 1) hz (by omega) (by omega)
 refine FB_nat (oneS_pos hz) ?_ (Nat.lt_trans h2 (by decide))
 have h4:wS t k (i + 1) * (chs u j * fillN (k - u) (i + 1) j) ≤ 18446744073709551616 ^ 10 * (2 ^ 40 * 2 ^ 40):=Nat.mul_le_mul (by omega) (Nat.mul_le_mul (Nat.le_trans (chs_le _ _) (Nat.pow_le_pow_right (by decide) (by omega))) (Nat.le_trans (fillN_le _ _ _) (Nat.pow_le_pow_right (by decide) (by omega))))
 exact Nat.lt_of_le_of_lt h4 (by decide)
attribute [local irreducible] Fit pt own ro vw mpc lpt vels rels mow lrc dfr
attribute [local irreducible] lmp lme mit velg relg bnd owl dfrl
theorem crefuses_tr (tv:Value) (t:List Int) (k u:Nat) (hz:solE t k = 0) (hk:k ≤ 1024) (hu:u ≤ k):Tr Tryz.prog 212 [tv,I k,I u] [vw tv (Is t)] [] fun v D=>v = I 0∧D = []:=by
 have hC:=SoCheck_tr tv t k
 rw [hz] at hC
 have hk1:=(solE_zero hz).1
 refine Tr.enter env _ Tryz.func212 (by kernel_rfl) rfl Tryz.ntmps212 rfl (by repeat (first | exact has00 | refine has01 ?_)) fun w0=>?_
 repeat' first|(refine gca ?_;first|(refine ca hC ?_;rintro _ _ ⟨rfl,rfl⟩))|(refine wo ?_;first|(refine ao ?_;first|refine oa ?_)|refine oa ?_|refine gy ?_|(refine gsi (fun hB=>?_) (fun hB=>?_) <;> try (exfalso;omega)))|(refine gc ?_;first|refine cf ?_|(refine ci (fun hB=>?_) (fun hB=>?_) <;> try (exfalso;omega)))|refine sq ?_|refine rg ?_|refine xc ?_|refine nl ?_|refine sk ?_|refine bk ?_|refine rt ?_|refine xb ?_
 exact r1 ⟨rfl,rfl⟩
theorem cpair_tr (x y:Nat) (hx:x < 9223372036854775808) (hy:y < 9223372036854775808) (hy0:y ≠ 0):Tr Tryz.prog 217 [I x,I y] [] [] (FQ (mkRat x y)):=by
 have hP:=FPair_tr x y hx hy hy0
 unfold FQ2 at hP
 unfold FQ
 generalize mkRat (x:Int) y = q at *
 refine Tr.enter env _ Tryz.func217 (by kernel_rfl) rfl Tryz.ntmps217 rfl (by repeat (first | exact has00 | refine has01 ?_)) fun w0=>?_
 repeat' first|(refine gca ?_;first|(refine ca hP ?_;rintro _ _ ⟨vn,vd,rfl,hvn,hvd,rfl⟩))|refine al fun c=>?_|refine srz ?_|refine lda ?_|(refine wo ?_;first|refine oa ?_)|refine sq ?_|refine rg ?_|refine xc ?_|refine nl ?_|refine rt ?_
 exact rca1 (cs:=[.bool (decide (q.num < 0)),vn,vd]) (vs:=[.bool (decide (q.num < 0)),vn,vd]) (T:=TRt) ⟨vn,vd,rfl,hvn,hvd,rfl⟩
theorem plus_tr (q r:Rat) (v1 v2 v3 v4:Value) (h1:v1.oneCell' = true) (h2:v2.oneCell' = true) (h3:v3.oneCell' = true) (h4:v4.oneCell' = true) (hq:FB q 8589934592) (hr:FB r 8589934592) :
  Tr Tryz.prog 265 [rv q v1 v2,rv r v3 v4] [vw v1 (Us (dg q.num.natAbs)),vw v2 (Us (dg q.den)),vw v3 (Us (dg r.num.natAbs)),vw v4 (Us (dg r.den))] [] (FQ (q + r)):=by
 have hA:=fun lv=>FAdd2_tr q r lv v1 v2 v3 v4 hq hr
 unfold FQ2 at hA
 unfold FQ
 obtain ⟨s,hs⟩ : ∃ s,s = q + r:=⟨_,rfl⟩
 rw [← hs] at hA ⊢
 refine Tr.enter env _ Tryz.func265 (by kernel_rfl) rfl Tryz.ntmps265 rfl (by repeat (first | exact has00 | refine has01 ?_)) fun w0=>?_
 repeat' first|(refine gca ?_;first|(refine ca (hA _) ?_ (hp:=has1 (has_oww memA) (has1 hasA (has1 hasA (has1 hasA (has1 hasA has0)))));rintro _ _ ⟨n1,n2,rfl,hn1,hn2,rfl⟩))|refine bx fun b=>?_|refine al fun c=>?_|refine lda ?_|refine slws fun g2=>?_|refine srz ?_|(refine wo ?_;first|refine oa ?_)|refine sq ?_|refine rg ?_|refine xc ?_|refine nl ?_|refine rt ?_
 exact rca1 (cs:=[.bool (decide (s.num < 0)),n1,n2]) (vs:=[.bool (decide (s.num < 0)),n1,n2]) (T:=TRt) ⟨n1,n2,rfl,hn1,hn2,rfl⟩
theorem ChooseI_tr (n:Nat) (k:Int) (hn:n ≤ 65536):Tr Tryz.prog 137 [I n,I k] [] [] fun u D=>eNat u D (chsI n k) 0:=by
 by_cases h0:0 ≤ k∧k ≤ n
 ·obtain ⟨m,rfl⟩ : ∃ m:Nat,k = m:=⟨k.toNat,by omega⟩
  have:=Choose_tr n m hn (by omega)
  unfold chsI
  rw [if_neg (by omega),Int.toNat_natCast]
  exact this
 ·have e:chsI n k = 0:=by
   unfold chsI;split
   ·rfl
   ·exact chs_over (by omega)
  unfold eNat
  rw [e,dg_zero]
  refine Tr.enter env _ Tryz.func137 (by kernel_rfl) rfl Tryz.ntmps137 rfl (by repeat (first | exact has00 | refine has01 ?_)) fun w0=>?_
  refine TC.im (own_nil T64 _) ?_
  repeat' first|(refine wo ?_;first|(refine ao ?_;first|refine oa ?_)|refine oa ?_|refine gy ?_|refine gn ?_|(refine gsi (fun hB=>?_) (fun hB=>?_) <;> try (exfalso;omega)))|(refine gc ?_;first|refine ct ?_|(refine ci (fun hB=>?_) (fun hB=>?_) <;> try (exfalso;omega)))|refine sq ?_|refine rg ?_|refine xc ?_|refine nl ?_|refine sk ?_|refine rt ?_
  all_goals exact r2 ⟨nS,rfl,rfl,rfl⟩
theorem cmeets_tr (k u j d:Nat) (hk:k ≤ 40) (hu:u ≤ k) (hj:j ≤ u) (hd:d ≤ k):Tr Tryz.prog 264 [I k,I u,I j,I d] [] [] (FQ (mkRat ((chs u j * fillN (k - u) d j:Nat):Int) (chs k d))):=by
 have hC1:=Choose_tr u j (by omega) hj
 have hC2:=ChooseI_tr (k - u) ((d:Int) - j) (by omega)
 rw [chsI_fill] at hC2
 have hC3:=Choose_tr k d (by omega) hd
 have l1:=Nat.le_trans (chs_len u j) (show u + 1 ≤ 41 by omega)
 have l2:(dg (fillN (k - u) d j)).length ≤ 1:=dg_len1 (Nat.lt_of_le_of_lt (fillN_le _ _ _) (Nat.lt_of_le_of_lt (Nat.pow_le_pow_right (by decide) (show k - u ≤ 40 by omega)) (by decide)))
 have hM:=fun v1 v2=>NMul_tr v1 v2 (dg (chs u j)) (dg (fillN (k - u) d j)) (Dg_dg _) (Dg_dg _) (by omega) (by omega)
 rw [nv_dg,nv_dg] at hM
 have l3:=dg_mul_len l1 l2
 have hI:=fun o=>IMake_tr false o (dg (chs u j * fillN (k - u) d j)) (Dg_dg _) (by omega)
 have hR:=fun o dv=>FMake_tr ((chs u j * fillN (k - u) d j:Nat):Int) o dv (dg (chs k d)) (Dg_dg _) (by unfold dz;rw [Int.natAbs_natCast];omega) (by have:=chs_len k d;omega) (by rw [nv_dg];exact chs_pos hd)
 have hs:∀ n:Nat,sg false n = (n:Int):=fun n=>rfl
 simp only [nv_dg,hs] at hI hR
 unfold IR at hI
 unfold dz at hR
 simp only [Int.natAbs_natCast] at hI hR
 unfold eNat at hC1 hC2 hC3
 unfold FQ2 at hR
 have hn:decide (((chs u j * fillN (k - u) d j:Nat):Int) < 0) = false:=decide_eq_false (by omega)
 unfold iv at hR
 rw [hn] at hI hR
 clear l1 l2 l3 hn hs
 unfold FQ
 generalize mkRat ((chs u j * fillN (k - u) d j:Nat):Int) (chs k d) = q at *
 generalize dg (chs u j * fillN (k - u) d j) = lm at *
 generalize dg (chs u j) = lx1 at *
 generalize dg (fillN (k - u) d j) = lx2 at *
 generalize dg (chs k d) = lx3 at *
 have hku:(k:Int) - u = ((k - u:Nat):Int):=by omega
 refine Tr.enter env _ Tryz.func264 (by kernel_rfl) rfl Tryz.ntmps264 rfl (by repeat (first | exact has00 | refine has01 ?_)) fun w0=>?_
 repeat' first|(refine gca ?_;first|(refine ca hC1 ?_;rintro _ _ ⟨o1,rfl,ho1,rfl⟩)|(refine ca hC2 ?_;rintro _ _ ⟨o2,rfl,ho2,rfl⟩)|(refine ca hC3 ?_;rintro _ _ ⟨o3,rfl,ho3,rfl⟩)|(refine ca (hM o1 o2) ?_;rintro o4 _ ⟨ho4,rfl⟩)|(refine ca (hI o4) ?_;rintro _ _ ⟨o5,rfl,ho5,rfl⟩)|(refine ca (hR o5 o3) ?_;rintro _ _ ⟨vn,vd,rfl,hvn,hvd,rfl⟩))|refine al fun c=>?_|(refine aw (m:=(k:Int) - u) ?_;rw [hku])|refine srz ?_|refine lda ?_|(refine wo ?_;first|(refine ao ?_;first|refine aw ?_)|refine oa ?_)|refine sq ?_|refine rg ?_|refine xc ?_|refine nl ?_|refine rt ?_
 exact rca1 (cs:=[.bool (decide (q.num < 0)),vn,vd]) (vs:=[.bool (decide (q.num < 0)),vn,vd]) (T:=TRt) ⟨vn,vd,rfl,hvn,hvd,rfl⟩
end Go.Art
namespace Go.Art
open Go Go.Proofs Go.RowKit
theorem FB_one:FB 1 8589934592:=⟨by rw [show (1:Rat).num.natAbs = 1 from rfl];exact Nat.le_trans (dg_len1 (by decide)) (by decide),by rw [show (1:Rat).den = 1 from rfl];exact Nat.le_trans (dg_len1 (by decide)) (by decide)⟩
theorem has_lbds {F C:List Ch} (h:lbd C ∈ F):∀ (D:List Ch),(∀ c ∈ D,∀ b,¬ c.wr b∧¬ c.rd b)→(∀ c ∈ D,c ∈ C)→∀ c ∈ D,Has F c:=fun D hl hm c hc=>by
 haveI:Lent c:=⟨hl c hc⟩
 exact has_lbd (has_mem h) (hm c hc)
structure InS (α:Type) where
 i:Nat
 a:α
structure FoS where
 i:Nat
 vn:Value
 vd:Value
def inQ (t:List Int) (k u j:Nat):List Rat:=(List.range t.length).map fun i=>omg t k i * ((chs u j:Rat) * fillC (k - u) (i + 1) j)
theorem inQ_len (t:List Int) (k u j:Nat):(inQ t k u j).length = t.length:=by simp [inQ]
theorem inQ_get {t:List Int} {k u j i:Nat} (h:i < t.length):(inQ t k u j).getD i 0 = omg t k i * ((chs u j:Rat) * fillC (k - u) (i + 1) j):=by simp [inQ,List.getD_eq_getElem?_getD,h]
theorem inQ_sum (t:List Int) (k u j m:Nat) (hm:m ≤ t.length):((inQ t k u j).take m).foldl (· + ·) 0 = evI m k (omg t k) u j:=by
 have e:(inQ t k u j).take m = (List.range m).map fun i=>omg t k i * ((chs u j:Rat) * fillC (k - u) (i + 1) j):=by
  unfold inQ;rw [← List.map_take,List.take_range,Nat.min_eq_left hm]
 rw [foldl_addR,Rat.zero_add,e,sR_map];rfl
def rowQ (t:List Int) (k u j:Nat):List Rat:=(List.range (u + 1 - j)).map fun i=>evI t.length k (omg t k) u (j + i)
theorem rowQ_len (t:List Int) (k u j:Nat):(rowQ t k u j).length = u + 1 - j:=by simp [rowQ]
theorem rowQ_get {t:List Int} {k u j i:Nat} (h:i < u + 1 - j):(rowQ t k u j).getD i 0 = evI t.length k (omg t k) u (j + i):=by simp [rowQ,List.getD_eq_getElem?_getD,h]
theorem rowQ_sum (t:List Int) (k u j m:Nat) (hm:m ≤ u + 1 - j):((rowQ t k u j).take m).foldl (· + ·) 0 = sR (fun i=>evI t.length k (omg t k) u (j + i)) (List.range m):=by
 have e:(rowQ t k u j).take m = (List.range m).map fun i=>evI t.length k (omg t k) u (j + i):=by
  unfold rowQ;rw [← List.map_take,List.take_range,Nat.min_eq_left hm]
 rw [foldl_addR,Rat.zero_add,e,sR_map]
attribute [local irreducible] Fit pt own ro vw mpc lpt vels rels mow lrc dfr
attribute [local irreducible] lmp lme mit velg relg bnd owl dfrl
theorem FMul2_tr (q r:Rat) (lv v1 v2 v3 v4:Value) (hq:FB q 8589934592) (hr:FB r 8589934592) :
  Tr Tryz.prog 79 [lv] [vwf lv 2 (rrow q (v1,v2) ++ rrow r (v3,v4)),vw v1 (Us (dg q.num.natAbs)),vw v2 (Us (dg q.den)),vw v3 (Us (dg r.num.natAbs)),vw v4 (Us (dg r.den))] [] (FQ2 (q * r) 0):=by
 have h:=FMul_tr lv [q,r] [(v1,v2),(v3,v4)] rfl (fun i hi=>by
  match i,hi with
  | 0,_=>exact hq
  | 1,_=>exact hr) (fun i hi=>by
  match i,hi with
  | 0,_=>exact FB_one
  | 1,_=>
   show FB (1 * q) _
   rw [Rat.one_mul];exact hq)
 rw [show [q,r].foldl (· * ·) (1:Rat) = q * r by show 1 * q * r = q * r;rw [Rat.one_mul]] at h
 refine h.pre ?_ (by repeat (first | exact has00 | refine has01 ?_))
 refine has1 (has_vwf (List.Mem.head _)) (has1 (has_vfr_cons (has_vw (by simp)) (has_vw (by simp)) (has_vfr_cons (has_vw (by simp)) (has_vw (by simp)) has_vfr_nil)) has0)
theorem FMul3_tr (q r p:Rat) (lv v1 v2 v3 v4 v5 v6:Value) (hq:FB q 8589934592) (hr:FB r 8589934592) (hp:FB p 8589934592) (hqr:FB (q * r) 8589934592) :
  Tr Tryz.prog 79 [lv] [vwf lv 3 (rrow q (v1,v2) ++ rrow r (v3,v4) ++ rrow p (v5,v6)),vw v1 (Us (dg q.num.natAbs)),vw v2 (Us (dg q.den)),vw v3 (Us (dg r.num.natAbs)),vw v4 (Us (dg r.den)),vw v5 (Us (dg p.num.natAbs)),vw v6 (Us (dg p.den))] [] (FQ2 (q * r * p) 0):=by
 have h:=FMul_tr lv [q,r,p] [(v1,v2),(v3,v4),(v5,v6)] rfl (fun i hi=>by
  match i,hi with
  | 0,_=>exact hq
  | 1,_=>exact hr
  | 2,_=>exact hp) (fun i hi=>by
  match i,hi with
  | 0,_=>exact FB_one
  | 1,_=>
   show FB (1 * q) _
   rw [Rat.one_mul];exact hq
  | 2,_=>
   show FB (1 * q * r) _
   rw [Rat.one_mul];exact hqr)
 rw [show [q,r,p].foldl (· * ·) (1:Rat) = q * r * p by show 1 * q * r * p = q * r * p;rw [Rat.one_mul]] at h
 refine h.pre ?_ (by repeat (first | exact has00 | refine has01 ?_))
 refine has1 (has_vwf (List.Mem.head _)) (has1 (has_vfr_cons (has_vw (by simp)) (has_vw (by simp)) (has_vfr_cons (has_vw (by simp)) (has_vw (by simp)) (has_vfr_cons (has_vw (by simp)) (has_vw (by simp)) has_vfr_nil))) has0)
theorem in1_seq (p1 p2 p3 p4 p5:Nat) (tv:Value) (t:List Int) (k u j:Nat) (hz:solE t k = 0) (hk:k ≤ 40) (hl:t.length ≤ 12) (hu:u ≤ k) (hj:j ≤ u) :
  SeqQ Tryz.prog 263 #[ptr p1,ptr p2,ptr p3,ptr p4,ptr p5] (lbd [lpt p1 [tv] TLs,lpt p2 [I t.sum] TLI,lpt p3 [I k] TLI,lpt p4 [I u] TLI,lpt p5 [I j] TLI,vw tv (Is t)]) (own T64 nS (Us [])) (inQ t k u j):=by
 refine ⟨fun {α} V hV l J pl S a0 h0 hnb hy=>Tr.wk _ ?_⟩
 haveI:=hV
 haveI:∀ a,NoB (J a):=fun a=>⟨hnb a⟩
 refine Tr.pre (pre:=[V,lpt p1 [tv] TLs,lpt p2 [I t.sum] TLI,lpt p3 [I k] TLI,lpt p4 [I u] TLI,lpt p5 [I j] TLI,vw tv (Is t)]) ?_ (has1 (has_mem (by simp)) (has_lbds (C:=[lpt p1 [tv] TLs,lpt p2 [I t.sum] TLI,lpt p3 [I k] TLI,lpt p4 [I u] TLI,lpt p5 [I j] TLI,vw tv (Is t)]) (by simp) _ (by repeat (first | exact has00 | refine has01 ?_)) fun c hc=>hc)) (by repeat (first | exact has00 | refine has01 ?_))
 rw [inQ_len] at hy ⊢
 obtain ⟨z1,z2,z3,z4⟩:=solE_zero hz
 have hs0:=sum_posT z3 z4
 have hs1:=(sum_wOk z3).2
 obtain ⟨s,hs⟩ : ∃ s:Nat,t.sum = s:=⟨t.sum.toNat,by omega⟩
 have hstep:=fun i (hi:i < t.length)=>in_step (u:=u) (j:=j) hz hi
 have hterm:=fun i (hi:i < t.length)=>term_FB (u:=u) (j:=j) hz hk hl hu hi
 have hget:=fun i (hi:i < t.length)=>inQ_get (k:=k) (u:=u) (j:=j) hi
 have hmeet:=fun d (hd:d ≤ k)=>cmeets_tr k u j d hk hu hj hd
 have hb:∀ i,i < t.length→0 ≤ t.getD i 0∧t.getD i 0 ≤ 16777215:=fun i hi=>z3 _ (by rw [List.getD_eq_getElem?_getD,List.getElem?_eq_getElem hi];exact List.getElem_mem hi)
 have hF2:∀ d,d ≤ k→FB (mkRat ((chs u j * fillN (k - u) d j:Nat):Int) (chs k d)) 8589934592:=fun d hd=>by
  have c1:chs u j * fillN (k - u) d j ≤ 2 ^ 40 * 2 ^ 40:=Nat.mul_le_mul (Nat.le_trans (chs_le _ _) (Nat.pow_le_pow_right (by decide) (by omega))) (Nat.le_trans (fillN_le _ _ _) (Nat.pow_le_pow_right (by decide) (by omega)))
  refine (FB_mk (B:=2) (chs_pos hd) ((dg_len _ _).2 (Nat.lt_of_le_of_lt c1 (by decide))) ?_).le (by decide)
  exact (dg_len _ _).2 (Nat.lt_of_le_of_lt (Nat.le_trans (chs_le k d) (Nat.pow_le_pow_right (by decide) hk)) (by decide))
 have htl:t.length ≤ k:=by omega
 rw [hs] at hs0 hs1 hstep ⊢
 rw [Int.toNat_natCast] at hstep
 clear hz z1 z2 z3 z4
 refine Tr.enter env _ Tryz.func263 (by kernel_rfl) rfl Tryz.ntmps263 rfl (by repeat (first | exact has00 | refine has01 ?_)) fun w0=>?_
 repeat' first|(refine wo ?_;first|refine oa ?_|refine ldl ?_|refine lnm ?_)|refine sq ?_|refine rg ?_|refine xc ?_|refine nl ?_|refine bk ?_
 refine TC.loop (ι:=InS α) (fun g=>[(13,I g.i)]) (fun g=>[J g.a]) (fun g=>g.i ≤ t.length∧pl g.a g.i) (fun g=>t.length - g.i) ⟨0,a0⟩ [0,1,2,3,4,5,11,12] ⟨Nat.zero_le _,h0⟩ ?_
 rintro ⟨i,a⟩ ⟨hi,ha⟩
 dsimp only at hi ha ⊢
 by_cases hlt:i < t.length
 ·obtain ⟨w,hw⟩ : ∃ w:Nat,t.getD i 0 = w:=⟨(t.getD i 0).toNat,by have:=hb i hlt;omega⟩
  have hwb:=hb i hlt
  have hP:=cpair_tr w s (by omega) (by omega) (by omega)
  have hM:=hmeet (i + 1) (by omega)
  have hX:=hstep i hlt
  have hG:=hget i hlt
  have hFq:=hterm i hlt
  have hF1:FB (mkRat ((w:Nat):Int) s) 8589934592:=(FB_mk1 (by omega) (by omega) (by omega)).le (by decide)
  have hF3:=hF2 (i + 1) (by omega)
  rw [hw] at hX
  have hyi:=fun v1 v2 h1 h2=>hy a i v1 v2 h1 h2 ha hlt
  rw [hG,← hX] at hyi
  clear hmeet hstep hget hterm hF2 hb hG hFq hX hy hwb
  have hMul:=fun lv v1 v2 v3 v4=>FMul2_tr (mkRat ((w:Nat):Int) s) (mkRat ((chs u j * fillN (k - u) (i + 1) j:Nat):Int) (chs k (i + 1))) lv v1 v2 v3 v4 hF1 hF3
  clear hF1 hF3
  unfold FQ at hP hM
  unfold FQ2 at hMul
  generalize mkRat ((chs u j * fillN (k - u) (i + 1) j:Nat):Int) (chs k (i + 1)) = q2 at *
  generalize mkRat ((w:Nat):Int) s = q1 at *
  obtain ⟨q3,hq3⟩ : ∃ q3,q3 = q1 * q2:=⟨_,rfl⟩
  rw [← hq3] at hMul hyi
  repeat' first|refine lie hw ?_|(refine wo ?_;first|(refine ao ?_;first|refine oa ?_)|refine oa ?_|refine ixmn ?_)|(refine gc ?_;first|(refine ci (fun hB=>?_) (fun hB=>?_) <;> try (exfalso;omega)))|refine sq ?_|refine rg ?_|refine xc ?_|refine nl ?_|refine sk ?_|refine bk ?_
  refine rs (fun w=>w.heap[p2]? = some (.cells [I s].toArray TLI (0,0))∧w.heap[p3]? = some (.cells [I k].toArray TLI (0,0))∧w.heap[p4]? = some (.cells [I u].toArray TLI (0,0))∧w.heap[p5]? = some (.cells [I j].toArray TLI (0,0))) ?_ (fun w hw=>⟨lpt_at memA hw,lpt_at memA hw,lpt_at memA hw,lpt_at memA hw⟩)
  refine tka 0 ?_
  refine tkl 1 (cs:=[I s]) (fun w h=>h.1) ?_
  refine tkl 3 (cs:=[I k]) (fun w h=>h.2.1) ?_
  refine tkl 4 (cs:=[I u]) (fun w h=>h.2.2.1) ?_
  refine tkl 5 (cs:=[I j]) (fun w h=>h.2.2.2) ?_
  refine tka 6 ?_
  refine tkw 7 ((i + 1:Nat):Int) ?_
  refine t2 2 14 ?_ ?_
  ·refine ca hP ?_
   rintro _ _ ⟨n1,d1,rfl,hn1,hd1,rfl⟩
   refine nl ?_
   refine te (fun w hw=>⟨lpt_at memA hw,lpt_at memA hw,lpt_at memA hw,lpt_at memA hw⟩) ?_
   refine t2 8 14 ?_ ?_
   ·refine ca hM ?_
    rintro _ _ ⟨n2,d2,rfl,hn2,hd2,rfl⟩
    refine nl ?_
    refine te (fun w hw=>⟨lpt_at memA hw,lpt_at memA hw,lpt_at memA hw,lpt_at memA hw⟩) ?_
    refine t2 9 14 ?_ ?_
    ·refine slws (sz:=3) (xs:=rrow q1 (n1,d1) ++ rrow q2 (n2,d2)) fun g2=>?_
     refine nl ?_
     refine te (fun w hw=>⟨lpt_at memA hw,lpt_at memA hw,lpt_at memA hw,lpt_at memA hw⟩) ?_
     refine t2 10 14 ?_ ?_
     ·refine ca (hMul _ n1 d1 n2 d2) ?_ (hp:=has1 (has_oww memA) (has1 hasA (has1 hasA (has1 hasA (has1 hasA has0)))))
      rintro _ _ ⟨n3,d3,rfl,hn3,hd3,rfl⟩
      refine nl ?_
      refine te (fun w hw=>⟨lpt_at memA hw,lpt_at memA hw,lpt_at memA hw,lpt_at memA hw⟩) ?_
      refine tka 11 ?_
      refine tka 12 ?_
      refine tka 13 ?_
      refine t1 14 ?_
      refine al fun c9=>?_
      refine nl ?_
      refine te (fun w hw=>⟨lpt_at memA hw,lpt_at memA hw,lpt_at memA hw,lpt_at memA hw⟩) ?_
      refine t1 15 ?_
      refine srz ?_
      refine nl ?_
      refine te (fun w hw=>⟨lpt_at memA hw,lpt_at memA hw,lpt_at memA hw,lpt_at memA hw⟩) ?_
      refine tka 16 ?_
      refine t0 ?_
      repeat' first|refine lda ?_|(refine cy (hyi n3 d3 hn3 hd3) ?_ (hp:=has1 (has_mem memA) has0);rintro ok _ ⟨a2,rfl,⟨rfl,h3⟩ | ⟨rfl,h3⟩⟩)|(refine wo ?_;first|(refine ao ?_;first|refine aw ?_)|refine oa ?_)|(refine gc ?_;first|refine ct ?_|refine cf ?_)|refine sq ?_|refine rg ?_|refine xc ?_|refine nl ?_|refine sk ?_|refine rt ?_|refine xb ?_
      ·exact lp ⟨i + 1,a2⟩ ⟨hlt,h3⟩
      ·exact r0 ⟨a2,rfl,.inr h3⟩
     ·refine al fun c9=>?_
      refine nl ?_
      refine te (fun w hw=>⟨lpt_at memA hw,lpt_at memA hw,lpt_at memA hw,lpt_at memA hw⟩) ?_
      refine t1 10 ?_
      refine ca (hMul _ n1 d1 n2 d2) ?_ (hp:=has1 (has_oww memA) (has1 hasA (has1 hasA (has1 hasA (has1 hasA has0)))))
      rintro _ _ ⟨n3,d3,rfl,hn3,hd3,rfl⟩
      refine nl ?_
      refine te (fun w hw=>⟨lpt_at memA hw,lpt_at memA hw,lpt_at memA hw,lpt_at memA hw⟩) ?_
      refine tka 11 ?_
      refine tka 12 ?_
      refine tka 13 ?_
      refine t1 15 ?_
      refine srz ?_
      refine nl ?_
      refine te (fun w hw=>⟨lpt_at memA hw,lpt_at memA hw,lpt_at memA hw,lpt_at memA hw⟩) ?_
      refine tka 16 ?_
      refine t0 ?_
      repeat' first|refine lda ?_|(refine cy (hyi n3 d3 hn3 hd3) ?_ (hp:=has1 (has_mem memA) has0);rintro ok _ ⟨a2,rfl,⟨rfl,h3⟩ | ⟨rfl,h3⟩⟩)|(refine wo ?_;first|(refine ao ?_;first|refine aw ?_)|refine oa ?_)|(refine gc ?_;first|refine ct ?_|refine cf ?_)|refine sq ?_|refine rg ?_|refine xc ?_|refine nl ?_|refine sk ?_|refine rt ?_|refine xb ?_
      ·exact lp ⟨i + 1,a2⟩ ⟨hlt,h3⟩
      ·exact r0 ⟨a2,rfl,.inr h3⟩
    ·refine al fun c9=>?_
     refine nl ?_
     refine te (fun w hw=>⟨lpt_at memA hw,lpt_at memA hw,lpt_at memA hw,lpt_at memA hw⟩) ?_
     refine t1 9 ?_
     refine slws (sz:=3) (xs:=rrow q1 (n1,d1) ++ rrow q2 (n2,d2)) fun g2=>?_
     refine nl ?_
     refine te (fun w hw=>⟨lpt_at memA hw,lpt_at memA hw,lpt_at memA hw,lpt_at memA hw⟩) ?_
     refine t1 10 ?_
     refine ca (hMul _ n1 d1 n2 d2) ?_ (hp:=has1 (has_oww memA) (has1 hasA (has1 hasA (has1 hasA (has1 hasA has0)))))
     rintro _ _ ⟨n3,d3,rfl,hn3,hd3,rfl⟩
     refine nl ?_
     refine te (fun w hw=>⟨lpt_at memA hw,lpt_at memA hw,lpt_at memA hw,lpt_at memA hw⟩) ?_
     refine tka 11 ?_
     refine tka 12 ?_
     refine tka 13 ?_
     refine t1 15 ?_
     refine srz ?_
     refine nl ?_
     refine te (fun w hw=>⟨lpt_at memA hw,lpt_at memA hw,lpt_at memA hw,lpt_at memA hw⟩) ?_
     refine tka 16 ?_
     refine t0 ?_
     repeat' first|refine lda ?_|(refine cy (hyi n3 d3 hn3 hd3) ?_ (hp:=has1 (has_mem memA) has0);rintro ok _ ⟨a2,rfl,⟨rfl,h3⟩ | ⟨rfl,h3⟩⟩)|(refine wo ?_;first|(refine ao ?_;first|refine aw ?_)|refine oa ?_)|(refine gc ?_;first|refine ct ?_|refine cf ?_)|refine sq ?_|refine rg ?_|refine xc ?_|refine nl ?_|refine sk ?_|refine rt ?_|refine xb ?_
     ·exact lp ⟨i + 1,a2⟩ ⟨hlt,h3⟩
     ·exact r0 ⟨a2,rfl,.inr h3⟩
   ·refine al fun c9=>?_
    refine nl ?_
    refine te (fun w hw=>⟨lpt_at memA hw,lpt_at memA hw,lpt_at memA hw,lpt_at memA hw⟩) ?_
    refine t1 8 ?_
    refine ca hM ?_
    rintro _ _ ⟨n2,d2,rfl,hn2,hd2,rfl⟩
    refine nl ?_
    refine te (fun w hw=>⟨lpt_at memA hw,lpt_at memA hw,lpt_at memA hw,lpt_at memA hw⟩) ?_
    refine t1 9 ?_
    refine slws (sz:=3) (xs:=rrow q1 (n1,d1) ++ rrow q2 (n2,d2)) fun g2=>?_
    refine nl ?_
    refine te (fun w hw=>⟨lpt_at memA hw,lpt_at memA hw,lpt_at memA hw,lpt_at memA hw⟩) ?_
    refine t1 10 ?_
    refine ca (hMul _ n1 d1 n2 d2) ?_ (hp:=has1 (has_oww memA) (has1 hasA (has1 hasA (has1 hasA (has1 hasA has0)))))
    rintro _ _ ⟨n3,d3,rfl,hn3,hd3,rfl⟩
    refine nl ?_
    refine te (fun w hw=>⟨lpt_at memA hw,lpt_at memA hw,lpt_at memA hw,lpt_at memA hw⟩) ?_
    refine tka 11 ?_
    refine tka 12 ?_
    refine tka 13 ?_
    refine t1 15 ?_
    refine srz ?_
    refine nl ?_
    refine te (fun w hw=>⟨lpt_at memA hw,lpt_at memA hw,lpt_at memA hw,lpt_at memA hw⟩) ?_
    refine tka 16 ?_
    refine t0 ?_
    repeat' first|refine lda ?_|(refine cy (hyi n3 d3 hn3 hd3) ?_ (hp:=has1 (has_mem memA) has0);rintro ok _ ⟨a2,rfl,⟨rfl,h3⟩ | ⟨rfl,h3⟩⟩)|(refine wo ?_;first|(refine ao ?_;first|refine aw ?_)|refine oa ?_)|(refine gc ?_;first|refine ct ?_|refine cf ?_)|refine sq ?_|refine rg ?_|refine xc ?_|refine nl ?_|refine sk ?_|refine rt ?_|refine xb ?_
    ·exact lp ⟨i + 1,a2⟩ ⟨hlt,h3⟩
    ·exact r0 ⟨a2,rfl,.inr h3⟩
  ·refine al fun c9=>?_
   refine nl ?_
   refine te (fun w hw=>⟨lpt_at memA hw,lpt_at memA hw,lpt_at memA hw,lpt_at memA hw⟩) ?_
   refine t1 2 ?_
   refine ca hP ?_
   rintro _ _ ⟨n1,d1,rfl,hn1,hd1,rfl⟩
   refine nl ?_
   refine te (fun w hw=>⟨lpt_at memA hw,lpt_at memA hw,lpt_at memA hw,lpt_at memA hw⟩) ?_
   refine t1 8 ?_
   refine ca hM ?_
   rintro _ _ ⟨n2,d2,rfl,hn2,hd2,rfl⟩
   refine nl ?_
   refine te (fun w hw=>⟨lpt_at memA hw,lpt_at memA hw,lpt_at memA hw,lpt_at memA hw⟩) ?_
   refine t1 9 ?_
   refine slws (sz:=3) (xs:=rrow q1 (n1,d1) ++ rrow q2 (n2,d2)) fun g2=>?_
   refine nl ?_
   refine te (fun w hw=>⟨lpt_at memA hw,lpt_at memA hw,lpt_at memA hw,lpt_at memA hw⟩) ?_
   refine t1 10 ?_
   refine ca (hMul _ n1 d1 n2 d2) ?_ (hp:=has1 (has_oww memA) (has1 hasA (has1 hasA (has1 hasA (has1 hasA has0)))))
   rintro _ _ ⟨n3,d3,rfl,hn3,hd3,rfl⟩
   refine nl ?_
   refine te (fun w hw=>⟨lpt_at memA hw,lpt_at memA hw,lpt_at memA hw,lpt_at memA hw⟩) ?_
   refine tka 11 ?_
   refine tka 12 ?_
   refine tka 13 ?_
   refine t1 15 ?_
   refine srz ?_
   refine nl ?_
   refine te (fun w hw=>⟨lpt_at memA hw,lpt_at memA hw,lpt_at memA hw,lpt_at memA hw⟩) ?_
   refine tka 16 ?_
   refine t0 ?_
   repeat' first|refine lda ?_|(refine cy (hyi n3 d3 hn3 hd3) ?_ (hp:=has1 (has_mem memA) has0);rintro ok _ ⟨a2,rfl,⟨rfl,h3⟩ | ⟨rfl,h3⟩⟩)|(refine wo ?_;first|(refine ao ?_;first|refine aw ?_)|refine oa ?_)|(refine gc ?_;first|refine ct ?_|refine cf ?_)|refine sq ?_|refine rg ?_|refine xc ?_|refine nl ?_|refine sk ?_|refine rt ?_|refine xb ?_
   ·exact lp ⟨i + 1,a2⟩ ⟨hlt,h3⟩
   ·exact r0 ⟨a2,rfl,.inr h3⟩
 ·obtain rfl:i = t.length:=by omega
  repeat' first|(refine wo ?_;first|(refine ao ?_;first|refine oa ?_))|(refine gc ?_;first|(refine ci (fun hB=>?_) (fun hB=>?_) <;> try (exfalso;omega)))|refine sq ?_|refine rg ?_|refine xc ?_|refine nl ?_|refine xe ?_
  exact e0 ⟨a,rfl,.inl ha⟩
end Go.Art
namespace Go.Art
open Go Go.Proofs Go.RowKit
theorem sR_mono {f:Nat→Rat} (h:∀ i,0 ≤ f i) {m m':Nat} (hm:m ≤ m'):sR f (List.range m) ≤ sR f (List.range m'):=by
 obtain ⟨q,rfl⟩:=Nat.exists_eq_add_of_le hm
 rw [List.range_add,sR_app]
 have:=sR_nonneg (f:=f) (l:=(List.range q).map (m + ·)) fun x _=>h x
 grind
theorem FB_le1 {E B:Nat} {q:Rat} (h:FrQ E q) (hE:E ≠ 0) (h1:q ≤ 1) (hB:E < 18446744073709551616 ^ B):FB q B:=by
 obtain ⟨a,ha,rfl⟩:=h.le hE h1
 exact FB_nat hE (Nat.lt_of_le_of_lt ha hB) hB
theorem evI_nonneg (t:List Int) (k u j:Nat):0 ≤ evI t.length k (omg t k) u j:=(evI_fr t.length k _ (oneS t k) u j).nonneg
theorem rowQ_le {t:List Int} {k u m:Nat} (hz:solE t k = 0) (hu:u ≤ k) (hm:m ≤ u - 1):sR (fun i=>evI t.length k (omg t k) u (2 + i)) (List.range m) ≤ 1:=by
 have h1:=evQ_le (m:=t.length) (k:=k) (ω:=omg t k) (fun i _=>omg_nonneg t k i) (tabX_one hz) hu
 rw [evQ_sum,sR_congr (g:=fun i=>evI t.length k (omg t k) u (2 + i)) fun j _=>by rw [Nat.add_comm]] at h1
 exact Rat.le_trans (sR_mono (fun i=>evI_nonneg t k u (2 + i)) hm) h1
theorem rowQ_evQ (t:List Int) (k u:Nat):(rowQ t k u 2).foldl (· + ·) 0 = evQ t.length k (omg t k) u:=by
 have:=rowQ_sum t k u 2 (u + 1 - 2) (Nat.le_refl _)
 rw [List.take_of_length_le (by rw [rowQ_len];exact Nat.le_refl _)] at this
 rw [this,evQ_sum,show u + 1 - 2 = u - 1 by omega]
 exact sR_congr fun j _=>by rw [Nat.add_comm]
attribute [local irreducible] Fit pt own ro vw mpc lpt vels rels mow lrc dfr
attribute [local irreducible] lmp lme mit velg relg bnd owl dfrl
abbrev TF3:TypeId:=100
theorem cfold_tr (f:FuncId) (cap:Array Value) (U W:Ch) [Lent U] [NoB W] (qs:List Rat) (hS:SeqQ Tryz.prog f cap U W qs) (s:Rat) (v1 v2:Value) (h1:v1.oneCell' = true) (h2:v2.oneCell' = true) (hF:∀ i,i < qs.length→FB (qs.getD i 0) 8589934592) (hP:∀ i,i ≤ qs.length→FB ((qs.take i).foldl (· + ·) s) 8589934592) :
  Tr Tryz.prog 262 [.func (.func f) #[] cap,rv s v1 v2,.func (.func 265) #[] #[]] [U] [own T64 v1 (Us (dg s.num.natAbs)),own T64 v2 (Us (dg s.den)),W] (FQ (qs.foldl (· + ·) s)):=by
 obtain ⟨acc,hacc⟩ : ∃ acc:Nat→Rat,acc = fun i=>(qs.take i).foldl (· + ·) s:=⟨_,rfl⟩
 have ha0:acc 0 = s:=by rw [hacc];rfl
 have haN:acc qs.length = qs.foldl (· + ·) s:=by rw [hacc];simp
 have hst:∀ i,i < qs.length→acc i + qs.getD i 0 = acc (i + 1):=fun i hi=>by rw [hacc];exact (foldl_take (· + ·) s hi 0).symm
 have hPa:∀ i,i ≤ qs.length→FB (acc i) 8589934592:=fun i hi=>by rw [hacc];exact hP i hi
 rw [← haN,← ha0]
 clear hacc ha0 haN hP
 have hrun:=@SeqQ.run _ _ _ _ _ _ hS
 clear hS
 obtain ⟨M,hM⟩ : ∃ M,M = qs.length:=⟨_,rfl⟩
 unfold FQ
 refine Tr.enterM env _ Tryz.func262 (by kernel_rfl) rfl Tryz.ntmps262 rfl (by repeat (first | exact has00 | refine has01 ?_)) fun w0=>?_
 repeat' first|refine bx fun c5=>?_|refine al fun c6=>?_|(refine wo ?_;first|refine oa ?_)|refine sq ?_|refine rg ?_|refine xc ?_|refine nl ?_|refine bk ?_
 rename_i c4
 refine TC.range [lpt c5 [.func (.func 265) #[] #[]] TF3,U] [pt c4 (rrow (acc 0) (v1,v2)) TRt,own T64 v1 (Us (dg (acc 0).num.natAbs)),own T64 v2 (Us (dg (acc 0).den)),W] (fun l2 rec Dm pend B'=>∃ vn vd,B' = [dfr Dm,pt c4 (rrow (acc M) (vn,vd)) TRt,own T64 vn (Us (dg (acc M).num.natAbs)),own T64 vd (Us (dg (acc M).den))]∧pend = none∧vn.oneCell' = true∧vd.oneCell' = true) ?_ ?_ (hp:=has1 hasA (has1 (has_mem memA) has0))
 ·intro rec l2 Dm hr
  refine Tr.unbK (C:=[lrc l2 rec .ready none,dfr Dm,pt c4 (rrow (acc 0) (v1,v2)) TRt,own T64 v1 (Us (dg (acc 0).num.natAbs)),own T64 v2 (Us (dg (acc 0).den))]) (hrun (α:=FoS) (lpt c5 [.func (.func 265) #[] #[]] TF3) l2 (fun g=>bnd [lrc l2 rec .ready none,dfr Dm,pt c4 (rrow (acc g.i) (g.vn,g.vd)) TRt,own T64 g.vn (Us (dg (acc g.i).num.natAbs)),own T64 g.vd (Us (dg (acc g.i).den))]) (fun g i=>g.i = i∧g.vn.oneCell' = true∧g.vd.oneCell' = true) (fun _=>False) ⟨0,v1,v2⟩ ⟨rfl,h1,h2⟩ (fun p=>bnd_nob (nb1 (nb1 (nb1 (nb1 (nb1 nb0)))))) ?_) ?_
  ·rintro ⟨i,vn,vd⟩ j x1 x2 hx1 hx2 ⟨hji,hvn,hvd⟩ hj
   dsimp only at hji hvn hvd
   subst hji
   have hFj:=hF i hj
   have hPj:=hPa i (by omega)
   have hsj:=hst i hj
   have hA:=plus_tr (acc i) (qs.getD i 0) vn vd x1 x2 hvn hvd hx1 hx2 hPj hFj
   unfold FQ at hA
   rw [hsj] at hA
   clear hF hPa hst hrun hFj hPj hsj
   obtain ⟨q,hq⟩ : ∃ q,q = qs.getD i 0:=⟨_,rfl⟩
   rw [← hq] at hA ⊢
   refine Ty.bndL (K:=[own T64 x1 (Us (dg q.num.natAbs)),own T64 x2 (Us (dg q.den))]) (C:=[lrc l2 rec .ready none,dfr Dm,pt c4 (rrow (acc i) (vn,vd)) TRt,own T64 vn (Us (dg (acc i).num.natAbs)),own T64 vd (Us (dg (acc i).den))]) ?_
   refine Ty.intro env hr (by repeat (first | exact has00 | refine has01 ?_)) fun w1=>?_
   repeat' first|refine al fun c7=>?_|refine xbeg ?_|refine lda (cs:=rrow (acc i) (vn,vd)) ?_|refine lda (cs:=rrow q (x1,x2)) ?_|refine srz ?_ (hj:=Nat.le_of_ble_eq_true rfl)|(refine cav (cap:=#[]) (vs:=[rv (acc i) vn vd,rv q x1 x2]) hA ?_;rintro _ _ ⟨n1,n2,rfl,hn1,hn2,rfl⟩)|(refine wo ?_;first|refine ldl ?_)|refine rg ?_|refine nl ?_|refine bk ?_|refine xb ?_
   exact yn ⟨⟨i + 1,n1,n2⟩,rfl,.inl ⟨rfl,rfl,hn1,hn2⟩⟩
  ·rintro _ _ ⟨⟨i,vn,vd⟩,rfl,⟨rfl,g2,g3⟩ | h⟩
   ·exact ⟨_,rfl,.ready,none,_,rfl,by decide,vn,vd,by rw [hM],rfl,g2,g3⟩
   ·exact h.elim
 ·rintro l2 rec Dm pend B' ⟨vn,vd,rfl,rfl,g2,g3⟩
  show TX env _ _ _ _ _ _
  refine TX.im (dfrl_nil _) ?_
  refine TX.im (dfrl_push (D:=Dm) (Ds:=[]) fitA) ?_
  rw [← hM]
  generalize acc M = q at *
  repeat' first|refine lda (cs:=rrow q (vn,vd)) ?_|refine srz ?_ (hj:=Nat.le_of_ble_eq_true rfl)|refine sq ?_|refine rg ?_|refine xc ?_|refine nl ?_|refine rt ?_|refine xb ?_
  exact mca1 (Ds:=[Dm]) (cs:=rrow q (vn,vd)) (vs:=rrow q (vn,vd)) (T:=TRt) ⟨vn,vd,rfl,g2,g3,rfl⟩
end Go.Art
namespace Go.Art
open Go Go.Proofs Go.RowKit
theorem inQ_all (t:List Int) (k u j:Nat):(inQ t k u j).foldl (· + ·) 0 = evI t.length k (omg t k) u j:=by
 have:=inQ_sum t k u j t.length (Nat.le_refl _)
 rwa [List.take_of_length_le (by rw [inQ_len];exact Nat.le_refl _)] at this
theorem num_sign {q:Rat} (h:0 ≤ q) (h0:q ≠ 0):q.num.sign = 1∧0 < q.num:=by
 have h1:0 ≤ q.num:=Rat.num_nonneg.2 h
 have h2:q.num ≠ 0:=fun e=>h0 (Rat.num_eq_zero.1 e)
 have h3:0 < q.num:=by omega
 exact ⟨Int.sign_eq_one_of_pos h3,h3⟩
theorem two_mk (u:Nat):mkRat ((2:Nat):Int) u = 2 / (u:Rat):=by rw [Rat.mkRat_eq_div];rfl
theorem zero_mk:mkRat ((0:Nat):Int) 1 = 0:=by simp
theorem evI_le1 {t:List Int} {k u:Nat} (hz:solE t k = 0) (hu:u ≤ k) (h2:2 ≤ u):evI t.length k (omg t k) u 2 ≤ 1:=by
 have h1:=rowQ_le (m:=1) hz hu (by omega)
 simp only [List.range_succ,List.range_zero,List.nil_append,sR] at h1
 grind
attribute [local irreducible] Fit pt own ro vw mpc lpt vels rels mow lrc dfr
attribute [local irreducible] lmp lme mit velg relg bnd owl dfrl
abbrev plusV:Value:=.func (.func 265) #[] #[]
theorem in_tr (tv:Value) (htv:tv.oneCell' = true) (t:List Int) (k u j:Nat) (hz:solE t k = 0) (hk:k ≤ 40) (hl:t.length ≤ 12) (hu:u ≤ k) (hj:j ≤ u):Tr Tryz.prog 213 [tv,I k,I u,I j] [vw tv (Is t)] [] (FQ (evI t.length k (omg t k) u j)):=by
 obtain ⟨z1,z2,z3,z4⟩:=solE_zero hz
 have hT:=SoTotal_tr tv t (by omega) z3
 have hP:=cpair_tr 0 1 (by decide) (by decide) (by decide)
 rw [zero_mk] at hP
 have hseq:=fun p1 p2 p3 p4 p5=>in1_seq p1 p2 p3 p4 p5 tv t k u j hz hk hl hu hj
 have hfold:=fun p1 p2 p3 p4 p5 n1 d1 hn1 hd1=>cfold_tr 263 #[ptr p1,ptr p2,ptr p3,ptr p4,ptr p5] _ _ (inQ t k u j) (hseq p1 p2 p3 p4 p5) 0 n1 d1 hn1 hd1 (fun i hi=>by
  rw [inQ_len] at hi
  rw [inQ_get hi]
  exact (term_FB hz hk hl hu hi).le (by decide)) (fun i hi=>by
  rw [inQ_len] at hi
  rw [inQ_sum t k u j i hi]
  exact (evI_FB hz hk hl hu hi).le (by decide))
 simp only [inQ_all] at hfold
 unfold FQ at hfold hP ⊢
 generalize evI t.length k (omg t k) u j = q at *
 clear hseq z1 z2 z3 z4
 obtain ⟨z,hz0⟩ : ∃ z:Rat,z = 0:=⟨_,rfl⟩
 rw [← hz0] at hP hfold
 clear hz0
 refine Tr.enter env _ Tryz.func213 (by kernel_rfl) rfl Tryz.ntmps213 rfl (by repeat (first | exact has00 | refine has01 ?_)) fun w0=>?_
 refine TC.im (own_nil T64 _) ?_
 repeat' first|(refine gca ?_;first|(refine ca hT ?_;rintro _ _ ⟨rfl,rfl⟩)|(refine ca hP ?_;rintro _ _ ⟨n1,d1,rfl,hn1,hd1,rfl⟩))|refine bx1 fun b=>?_|refine al fun c=>?_|refine srz ?_|(refine wo ?_;first|refine oa ?_|refine ld ?_|refine sr ?_)|refine sq ?_|refine rg ?_|refine xc ?_|refine nl ?_
 rename_i c4 c5 c6 c8
 repeat' first|(refine cav (cap:=#[]) (vs:=[.func (.func 263) #[] #[ptr c4,ptr c,ptr c5,ptr c6,ptr b],rv z n1 d1,plusV]) (hfold c4 c c5 c6 b n1 d1 hn1 hd1) ?_ (hp:=has1 (lbd_of (has1 hasA (has1 hasA (has1 hasA (has1 hasA (has1 hasA (has1 hasA has0))))))) has0);rintro _ _ ⟨n2,d2,rfl,hn2,hd2,rfl⟩)|refine srz ?_|refine xc ?_|refine nl ?_|refine rt ?_
 exact rca1 (cs:=[.bool (decide (q.num < 0)),n2,d2]) (vs:=[.bool (decide (q.num < 0)),n2,d2]) (T:=TRt) ⟨n2,d2,rfl,hn2,hd2,rfl⟩
theorem row1_seq (pj pu pt' pk:Nat) (tv:Value) (htv:tv.oneCell' = true) (t:List Int) (k u j:Nat) (hz:solE t k = 0) (hk:k ≤ 40) (hl:t.length ≤ 12) (hu:u ≤ k) (hj:j ≤ 2) :
  SeqQ Tryz.prog 290 #[ptr pj,ptr pu,ptr pt',ptr pk] (lbd [lpt pu [I u] TLI,lpt pt' [tv] TLs,lpt pk [I k] TLI,vw tv (Is t)]) (pt pj [I j] TLI) (rowQ t k u j):=by
 refine ⟨fun {α} V hV l J pl S a0 h0 hnb hy=>?_⟩
 haveI:=hV
 haveI:∀ a,NoB (J a):=fun a=>⟨hnb a⟩
 refine Tr.pre (pre:=[V,lpt pu [I u] TLI,lpt pt' [tv] TLs,lpt pk [I k] TLI,vw tv (Is t)]) ?_ (has1 (has_mem (by simp)) (has_lbds (C:=[lpt pu [I u] TLI,lpt pt' [tv] TLs,lpt pk [I k] TLI,vw tv (Is t)]) (by simp) _ (by repeat (first | exact has00 | refine has01 ?_)) fun c hc=>hc)) (by repeat (first | exact has00 | refine has01 ?_))
 rw [rowQ_len] at hy ⊢
 have hin:=fun m (hm:m ≤ u)=>in_tr tv htv t k u m hz hk hl hu hm
 have hget:=fun i (hi:i < u + 1 - j)=>rowQ_get (t:=t) (k:=k) (u:=u) (j:=j) hi
 clear hz
 refine Tr.enter env _ Tryz.func290 (by kernel_rfl) rfl Tryz.ntmps290 rfl (by repeat (first | exact has00 | refine has01 ?_)) fun w0=>?_
 repeat' first|refine bk ?_
 refine TC.loop (ι:=InS α) (fun _=>[]) (fun g=>[pt pj [I ((j + g.i:Nat):Int)] TLI,J g.a]) (fun g=>g.i ≤ u + 1 - j∧pl g.a g.i) (fun g=>u + 1 - j - g.i) ⟨0,a0⟩ [0,1,2,3,4] ⟨Nat.zero_le _,h0⟩ ?_
 rintro ⟨i,a⟩ ⟨hi,ha⟩
 dsimp only at hi ha ⊢
 by_cases hlt:i < u + 1 - j
 ·have hN:=hin (j + i) (by omega)
  have hG:=hget i hlt
  have hyi:=fun v1 v2 h1 h2=>hy a i v1 v2 h1 h2 ha hlt
  rw [hG] at hyi
  unfold FQ at hN
  clear hin hget hG hy
  generalize evI t.length k (omg t k) u (j + i) = q at *
  repeat' first|(refine gca ?_;first|(refine ca hN ?_;rintro _ _ ⟨n1,d1,rfl,hn1,hd1,rfl⟩))|(refine cy (hyi n1 d1 hn1 hd1) ?_ (hp:=has1 (has_mem memA) has0);rintro ok _ ⟨a2,rfl,⟨rfl,h3⟩ | ⟨rfl,h3⟩⟩)|(refine aw (m:=((j + (i + 1):Nat):Int)) ?_)|(refine wo ?_;first|(refine ao ?_;first|refine oa ?_)|refine oa ?_|refine ld ?_|refine ldl ?_|refine sr ?_|refine gy ?_|(refine gsi (fun hB=>?_) (fun hB=>?_) <;> try (exfalso;omega)))|(refine gc ?_;first|refine ct ?_|refine cf ?_)|refine sq ?_|refine rg ?_|refine xc ?_|refine nl ?_|refine sk ?_|refine bk ?_|refine xe ?_|refine xb ?_
  ·exact lp ⟨i + 1,a2⟩ ⟨hlt,h3⟩
  ·exact e0 ⟨a2,rfl,.inr h3⟩
 ·obtain rfl:i = u + 1 - j:=by omega
  repeat' first|(refine wo ?_;first|(refine ao ?_;first|refine oa ?_)|refine oa ?_|refine ld ?_|refine ldl ?_|refine gn ?_|(refine gsi (fun hB=>?_) (fun hB=>?_) <;> try (exfalso;omega)))|(refine gc ?_;first|refine cf ?_)|refine sq ?_|refine rg ?_|refine xc ?_|refine nl ?_|refine xe ?_
  exact e0 ⟨a,rfl,.inl ha⟩
theorem row_tr (tv:Value) (htv:tv.oneCell' = true) (k u j:Int):Tr Tryz.prog 266 [tv,I k,I u,I j] [] [] fun v D=>∃ pj pu pt' pk,v = .func (.func 290) #[] #[ptr pj,ptr pu,ptr pt',ptr pk]∧D = [pt pj [I j] TLI,pt pu [I u] TLI,pt pk [I k] TLI,pt pt' [tv] TLs]:=by
 refine Tr.enter env _ Tryz.func266 (by kernel_rfl) rfl Tryz.ntmps266 rfl (by repeat (first | exact has00 | refine has01 ?_)) fun w0=>?_
 repeat' first|refine bx1 fun b=>?_|(refine wo ?_;first|refine oa ?_)|refine sq ?_|refine rg ?_|refine xc ?_|refine nl ?_|refine rt ?_
 exact r1 ⟨_,_,_,_,rfl,rfl⟩
theorem Cloud_tr (tv:Value) (htv:tv.oneCell' = true) (t:List Int) (k u:Nat) (hz:solE t k = 0) (hk:k ≤ 40) (hl:t.length ≤ 12) (hu:u ≤ k):Tr Tryz.prog 216 [tv,I k,I u] [vw tv (Is t)] [] (FQ2 (evQ t.length k (omg t k) u) 0):=by
 have hR:=crefuses_tr tv t k u hz (by omega) hu
 have hP:=cpair_tr 0 1 (by decide) (by decide) (by decide)
 rw [zero_mk] at hP
 have hW:=row_tr tv htv (k:Int) (u:Int) 2
 have hseq:=fun p1 p2 p3 p4=>row1_seq p1 p2 p3 p4 tv htv t k u 2 hz hk hl hu (by decide)
 have hO:=oneS_lt hz hk hl
 have hfold:=fun p1 p2 p3 p4 n1 d1 hn1 hd1=>cfold_tr 290 #[ptr p1,ptr p2,ptr p3,ptr p4] _ _ (rowQ t k u 2) (hseq p1 p2 p3 p4) 0 n1 d1 hn1 hd1 (fun i hi=>by
  rw [rowQ_len] at hi
  rw [rowQ_get hi]
  exact (evI_FB hz hk hl hu (Nat.le_refl _)).le (by decide)) (fun i hi=>by
  rw [rowQ_len] at hi
  rw [rowQ_sum t k u 2 i hi]
  exact (FB_le1 (FrQ.sum fun j _=>evI_fr t.length k _ (oneS t k) u (2 + j)) (oneS_pos hz) (rowQ_le hz hu (by omega)) hO).le (by decide))
 simp only [rowQ_evQ] at hfold
 unfold FQ at hfold hP
 unfold FQ2
 generalize evQ t.length k (omg t k) u = q at *
 clear hseq hO
 obtain ⟨z,hz0⟩ : ∃ z:Rat,z = 0:=⟨_,rfl⟩
 rw [← hz0] at hP hfold
 clear hz0 hz
 refine Tr.enter env _ Tryz.func216 (by kernel_rfl) rfl Tryz.ntmps216 rfl (by repeat (first | exact has00 | refine has01 ?_)) fun w0=>?_
 repeat' first|(refine gca ?_;first|(refine ca hR ?_;rintro _ _ ⟨rfl,rfl⟩)|(refine ca hW ?_;rintro _ _ ⟨pj,pu,pt',pk,rfl,rfl⟩)|(refine ca hP ?_;rintro _ _ ⟨n1,d1,rfl,hn1,hd1,rfl⟩))|refine al fun c=>?_|(refine cav (cap:=#[]) (vs:=[.func (.func 290) #[] #[ptr pj,ptr pu,ptr pt',ptr pk],rv z n1 d1,plusV]) (hfold pj pu pt' pk n1 d1 hn1 hd1) ?_ (hp:=has1 (lbd_of (has1 hasA (has1 hasA (has1 hasA (has1 hasA has0))))) has0);rintro _ _ ⟨n2,d2,rfl,hn2,hd2,rfl⟩)|refine srz ?_|(refine wo ?_;first|(refine ao ?_;first|refine oa ?_)|refine oa ?_)|(refine gc ?_;first|refine cf ?_)|refine sq ?_|refine rg ?_|refine xc ?_|refine nl ?_|refine sk ?_|refine rt ?_
 exact rca (cs:=[.bool (decide (q.num < 0)),n2,d2]) (vs:=[.bool (decide (q.num < 0)),n2,d2]) (T:=TRt) ⟨n2,d2,rfl,hn2,hd2,rfl⟩
theorem In_tr (tv:Value) (htv:tv.oneCell' = true) (t:List Int) (k u j:Nat) (hz:solE t k = 0) (hk:k ≤ 40) (hl:t.length ≤ 12) (hu:u ≤ k) (hj:j ≤ u):Tr Tryz.prog 167 [tv,I k,I u,I j] [vw tv (Is t)] [] (FQ2 (evI t.length k (omg t k) u j) 0):=by
 have hR:=crefuses_tr tv t k u hz (by omega) hu
 have hI:=in_tr tv htv t k u j hz hk hl hu hj
 unfold FQ at hI
 unfold FQ2
 generalize evI t.length k (omg t k) u j = q at *
 refine Tr.enter env _ Tryz.func167 (by kernel_rfl) rfl Tryz.ntmps167 rfl (by repeat (first | exact has00 | refine has01 ?_)) fun w0=>?_
 repeat' first|(refine gca ?_;first|(refine ca hR ?_;rintro _ _ ⟨rfl,rfl⟩)|(refine ca hI ?_;rintro _ _ ⟨n2,d2,rfl,hn2,hd2,rfl⟩))|refine al fun c=>?_|refine srz ?_|(refine wo ?_;first|(refine ao ?_;first|refine oa ?_)|refine oa ?_|refine gy ?_)|(refine gc ?_;first|refine cf ?_|(refine ci (fun hB=>?_) (fun hB=>?_) <;> try (exfalso;omega)))|refine sq ?_|refine rg ?_|refine xc ?_|refine nl ?_|refine sk ?_|refine rt ?_
 exact rca (cs:=[.bool (decide (q.num < 0)),n2,d2]) (vs:=[.bool (decide (q.num < 0)),n2,d2]) (T:=TRt) ⟨n2,d2,rfl,hn2,hd2,rfl⟩
theorem Free_tr (tv:Value) (htv:tv.oneCell' = true) (t:List Int) (k u:Nat) (hz:solE t k = 0) (hk:k ≤ 40) (hl:t.length ≤ 12) (h1:1 ≤ u) (hu:u ≤ k):Tr Tryz.prog 170 [tv,I k,I u] [vw tv (Is t)] [] (FQ2 (fT t k u) 0):=by
 have hC:=Cloud_tr tv htv t k u hz hk hl hu
 have hO:=oneS_lt hz hk hl
 have hO0:=oneS_pos hz
 have hQ1:=evQ_le (m:=t.length) (k:=k) (ω:=omg t k) (fun i _=>omg_nonneg t k i) (tabX_one hz) hu
 have hQ0:=evQ_nonneg (m:=t.length) (k:=k) (ω:=omg t k) (fun i _=>omg_nonneg t k i) u
 have hQF:=evQ_fr t.length k (fun i=>wS t k (i + 1)) (oneS t k) u
 have hQB:FB (evQ t.length k (omg t k) u) 10:=FB_le1 hQF hO0 hQ1 hO
 have hS:=fun o ho=>ISign_tr (evQ t.length k (omg t k) u).num o ho (by have:=hQB.1;omega)
 unfold FQ2 at hC
 by_cases he:evQ t.length k (omg t k) u = 0
 ·have hf:fT t k u = evQ t.length k (omg t k) u:=by unfold fT freeR;rw [if_pos he,he]
  rw [hf]
  have hs:(evQ t.length k (omg t k) u).num.sign = 0:=by rw [he];rfl
  rw [hs] at hS
  unfold FQ2
  unfold iv at hS
  generalize evQ t.length k (omg t k) u = q at *
  clear hQF hQB hQ1 hQ0 he hs hf hO hz
  refine Tr.enter env _ Tryz.func170 (by kernel_rfl) rfl Tryz.ntmps170 rfl (by repeat (first | exact has00 | refine has01 ?_)) fun w0=>?_
  repeat' first|(refine gca ?_;first|(refine ca hC ?_;rintro _ _ ⟨n1,d1,rfl,hn1,hd1,rfl⟩)|(refine ca (hS n1 hn1) ?_;rintro _ _ ⟨rfl,rfl⟩))|refine al fun c=>?_|refine srz ?_|refine lda (vs:=[.bool (decide (q.num < 0)),n1]) ?_|refine lda ?_|(refine wo ?_;first|(refine ao ?_;first|refine oa ?_)|refine oa ?_)|(refine gc ?_;first|refine ct ?_|refine cf ?_|(refine ci (fun hB=>?_) (fun hB=>?_) <;> try (exfalso;omega)))|refine sq ?_|refine rg ?_|refine xc ?_|refine nl ?_|refine bk ?_|refine rt ?_
  exact rca (cs:=[.bool (decide (q.num < 0)),n1,d1]) (vs:=[.bool (decide (q.num < 0)),n1,d1]) (T:=TRt) ⟨n1,d1,rfl,hn1,hd1,rfl⟩
 ·have hu2:2 ≤ u:=by
   rcases Nat.lt_or_ge u 2 with h | h
   ·exact absurd (by rw [evQ_sum,show u - 1 = 0 by omega];rfl) he
   ·exact h
  obtain ⟨hs,hpos⟩:=num_sign hQ0 he
  rw [hs] at hS
  have hP:=cpair_tr 2 u (by decide) (by omega) (by omega)
  have hI:=in_tr tv htv t k u 2 hz hk hl hu hu2
  have hIB:=(evI_FB (j:=2) hz hk hl hu (Nat.le_refl _)).le (show 12 ≤ 8589934592 by decide)
  have hF1:FB (mkRat ((2:Nat):Int) u) 8589934592:=(FB_mk1 (by omega) (by decide) (by omega)).le (by decide)
  have hMul:=fun lv v1 v2 v3 v4=>FMul2_tr (mkRat ((2:Nat):Int) u) (evI t.length k (omg t k) u 2) lv v1 v2 v3 v4 hF1 hIB
  have hXB:FB (mkRat ((2:Nat):Int) u * evI t.length k (omg t k) u 2) 12:=by
   obtain ⟨a,ha,hq⟩:=(evI_fr t.length k (fun i=>wS t k (i + 1)) (oneS t k) u 2).le hO0 (evI_le1 hz hu hu2)
   have e:mkRat ((2:Nat):Int) u * evI t.length k (omg t k) u 2 = ((2 * a:Nat):Rat) / ((u * oneS t k:Nat):Rat):=by
    rw [hq,two_mk]
    have z1:=nz hO0
    have z2:=nz (show u ≠ 0 by omega)
    push_cast;grind
   rw [e]
   refine FB_nat (Nat.mul_ne_zero (by omega) hO0) ?_ ?_
   ·exact Nat.lt_of_le_of_lt (Nat.mul_le_mul_left 2 (Nat.le_trans ha (Nat.le_of_lt hO))) (by decide)
   ·exact Nat.lt_of_le_of_lt (Nat.mul_le_mul (show u ≤ 40 by omega) (Nat.le_of_lt hO)) (by decide)
  have hDiv:=fun v1 v2 v3 v4 h1 h2 h3 h4=>FDiv_tr (mkRat ((2:Nat):Int) u * evI t.length k (omg t k) u 2) (evQ t.length k (omg t k) u) v1 v2 v3 v4 h1 h2 h3 h4 (hXB.le (by decide)) (hQB.le (by decide)) hpos
  have hf:fT t k u = mkRat ((2:Nat):Int) u * evI t.length k (omg t k) u 2 / evQ t.length k (omg t k) u:=by
   unfold fT freeR;rw [if_neg he,two_mk]
  rw [← hf] at hDiv
  unfold FQ at hP hI
  unfold FQ2 at hMul hDiv ⊢
  unfold iv at hS
  clear hf hXB hIB hF1 hQF hQB hQ1 hQ0 he hs hpos hO
  obtain ⟨x,hx⟩ : ∃ x,x = mkRat ((2:Nat):Int) u * evI t.length k (omg t k) u 2:=⟨_,rfl⟩
  rw [← hx] at hMul hDiv
  clear hx
  generalize mkRat ((2:Nat):Int) u = q1 at *
  generalize evI t.length k (omg t k) u 2 = q2 at *
  generalize fT t k u = f at *
  generalize evQ t.length k (omg t k) u = q at *
  refine Tr.enter env _ Tryz.func170 (by kernel_rfl) rfl Tryz.ntmps170 rfl (by repeat (first | exact has00 | refine has01 ?_)) fun w0=>?_
  repeat' first|(refine gca ?_;first|(refine ca hC ?_;rintro _ _ ⟨n1,d1,rfl,hn1,hd1,rfl⟩)|(refine ca (hS n1 hn1) ?_;rintro _ _ ⟨rfl,rfl⟩)|(refine ca hP ?_;rintro _ _ ⟨n2,d2,rfl,hn2,hd2,rfl⟩)|(refine ca hI ?_;rintro _ _ ⟨n3,d3,rfl,hn3,hd3,rfl⟩)|(refine ca (hMul _ n2 d2 n3 d3) ?_ (hp:=has1 (has_oww memA) (has1 hasA (has1 hasA (has1 hasA (has1 hasA has0)))));rintro _ _ ⟨n4,d4,rfl,hn4,hd4,rfl⟩)|(refine ca (hDiv n4 d4 n1 d1 hn4 hd4 hn1 hd1) ?_;rintro _ _ ⟨n5,d5,rfl,hn5,hd5,rfl⟩))|refine al fun c=>?_|refine srz ?_|refine lda (vs:=[.bool (decide (q.num < 0)),n1]) ?_|refine lda ?_|refine slws (sz:=3) (xs:=rrow q1 (n2,d2) ++ rrow q2 (n3,d3)) (fun g2=>?_)|(refine wo ?_;first|(refine ao ?_;first|refine oa ?_)|refine oa ?_)|(refine gc ?_;first|refine cf ?_|(refine ci (fun hB=>?_) (fun hB=>?_) <;> try (exfalso;omega)))|refine sq ?_|refine rg ?_|refine xc ?_|refine nl ?_|refine sk ?_|refine bk ?_|refine rt ?_|refine xb ?_
  exact rca (cs:=[.bool (decide (f.num < 0)),n5,d5]) (vs:=[.bool (decide (f.num < 0)),n5,d5]) (T:=TRt) ⟨n5,d5,rfl,hn5,hd5,rfl⟩
end Go.Art
namespace Go.Art
open Go Go.Proofs Go.RowKit
abbrev HV:=Value × Value
def gpc (q:Rat):Option HV→Ch
 | none=>bnd []
 | some h=>bnd [own T64 h.1 (Us (dg q.num.natAbs)),own T64 h.2 (Us (dg q.den))]
def gps (es:List (Option HV)) (qs:List Rat):List Ch:=List.zipWith (fun e q=>gpc q e) es qs
def gow (es:List (Option HV)) (qs:List Rat):Ch:=bnd (gps es qs)
def hsE (z:HV) (es:List (Option HV)):List HV:=es.map fun e=>e.getD z
theorem hsE_len (z:HV) (es:List (Option HV)):(hsE z es).length = es.length:=by simp [hsE]
theorem hsE_get {z:HV} {es:List (Option HV)} {i:Nat} (h:i < es.length):(hsE z es).getD i nS2 = (es.getD i none).getD z:=by simp [hsE,List.getD_eq_getElem?_getD,h]
theorem hsE_set (z:HV) (es:List (Option HV)) (i:Nat) (h:HV):hsE z (es.set i (some h)) = (hsE z es).set i h:=by unfold hsE;rw [List.map_set];rfl
theorem hsE_none (z:HV) (N:Nat):hsE z (List.replicate N none) = List.replicate N z:=by simp [hsE]
theorem gpc_nb (q:Rat):∀ e:Option HV,∀ b,¬ (gpc q e).bd b
 | none=>bnd_nob fun _ h=>nomatch h
 | some h=>bnd_nob (nb1 (nb1 nb0))
theorem gps_mem {c:Ch}:∀ {es:List (Option HV)} {qs:List Rat},c ∈ gps es qs→∃ q e,c = gpc q e
 | [],_,h=>nomatch h
 | _ :: _,[],h=>nomatch h
 | e :: es,q :: qs,h=>by
  rcases List.mem_cons.1 h with h | h
  ·exact ⟨q,e,h⟩
  ·exact gps_mem (es:=es) (qs:=qs) h
theorem gow_nb (es:List (Option HV)) (qs:List Rat):∀ b,¬ (gow es qs).bd b:=bnd_nob fun c hc=>by
 obtain ⟨q,e,rfl⟩:=gps_mem hc
 exact gpc_nb _ _
instance (es:List (Option HV)) (qs:List Rat):NoB (gow es qs):=⟨gow_nb es qs⟩
theorem gps_len {es:List (Option HV)} {qs:List Rat} (h:es.length = qs.length):(gps es qs).length = qs.length:=by simp [gps];omega
theorem gps_get {es:List (Option HV)} {qs:List Rat} {i:Nat} (h1:i < es.length) (h2:i < qs.length):(gps es qs)[i]? = some (gpc (qs.getD i 0) (es.getD i none)):=by
 unfold gps
 rw [List.getElem?_zipWith,List.getElem?_eq_getElem h1,List.getElem?_eq_getElem h2]
 simp [List.getD_eq_getElem?_getD,h1,h2]
theorem gps_set {e:Option HV} {q:Rat}:∀ {es:List (Option HV)} {qs:List Rat} {i:Nat},(gps es qs).set i (gpc q e) = gps (es.set i e) (qs.set i q)
 | [],qs,i=>by simp [gps]
 | a :: es,[],i=>by simp [gps]
 | a :: es,b :: qs,0=>by simp [gps]
 | a :: es,b :: qs,i + 1=>by
  have:=gps_set (e:=e) (q:=q) (es:=es) (qs:=qs) (i:=i)
  simpa [gps] using this
theorem gow_none (F:List Ch):∀ (N:Nat) (qs:List Rat),Im F (gow (List.replicate N none) qs :: F)
 | 0,qs=>bnd_nil F
 | N + 1,[]=>bnd_nil F
 | N + 1,q :: qs=>(gow_none F N qs).trans ((bnd_nil _).trans (bnd_cons (bnd []) (gps (List.replicate N none) qs) F))
theorem im_swap3 (a b c:Ch) (F:List Ch):Im (a :: b :: c :: F) (c :: a :: b :: F):=Im.perm (by
 have:([a,b] ++ c :: F).Perm (c :: ([a,b] ++ F)):=List.perm_middle
 exact this)
theorem gow_set {es:List (Option HV)} {qs:List Rat} (hl:es.length = qs.length) {i:Nat} (hi:i < qs.length) (q:Rat) (v1 v2:Value) {A F:List Ch} (hf:Fit A [own T64 v1 (Us (dg q.num.natAbs)),own T64 v2 (Us (dg q.den)),gow es qs] F):Im A (gow (es.set i (some (v1,v2))) (qs.set i q) :: F):=by
 refine Im.trans hf ?_
 show Im (own T64 v1 (Us (dg q.num.natAbs)) :: own T64 v2 (Us (dg q.den)) :: gow es qs :: F) _
 refine (im_swap3 _ _ _ F).trans ?_
 refine (bnd_take (gps_get (by omega) hi) _).trans ?_
 refine (Im.tail _ _).trans ?_
 refine (Im.perm (show List.Perm (bnd ((gps es qs).eraseIdx i) :: own T64 v1 (Us (dg q.num.natAbs)) :: own T64 v2 (Us (dg q.den)) :: F) ([own T64 v1 (Us (dg q.num.natAbs)),own T64 v2 (Us (dg q.den))] ++ bnd ((gps es qs).eraseIdx i) :: F) from (List.perm_middle (l₁:=[own T64 v1 (Us (dg q.num.natAbs)),own T64 v2 (Us (dg q.den))])).symm)).trans ?_
 refine (im_bnd [own T64 v1 (Us (dg q.num.natAbs)),own T64 v2 (Us (dg q.den))] _).trans ?_
 have:=bnd_put (C:=gps es qs) (i:=i) (gpc q (some (v1,v2))) (by rw [gps_len hl];exact hi) F
 rw [gps_set] at this
 exact this
theorem gow_out {es:List (Option HV)} {qs:List Rat} (hl:es.length = qs.length) {i:Nat} (hi:i < qs.length) {v1 v2:Value} (he:es.getD i none = some (v1,v2)) (F:List Ch):Im (gow es qs :: F) (own T64 v1 (Us (dg (qs.getD i 0).num.natAbs)) :: own T64 v2 (Us (dg (qs.getD i 0).den)) :: gow (es.set i none) qs :: F):=by
 have h1:=gps_get (es:=es) (qs:=qs) (i:=i) (by omega) hi
 rw [he] at h1
 refine (bnd_take h1 F).trans ?_
 refine (un_bnd [own T64 v1 (Us (dg (qs.getD i 0).num.natAbs)),own T64 v2 (Us (dg (qs.getD i 0).den))] _).trans ?_
 refine Im.cons _ (Im.cons _ ?_)
 refine (bnd_nil _).trans ?_
 have:=bnd_put (C:=gps es qs) (i:=i) (gpc (qs.getD i 0) none) (by rw [gps_len hl];exact hi) F
 rw [gps_set,show qs.set i (qs.getD i 0) = qs by
  refine List.ext_getElem (by simp) fun j a b=>?_
  rw [List.getElem_set]
  split
  ·rename_i e;subst e;simp [List.getD_eq_getElem?_getD,hi]
  ·rfl] at this
 exact this
theorem has_bndI {F C:List Ch} {c d:Ch} (h:Has F (bnd C)∨bnd C ∈ F) (hd:d ∈ C) (hc:Has [d] c):Has F c:=by
 have hP:∀ w,Sat F w→Sat C w:=fun w hw=>by
  rcases h with h | h
  ·exact h.P w hw
  ·exact hw.h _ h
 have hft:∀ b,fts C b→fts F b:=fun b hb=>by
  rcases h with h | h
  ·exact h.ft b (bnd_ft.2 hb)
  ·exact ⟨_,h,bnd_ft.2 hb⟩
 exact ⟨fun w hw=>hc.P w (Sat.one ((hP w hw).h d hd)),hc.wr,hc.rd,fun b hb=>by
  obtain ⟨x,hx,hf⟩:=hc.ft b hb
  obtain rfl:x = d:=by simpa using hx
  exact hft b ⟨x,hd,hf⟩⟩
structure Grd (n:Nat) (es:List (Option HV)) (qs:List Rat):Prop where
 el:es.length = (n + 1) * (n + 1)
 ql:qs.length = (n + 1) * (n + 1)
 z:∀ i,i < (n + 1) * (n + 1)→es.getD i none = none→qs.getD i 0 = 0
theorem has_gow {F:List Ch} {n:Nat} {es:List (Option HV)} {qs:List Rat} {z:HV} (hg:Grd n es qs) (h:gow es qs ∈ F) (hz1:Has F (vw z.1 (Us (dg (0:Rat).num.natAbs)))) (hz2:Has F (vw z.2 (Us (dg (0:Rat).den)))) {i:Nat} (hi:i < (n + 1) * (n + 1)) :
  Has F (vw ((hsE z es).getD i nS2).1 (Us (dg (qs.getD i 0).num.natAbs)))∧Has F (vw ((hsE z es).getD i nS2).2 (Us (dg (qs.getD i 0).den))):=by
 rw [hsE_get (by rw [hg.el];exact hi)]
 cases he:es.getD i none with
 | none=>
  rw [hg.z i hi he]
  exact ⟨hz1,hz2⟩
 | some p=>
  have h1:=gps_get (es:=es) (qs:=qs) (i:=i) (by rw [hg.el];exact hi) (by rw [hg.ql];exact hi)
  rw [he] at h1
  have h2:Has F (vw p.1 (Us (dg (qs.getD i 0).num.natAbs))):=has_bndI (.inr h) (List.mem_of_getElem? h1) (has_bndI (.inr (List.mem_singleton.2 rfl)) (List.Mem.head _) (has_own (List.mem_singleton.2 rfl)))
  have h3:Has F (vw p.2 (Us (dg (qs.getD i 0).den))):=has_bndI (.inr h) (List.mem_of_getElem? h1) (has_bndI (.inr (List.mem_singleton.2 rfl)) (List.Mem.tail _ (List.Mem.head _)) (has_own (List.mem_singleton.2 rfl)))
  exact ⟨h2,h3⟩
theorem has_vfr_of {F:List Ch}:∀ {hs:List HV} {qs:List Rat},hs.length = qs.length→(∀ i,i < qs.length→Has F (vw (hs.getD i nS2).1 (Us (dg (qs.getD i 0).num.natAbs)))∧Has F (vw (hs.getD i nS2).2 (Us (dg (qs.getD i 0).den))))→Has F (vfr hs qs)
 | [],[],_,_=>has_vfr_nil
 | [],_ :: _,h,_=>by simp at h
 | _ :: _,[],h,_=>by simp at h
 | (v1,v2) :: hs,q :: qs,h,H=>has_vfr_cons (H 0 (by simp)).1 (H 0 (by simp)).2 (has_vfr_of (by simpa using h) fun i hi=>by
  have:=H (i + 1) (by simpa using hi)
  simpa [List.getD_eq_getElem?_getD] using this)
theorem has_gvfr {F:List Ch} {n:Nat} {es:List (Option HV)} {qs:List Rat} {z:HV} (hg:Grd n es qs) (h:gow es qs ∈ F) (hz1:Has F (vw z.1 (Us (dg (0:Rat).num.natAbs)))) (hz2:Has F (vw z.2 (Us (dg (0:Rat).den)))):Has F (vfr (hsE z es) qs):=
 has_vfr_of (by rw [hsE_len,hg.el,hg.ql]) fun i hi=>has_gow hg h hz1 hz2 (by rw [hg.ql] at hi;exact hi)
theorem Grd.set {n:Nat} {es:List (Option HV)} {qs:List Rat} (h:Grd n es qs) {i:Nat} (hi:i < (n + 1) * (n + 1)) (q:Rat) (p:HV):Grd n (es.set i (some p)) (qs.set i q):=by
 refine ⟨by rw [List.length_set,h.el],by rw [List.length_set,h.ql],fun j hj he=>?_⟩
 rw [getD_setR _ _ _ _ (by rw [h.ql];exact hi)]
 by_cases e:j = i
 ·subst e
  have:(es.set j (some p)).getD j none = some p:=by rw [List.getD_eq_getElem?_getD,List.getElem?_set_self (by rw [h.el];exact hi)];rfl
  rw [this] at he;cases he
 ·rw [if_neg e]
  refine h.z j hj ?_
  rwa [List.getD_eq_getElem?_getD,List.getElem?_set_ne (Ne.symm e),← List.getD_eq_getElem?_getD] at he
theorem Grd.none (n:Nat):Grd n (List.replicate ((n + 1) * (n + 1)) none) (List.replicate ((n + 1) * (n + 1)) 0):=⟨by simp,by simp,fun i _ _=>getD_repl _ i⟩
structure SeqP (P:Program) (f:FuncId) (cap:Array Value) (U:Ch) (n:Nat) (qs:List Rat) (hs:List HV):Prop where
 run:∀ {α:Type} (V:Ch) [Lent V] (l:Nat) (J:α→Ch) (pl:α→Nat→Prop) (S:α→Prop) (a0:α),pl a0 0→(∀ a b,¬ (J a).bd b) →
  (∀ a i,pl a i→i < (n + 1) * (n + 1)→Ty P l [.agg #[I ((i / (n + 1):Nat):Int),I ((i % (n + 1):Nat):Int)],rv (qs.getD i 0) (hs.getD i nS2).1 (hs.getD i nS2).2] [V] [J a] fun ok B=>∃ a',B = [J a']∧((ok = true∧pl a' (i + 1))∨(ok = false∧S a'))) →
  Tr P f (yv l :: cap.toList) [V,U] [J a0] fun _ B=>∃ a,B = [J a]∧(pl a ((n + 1) * (n + 1))∨S a)
abbrev gV (n:Nat) (v:Value):Value:=.agg #[I (n:Int),v]
theorem rcs_setE {n:Nat} {z:HV} {es:List (Option HV)} {qs:List Rat} (h:Grd n es qs) {i:Nat} (hi:i < (n + 1) * (n + 1)) (q:Rat) (p:HV):(rcs qs (hsE z es)).take (3 * i) ++ rrow q p ++ (rcs qs (hsE z es)).drop (3 * i + 3) = rcs (qs.set i q) (hsE z (es.set i (some p))):=by
 rw [rcs_set (by rw [hsE_len,h.el,h.ql]) (by rw [h.ql];exact hi),hsE_set]
attribute [local irreducible] Fit pt own ro vw mpc lpt vels rels mow lrc dfr
attribute [local irreducible] lmp lme mit velg relg bnd owl dfrl gow
abbrev TGr:TypeId:=80
theorem whole_tr (x:Nat) (hx:x < 9223372036854775808):Tr Tryz.prog 58 [I x] [] [] (FQ (mkRat x 1)):=by
 have hP:=FPair_tr x 1 hx (by decide) (by decide)
 unfold FQ2 at hP
 unfold FQ
 have e1:((1:Nat):Int) = 1:=rfl
 rw [e1] at hP
 generalize mkRat (x:Int) 1 = q at *
 refine Tr.enter env _ Tryz.func58 (by kernel_rfl) rfl Tryz.ntmps58 rfl (by repeat (first | exact has00 | refine has01 ?_)) fun w0=>?_
 repeat' first|(refine gca ?_;first|(refine ca hP ?_;rintro _ _ ⟨vn,vd,rfl,hvn,hvd,rfl⟩))|refine al fun c=>?_|refine srz ?_|refine lda ?_|(refine wo ?_;first|refine oa ?_)|refine sq ?_|refine rg ?_|refine xc ?_|refine nl ?_|refine rt ?_
 exact rca1 (cs:=[.bool (decide (q.num < 0)),vn,vd]) (vs:=[.bool (decide (q.num < 0)),vn,vd]) (T:=TRt) ⟨vn,vd,rfl,hvn,hvd,rfl⟩
theorem some_tr (q:Rat) (v1 v2:Value) (h1:v1.oneCell' = true) (hB:(dg q.num.natAbs).length ≤ 1099511627776):Tr Tryz.prog 68 [rv q v1 v2] [vw v1 (Us (dg q.num.natAbs))] [] fun u D=>u = .bool (decide (q ≠ 0))∧D = []:=by
 have hS:=ISign_tr q.num v1 h1 hB
 have he:(!decide (q.num.sign = 0)) = decide (q ≠ 0):=by
  by_cases h:q = 0
  ·subst h;rfl
  ·have h2:q.num.sign ≠ 0:=fun e=>h (Rat.num_eq_zero.1 (Int.sign_eq_zero_iff_zero.1 e))
   rw [decide_eq_false h2,decide_eq_true h];rfl
 rw [← he]
 unfold iv at hS
 show Tr _ _ [.agg #[.bool (decide (q.num < 0)),v1,v2]] _ _ _
 clear he hB
 generalize q.num.sign = s at *
 generalize dg q.num.natAbs = l at *
 generalize decide (q.num < 0) = b at *
 refine Tr.enter env _ Tryz.func68 (by kernel_rfl) rfl Tryz.ntmps68 rfl (by repeat (first | exact has00 | refine has01 ?_)) fun w0=>?_
 repeat' first|(refine gca ?_;first|(refine ca hS ?_;rintro _ _ ⟨rfl,rfl⟩))|refine bx fun b1=>?_|refine lda (vs:=[.bool b,v1]) ?_|(refine wo ?_;first|(refine ao ?_;first|refine oa ?_)|refine oa ?_)|refine sq ?_|refine rg ?_|refine xc ?_|refine nl ?_|refine rt ?_
 exact r1 ⟨rfl,rfl⟩
theorem gat_tr (n:Nat) (v:Value) (xs:List Value) (i k:Nat) (hv:v.oneCell' = true) (hn:n ≤ 12) (hi:i ≤ n) (hk:k ≤ n):Tr Tryz.prog 169 [gV n v,I i,I k] [vwf v ((n + 1) * (n + 1)) xs] [] fun u D=>u = .pointer (some (adr v (3 * (i * (n + 1) + k))))∧D = []:=by
 have h1:(i:Int) * ((n:Int) + 1) = ((i * (n + 1):Nat):Int):=by push_cast;rfl
 have h2:=place_lt hi hk
 have h3:i * (n + 1) ≤ 12 * 13:=Nat.mul_le_mul (by omega) (by omega)
 have h4:(((i * (n + 1):Nat):Int) + (k:Int)) = ((i * (n + 1) + k:Nat):Int):=by push_cast;rfl
 have h5:(((i * (n + 1) + k:Nat):Int)).toNat = i * (n + 1) + k:=Int.toNat_natCast _
 generalize i * (n + 1) = m at *
 generalize (n + 1) * (n + 1) = N at *
 refine Tr.enter env _ Tryz.func169 (by kernel_rfl) rfl Tryz.ntmps169 rfl (by repeat (first | exact has00 | refine has01 ?_)) fun w0=>?_
 repeat' first|refine bx fun b1=>?_|(refine aw (m:=(m:Int)) ?_ (h:=by rw [← h1];rfl))|(refine ixws (i:=((m + k:Nat):Int)) (N:=N) (xs:=xs) ?_;rw [h5])|(refine wo ?_;first|(refine ao ?_;first|refine aw ?_)|refine oa ?_|refine ld ?_)|refine sq ?_|refine rg ?_|refine xc ?_|refine nl ?_|refine rt ?_
 exact r1 ⟨rfl,rfl⟩
end Go.Art
namespace Go.Art
open Go Go.Proofs Go.RowKit
theorem grid_row {n:Nat} {hs:List HV} {qs:List Rat} (h1:hs.length = qs.length) (h2:qs.length = (n + 1) * (n + 1)) {i:Nat} (hi:i < (n + 1) * (n + 1)):((rcs qs hs).drop (3 * i)).take 3 = rrow (qs.getD i 0) (hs.getD i nS2):=rcs_row h1 (by rw [h2];exact hi)
attribute [local irreducible] Fit pt own ro vw mpc lpt vels rels mow lrc dfr
attribute [local irreducible] lmp lme mit velg relg bnd owl dfrl gow
theorem made_tr (n N:Nat) (q:Rat) (z1 z2:Value) (h1:z1.oneCell' = true) (h2:z2.oneCell' = true) (hN:(n + 1) * (n + 1) = N) (hn:n ≤ 12):Tr Tryz.prog 166 [I n,rv q z1 z2] [] []
  fun u D=>∃ v,u = gV n v∧v.oneCell' = true∧D = [oww TRt 3 v N (rcs (List.replicate N q) (List.replicate N (z1,z2)))]:=by
 have hNi:((n:Int) + 1) * ((n:Int) + 1) = (N:Int):=by rw [← hN];push_cast;rfl
 have hNb:N ≤ 169:=by rw [← hN];exact Nat.mul_le_mul (show n + 1 ≤ 13 by omega) (show n + 1 ≤ 13 by omega)
 have hrep:∀ i m,(rcs (List.replicate i q) (List.replicate i (z1,z2)) ++ zrs (m + 1)).take (3 * i) ++ rrow q (z1,z2) ++ (rcs (List.replicate i q) (List.replicate i (z1,z2)) ++ zrs (m + 1)).drop (3 * i + 3) = rcs (List.replicate (i + 1) q) (List.replicate (i + 1) (z1,z2)) ++ zrs m:=fun i m=>by
  have:=rcs_fill (qs:=List.replicate i q) (hs:=List.replicate i (z1,z2)) (by simp) m q (z1,z2)
  rw [List.length_replicate] at this
  rw [this,List.replicate_succ',List.replicate_succ']
 have hr0:rcs (List.replicate 0 q) (List.replicate 0 (z1,z2)) = []:=rfl
 refine Tr.enter env _ Tryz.func166 (by kernel_rfl) rfl Tryz.ntmps166 rfl (by repeat (first | exact has00 | refine has01 ?_)) fun w0=>?_
 repeat' first|refine bx fun b=>?_|refine al fun c=>?_|(refine aw (m:=(N:Int)) ?_ (h:=by rw [← hNi];rfl))|(refine mkw (sz:=3) (c:=(N:Int)) (fun v hv=>?_);rw [Int.toNat_natCast,zrs_eq])|refine bdm ?_|refine srz ?_|refine lnw (N:=N) (xs:=zrs N) ?_ (hm:=has_oww memA)|(refine wo ?_;first|(refine ao ?_;first|refine aw ?_)|refine oa ?_|refine ld ?_)|refine sq ?_|refine rg ?_|refine xc ?_|refine nl ?_|refine bk ?_
 rename_i c4
 refine TC.loop (ι:=Nat) (fun i=>[(18,I i)]) (fun i=>[oww TRt 3 v N (rcs (List.replicate i q) (List.replicate i (z1,z2)) ++ zrs (N - i))]) (fun i=>i ≤ N) (fun i=>N - i) 0 [3,4,5,17] (Nat.zero_le _) ?_ (hf:=by rw [hr0,List.nil_append,Nat.sub_zero];exact fitA)
 rintro i hi
 by_cases hlt:i < N
 ·obtain ⟨m,hm⟩ : ∃ m,N - i = m + 1:=⟨N - i - 1,by omega⟩
  have hr:=hrep i m
  rw [hm]
  repeat' first|refine lda (cs:=rrow q (z1,z2)) ?_|refine ixws (i:=(i:Int)) (N:=N) (xs:=rcs (List.replicate i q) (List.replicate i (z1,z2)) ++ zrs (m + 1)) ?_ (hm:=has_oww memA)|refine sow (sz:=3) (m:=3 * i) (N:=N) (xs:=rcs (List.replicate i q) (List.replicate i (z1,z2)) ++ zrs (m + 1)) (vs:=rrow q (z1,z2)) (by omega) ?_ (h1:=one_cons rfl (one_cons h1 (one_cons h2 one_nil)))|(refine wo ?_;first|(refine ao ?_;first|refine aw ?_|refine oa ?_)|refine oa ?_|refine ld ?_)|(refine gc ?_;first|(refine ci (fun hB=>?_) (fun hB=>?_) <;> try (exfalso;omega)))|refine sq ?_|refine rg ?_|refine xc ?_|refine nl ?_|refine sk ?_|refine bk ?_|refine xb ?_
  rw [hr]
  exact lp (i + 1) hlt (hf:=by rw [show N - (i + 1) = m by omega];exact fitA)
 ·obtain rfl:i = N:=by omega
  rw [Nat.sub_self,zrs_zero,List.append_nil]
  repeat' first|refine lda (cs:=[I n,v]) ?_|refine srz ?_|(refine wo ?_;first|(refine ao ?_;first|refine oa ?_))|(refine gc ?_;first|(refine ci (fun hB=>?_) (fun hB=>?_) <;> try (exfalso;omega)))|refine sq ?_|refine rg ?_|refine xc ?_|refine nl ?_|refine xe ?_|refine rt ?_
  exact rca1 (b:=c4) (cs:=[I n,v]) (vs:=[I n,v]) (T:=TGr) ⟨v,rfl,hv,rfl⟩
theorem places_tr (n:Nat) (v:Value) (hv:v.oneCell' = true):Tr Tryz.prog 59 [gV n v] [] [] fun u D=>∃ b,u = .func (.func 108) #[] #[ptr b]∧D = [pt b [I n,v] TGr]:=by
 refine Tr.enter env _ Tryz.func59 (by kernel_rfl) rfl Tryz.ntmps59 rfl (by repeat (first | exact has00 | refine has01 ?_)) fun w0=>?_
 repeat' first|refine bx fun b=>?_|(refine wo ?_;first|refine oa ?_)|refine sq ?_|refine rg ?_|refine xc ?_|refine nl ?_|refine rt ?_
 exact r1 ⟨_,rfl,rfl⟩
theorem places1_seq (b n:Nat) (v:Value) (qs:List Rat) (hs:List HV) (hl:hs.length = qs.length) (hq:qs.length = (n + 1) * (n + 1)) (hn:n ≤ 12) (ho:∀ i,i < qs.length→(hs.getD i nS2).1.oneCell' = true∧(hs.getD i nS2).2.oneCell' = true) :
  SeqP Tryz.prog 108 #[ptr b] (lbd [lpt b [I n,v] TGr,vwf v ((n + 1) * (n + 1)) (rcs qs hs)]) n qs hs:=by
 refine ⟨fun {α} V hV l J pl S a0 h0 hnb hy=>?_⟩
 haveI:=hV
 haveI:∀ a,NoB (J a):=fun a=>⟨hnb a⟩
 refine Tr.pre (pre:=[V,lpt b [I n,v] TGr,vwf v ((n + 1) * (n + 1)) (rcs qs hs)]) ?_ (has1 (has_mem (by simp)) (has_lbds (C:=[lpt b [I n,v] TGr,vwf v ((n + 1) * (n + 1)) (rcs qs hs)]) (by simp) _ (by repeat (first | exact has00 | refine has01 ?_)) fun c hc=>hc)) (by repeat (first | exact has00 | refine has01 ?_))
 have hrow:=fun i (hi:i < (n + 1) * (n + 1))=>grid_row (i:=i) hl hq hi
 have hNb:(n + 1) * (n + 1) ≤ 169:=Nat.mul_le_mul (show n + 1 ≤ 13 by omega) (show n + 1 ≤ 13 by omega)
 rw [hq] at ho
 obtain ⟨N,hN⟩ : ∃ N,N = (n + 1) * (n + 1):=⟨_,rfl⟩
 simp only [← hN] at hy hrow hNb ho ⊢
 clear hN
 generalize rcs qs hs = xs at *
 refine Tr.enter env _ Tryz.func108 (by kernel_rfl) rfl Tryz.ntmps108 rfl (by repeat (first | exact has00 | refine has01 ?_)) fun w0=>?_
 repeat' first|refine lnw (N:=N) (xs:=xs) ?_|(refine wo ?_;first|refine oa ?_|refine ldl ?_)|refine sq ?_|refine rg ?_|refine xc ?_|refine nl ?_|refine bk ?_
 refine TC.loop (ι:=InS α) (fun g=>[(8,I g.i)]) (fun g=>[J g.a]) (fun g=>g.i ≤ N∧pl g.a g.i) (fun g=>N - g.i) ⟨0,a0⟩ [0,1,6,7] ⟨Nat.zero_le _,h0⟩ ?_
 rintro ⟨i,a⟩ ⟨hi,ha⟩
 dsimp only at hi ha ⊢
 by_cases hlt:i < N
 ·have hr:=hrow i hlt
  have hyi:=hy a i ha hlt
  have ho1:=ho i hlt
  have d1:(i:Int) / ((n + 1:Nat):Int) = ((i / (n + 1):Nat):Int):=(Int.natCast_ediv _ _).symm
  have d2:(i:Int) % ((n + 1:Nat):Int) = ((i % (n + 1):Nat):Int):=(Int.natCast_emod _ _).symm
  clear hrow hy ho
  generalize i / (n + 1) = c at *
  generalize i % (n + 1) = r at *
  generalize qs.getD i 0 = q at *
  generalize hs.getD i nS2 = h at *
  obtain ⟨x1,x2⟩:=h
  dsimp only at ho1 hyi
  obtain ⟨ho1,ho2⟩:=ho1
  repeat' first|refine ixws (i:=(i:Int)) (N:=N) (xs:=xs) ?_|refine ldaw (N:=N) (xs:=xs) (m:=3 * i) hr ?_|refine al fun c4=>?_|refine srz ?_ (hj:=Nat.le_of_ble_eq_true rfl)|(refine wo ?_;first|(refine ao ?_;first|refine oa ?_)|refine oa ?_)|(refine gc ?_;first|(refine ci (fun hB=>?_) (fun hB=>?_) <;> try (exfalso;omega)))|refine sq ?_|refine rg ?_|refine xc ?_|refine nl ?_|refine sk ?_|refine bk ?_
  refine rs (fun w=>w.heap[b]? = some (.cells [I n,v].toArray TGr (0,0))∧w.heap[c4]? = some (.cells (rrow q (x1,x2)).toArray TRt (0,0))) ?_ (fun w hw=>⟨lpt_at memA hw,pt_at memA hw⟩)
  refine tka 0 ?_
  refine tka 1 ?_
  refine tka 2 ?_
  refine tkl 3 (cs:=[I n,v]) (fun w h=>h.1) ?_
  refine tkw 4 ((n + 1:Nat):Int) ?_
  refine tke 5 (v:=I c) (by rw [d1]) (fun w _=>R_quo64 (m:=(i:Int)) (q:=((n + 1:Nat):Int)) rfl rfl (by omega)) ?_
  refine tka 6 ?_
  refine tka 7 ?_
  refine tkl 8 (cs:=[I n,v]) (fun w h=>h.1) ?_
  refine tkw 9 ((n + 1:Nat):Int) ?_
  refine tke 10 (v:=I r) (by rw [d2]) (fun w _=>R_rem64 (m:=(i:Int)) (q:=((n + 1:Nat):Int)) rfl rfl (by omega)) ?_
  refine tk 11 (v:=.agg #[I c,I r]) (fun w h=>R_buildArr (E:=env) rfl rfl rfl rfl rfl) ?_
  refine tk 12 (v:=.agg (rrow q (x1,x2)).toArray) (fun w h=>R_loadA (E:=env) (vs:=rrow q (x1,x2)) rfl rfl rfl rfl h.2 rfl rfl) ?_
  refine t1 13 ?_
  refine cy hyi ?_ (hp:=has1 (has_mem memA) has0)
  rintro ok _ ⟨a2,rfl,h3⟩
  refine nl ?_
  refine te (fun w hw=>⟨lpt_at memA hw,pt_at memA hw⟩) ?_
  refine tka 14 ?_
  refine t0 ?_
  rcases h3 with ⟨rfl,h3⟩ | ⟨rfl,h3⟩
  ·repeat' first|(refine wo ?_;first|(refine ao ?_;first|refine aw ?_)|refine oa ?_)|(refine gc ?_;first|refine cf ?_)|refine rg ?_|refine xc ?_|refine nl ?_|refine sk ?_|refine xb ?_
   exact lp ⟨i + 1,a2⟩ ⟨hlt,h3⟩
  ·repeat' first|(refine gc ?_;first|refine ct ?_)|refine xc ?_|refine rt ?_
   exact r0 ⟨a2,rfl,.inr h3⟩
 ·obtain rfl:i = N:=by omega
  repeat' first|(refine wo ?_;first|(refine ao ?_;first|refine oa ?_))|(refine gc ?_;first|(refine ci (fun hB=>?_) (fun hB=>?_) <;> try (exfalso;omega)))|refine sq ?_|refine rg ?_|refine xc ?_|refine nl ?_|refine xe ?_
  exact e0 ⟨a,rfl,.inl ha⟩
end Go.Art
namespace Go.Art
open Go Go.Proofs Go.RowKit
def pows (p:Rat) (i:Nat):List Rat:=(List.range (i + 1)).map fun j=>p ^ j
theorem pows_len (p:Rat) (i:Nat):(pows p i).length = i + 1:=by simp [pows]
theorem pows_get {p:Rat} {i j:Nat} (h:j ≤ i):(pows p i).getD j 0 = p ^ j:=by simp [pows,List.getD_eq_getElem?_getD,Nat.lt_succ_of_le h]
theorem pows_succ (p:Rat) (i:Nat):pows p (i + 1) = pows p i ++ [p ^ (i + 1)]:=by unfold pows;rw [List.range_succ,List.map_append];rfl
theorem pows_zero (p:Rat):pows p 0 = [1]:=by simp [pows,Rat.pow_zero]
structure Hole (C:Value→List Value) (w:Nat):Prop where
 get:∀ a,(C a)[w]? = some a
 set:∀ a b,SetAt b (C a) w (C b)
theorem hole0 (b:Value):Hole (fun a=>[a,b]) 0:=⟨fun _=>rfl,fun _ _=>.z _ _⟩
theorem hole1 (b:Value):Hole (fun a=>[b,a]) 1:=⟨fun _=>rfl,fun _ _=>.s _ (.z _ _)⟩
structure PwG where
 i:Nat
 a:Value
 hs:List HV
section
variable {P:Program} {E:Env P} {n:Sh} {X:Cx} {s:List K} {fr:Fr} {A A':List Ch} {ops:Array Oper} {rest:List Oper} {d:Nat} {ty t t' el:TypeId} {pos:String} {after:Array Edge} {z v u:Value} {x y:Operand} {b j k sz by_ N:Nat} {w:World} {xs:List Value}
theorem R_ixa {m:Nat} {i:Int} {k1:IntKind} (ht:lk E.und t = some (.array m el)) (he:lk E.inf el = some (z,1,by_)) (hx:ev fr x = some (ptr b)) (hy:ev fr y = some (.int k1 i)) (h:0 ≤ i∧i < m) :
  OpV P n fr (.indexAddr t x y) ty w (.pointer (some ⟨b,i.toNat,none⟩)) w:=⟨fun a ha _ _ _ _=>by
 obtain ⟨inf,hi,_,hsz,_⟩:=E.info he
 simp only [execOp,ha.ev hx,ha.ev hy]
 simp [Instr.indexAt,asIntOf,run_underlying (P:=P) (E.un ht) w,h,sizeOf,typeInfo,hi,hsz,Instr.sureAddr,Addr.add_lit]⟩
theorem ixa {m:Nat} {i:Int} {k1:IntKind} (k:TO E n X s ops rest ((d,.pointer (some ⟨b,i.toNat,none⟩)) :: fr) A) (hx:ev fr x = some (ptr b):=by rfl) (hy:ev fr y = some (.int k1 i):=by rfl) (hb:0 ≤ i∧i < m:=by omega)
  (ht:lk E.und t = some (.array m el):=by rfl) (he:lk E.inf el = some (z,1,by_):=by rfl) (hd:Nat.blt d n.n = true:=by rfl):TO E n X s ops (⟨some d,.indexAddr t x y,ty,pos,after,none⟩ :: rest) fr A:=TO.val (fun w _=>R_ixa ht he hx hy hb) k hd
theorem R_lenW (ht:lk E.und t = some (.slice el)) (hx:ev fr x = some v) (hm:SlW w v N xs):OpV P n fr (.call ⟨.builtin .len,#[x],#[t]⟩) ty w (I N) w:=⟨fun a ha _ _ _ _=>by
 obtain ⟨_,cap,rfl,_⟩:=hm
 simp only [execOp,resolve]
 simp [ha.ev hx,invoke,builtin,Builtin.len_,run_underlying (P:=P) (E.un ht) w,goInt]⟩
end
attribute [local irreducible] Fit pt own ro vw mpc lpt vels rels mow lrc dfr
attribute [local irreducible] lmp lme mit velg relg bnd owl dfrl gow
abbrev TPw:TypeId:=223
abbrev TPf:TypeId:=224
theorem power_tr (C:Value→List Value) (w m:Nat) (hC:Hole C w) (hw:w < 2) (p:Rat) (v1 v2:Value) (h1:v1.oneCell' = true) (h2:v2.oneCell' = true) (pw i0:Nat) (a0:Value) (hs0:List HV) (ha0:a0.oneCell' = true) (hl0:hs0.length = i0 + 1) (hm:m ≤ 12) (hi0:i0 ≤ 12) (hB:∀ j,j ≤ 13→FB (p ^ j) 8589934592) :
  Tr Tryz.prog 214 [I w,I m,rv p v1 v2,ptr pw] [vw v1 (Us (dg p.num.natAbs)),vw v2 (Us (dg p.den))] [pt pw (C a0) TPw,oww TRt 3 a0 (i0 + 1) (rcs (pows p i0) hs0),ofr hs0 (pows p i0)]
  fun u D=>∃ i a hs,u = rv (p ^ m) (hs.getD m nS2).1 (hs.getD m nS2).2∧a.oneCell' = true∧hs.length = i + 1∧m ≤ i∧i ≤ 12∧D = [pt pw (C a) TPw,oww TRt 3 a (i + 1) (rcs (pows p i) hs),ofr hs (pows p i)]:=by
 have hFp:FB p 8589934592:=by have:=hB 1 (by decide);rwa [show p ^ 1 = p by rw [Rat.pow_succ,Rat.pow_zero,Rat.one_mul]] at this
 refine Tr.enter env _ Tryz.func214 (by kernel_rfl) rfl Tryz.ntmps214 rfl (by repeat (first | exact has00 | refine has01 ?_)) fun w0=>?_
 repeat' first|refine bx fun c6=>?_|refine al fun c7=>?_|refine sq ?_|refine rg ?_|refine xc ?_|refine nl ?_|refine bk ?_
 refine TC.loop (ι:=PwG) (fun _=>[]) (fun g=>[pt pw (C g.a) TPw,oww TRt 3 g.a (g.i + 1) (rcs (pows p g.i) g.hs),ofr g.hs (pows p g.i)]) (fun g=>g.a.oneCell' = true∧g.hs.length = g.i + 1∧g.i ≤ 12) (fun g=>m - g.i) ⟨i0,a0,hs0⟩ [0,1,3,6,7] ⟨ha0,hl0,hi0⟩ ?_
 rintro ⟨i,a,hs⟩ ⟨ha,hl,hi⟩
 dsimp only at ha hl hi ⊢
 have hpl:=pows_len p i
 have hlq:hs.length = (pows p i).length:=by rw [hpl,hl]
 have hget:=hC.get a
 by_cases hlt:i < m
 ·have hrow:=rcs_row hlq (i:=i) (by omega)
  rw [pows_get (Nat.le_refl i)] at hrow
  have hfr:=fun (F:List Ch) (h:ofr hs (pows p i) ∈ F)=>has_fr (has_ofr hlq h) hlq (i:=i) (by omega)
  rw [pows_get (Nat.le_refl i)] at hfr
  have hMul:=fun lv n1 d1=>FMul2_tr (p ^ i) p lv n1 d1 v1 v2 (hB i (by omega)) hFp
  rw [← Rat.pow_succ] at hMul
  have hps:=pows_succ p i
  have hra:=fun h=>rcs_app (qs:=pows p i) (rs:=[p ^ (i + 1)]) (hs:=hs) (gs:=[h]) hlq
  simp only [← hps,rcs_one] at hra
  unfold FQ2 at hMul
  generalize hs.getD i nS2 = h at *
  obtain ⟨x1,x2⟩:=h
  dsimp only at hfr
  repeat' first|(refine ixa (m:=2) (i:=(w:Int)) ?_;rw [Int.toNat_natCast])|refine ld (cs:=C a) (j:=w) ?_ (hj:=hget)|refine lnw (N:=i + 1) (xs:=rcs (pows p i) hs) ?_ (hm:=has_oww memA)|(refine wo ?_;first|(refine ao ?_;first|refine oa ?_)|refine oa ?_)|(refine gc ?_;first|(refine ci (fun hB=>?_) (fun hB=>?_) <;> try (exfalso;omega)))|refine sq ?_|refine rg ?_|refine xc ?_|refine nl ?_|refine sk ?_|refine bk ?_
  refine cutY (ι:=Nat × HV) (fun g=>g.2.1.oneCell' = true∧g.2.2.oneCell' = true) (fun g=>[(0,I w),(1,I m),(3,ptr pw),(6,ptr c6),(7,ptr c7),(8,ptr g.1)]) (fun g=>[pt g.1 (rrow (p ^ (i + 1)) (g.2.1,g.2.2)) TRt,own T64 g.2.1 (Us (dg (p ^ (i + 1)).num.natAbs)),own T64 g.2.2 (Us (dg (p ^ (i + 1)).den)),pt pw (C a) TPw,oww TRt 3 a (i + 1) (rcs (pows p i) hs),ofr hs (pows p i),pt c7 [.bool false,nS,nS] TRt,pt c6 (rrow p (v1,v2)) TRt,vw v1 (Us (dg p.num.natAbs)),vw v2 (Us (dg p.den))]) ?_ ?_
  ·rintro ⟨c8,n3,d3⟩ ⟨hn3,hd3⟩
   dsimp only at hn3 hd3 ⊢
   repeat' first|(refine wo ?_;first|(refine ao ?_;first|refine aw ?_|refine aw6 ?_|refine oa ?_|refine adiv ?_|refine amod ?_|refine shr1 ?_|refine shr ?_|refine umod ?_|refine isl ?_|refine ipe ?_|refine ipn ?_|refine ibe ?_)|refine acw ?_|refine ucv ?_|refine anw ?_|refine oa ?_|refine ld ?_|refine ldl ?_|refine lnm ?_|refine ixmn ?_|refine ixm ?_|refine li ?_|refine lb ?_|refine lv ?_|refine ln ?_|refine ixn ?_|refine ix ?_|refine le ?_|refine sr ?_|refine soi ?_|refine sob ?_|refine scm ?_|refine sclm ?_|refine schm ?_|refine gy ?_|refine gn ?_|refine gnn ?_|refine gu ?_|(refine gsi (fun hB=>?_) (fun hB=>?_) <;> try (exfalso;omega))|(refine gsn (fun hB=>?_) (fun hB=>?_) <;> try (exfalso;omega))|(refine gs (fun hB=>?_) (fun hB=>?_) <;> try (exfalso;omega)))|(refine gc ?_;first|refine ct ?_|refine cf ?_|(refine ci (fun hB=>?_) (fun hB=>?_) <;> try (exfalso;omega))|(refine cn (fun hB=>?_) (fun hB=>?_) <;> try (exfalso;omega))|(refine cb (fun hB=>?_) (fun hB=>?_) <;> try (exfalso;omega)))|refine sq ?_|refine rg ?_|refine xc ?_|refine nl ?_|refine sk ?_|refine bk ?_|refine xe ?_|refine rt ?_|refine xb ?_
   refine rs (fun w'=>w'.heap[c8]? = some (.cells (rrow (p ^ (i + 1)) (n3,d3)).toArray TRt (0,0))) ?_ (fun w' hw=>pt_at memA hw)
   refine tka 0 ?_
   refine tka 1 ?_
   refine tk 2 (v:=.pointer (some ⟨pw,w,none⟩)) (fun w' h=>R_ixa (E:=env) (m:=2) (i:=(w:Int)) rfl rfl rfl rfl ⟨by omega,by omega⟩) ?_
   refine tk 4 (v:=.agg (rrow (p ^ (i + 1)) (n3,d3)).toArray) (fun w' h=>R_loadA (E:=env) (vs:=rrow (p ^ (i + 1)) (n3,d3)) rfl rfl rfl rfl h rfl rfl) ?_
   refine t2 3 5 ?_ ?_
   ·refine ld (cs:=C a) (j:=w) ?_ (hj:=hget)
    refine nl ?_
    refine te (fun w' hw=>pt_at memA hw) ?_
    refine t1 5 ?_
    refine slws (sz:=3) (xs:=rrow (p ^ (i + 1)) (n3,d3)) fun g3=>?_
    refine nl ?_
    refine te (fun w' hw=>pt_at memA hw) ?_
    refine t1 6 ?_
    refine apw (sz:=3) (M:=1) (N:=i + 1) (xs:=rcs (pows p i) hs) (ys:=rrow (p ^ (i + 1)) (n3,d3)) (by decide) rfl (one_cons rfl (one_cons hn3 (one_cons hd3 one_nil))) (fun o2 ho2=>?_) (hu:=has_oww memA)
    refine nl ?_
    refine te (fun w' hw=>pt_at memA hw) ?_
    refine tk 7 (v:=.pointer (some ⟨pw,w,none⟩)) (fun w' h=>R_ixa (E:=env) (m:=2) (i:=(w:Int)) rfl rfl rfl rfl ⟨by omega,by omega⟩) ?_
    refine t1 8 ?_
    refine sr (cs:=C a) (cs':=C o2) ?_ (hs:=hC.set a o2)
    refine nl ?_
    refine te (fun w' hw=>pt_at memA hw) ?_
    refine t0 ?_
    repeat' first|refine xb ?_
    refine TX.im (ofr_snoc hlq (p ^ (i + 1)) n3 d3 fitA) ?_
    rw [← hps,← hra]
    exact lp ⟨i + 1,o2,hs ++ [(n3,d3)]⟩ ⟨ho2,by simp [hl],(by omega:i + 1 ≤ 12)⟩
   ·refine slws (sz:=3) (xs:=rrow (p ^ (i + 1)) (n3,d3)) fun g3=>?_
    refine nl ?_
    refine te (fun w' hw=>pt_at memA hw) ?_
    refine t1 3 ?_
    refine ld (cs:=C a) (j:=w) ?_ (hj:=hget)
    refine nl ?_
    refine te (fun w' hw=>pt_at memA hw) ?_
    refine t1 6 ?_
    refine apw (sz:=3) (M:=1) (N:=i + 1) (xs:=rcs (pows p i) hs) (ys:=rrow (p ^ (i + 1)) (n3,d3)) (by decide) rfl (one_cons rfl (one_cons hn3 (one_cons hd3 one_nil))) (fun o2 ho2=>?_) (hu:=has_oww memA)
    refine nl ?_
    refine te (fun w' hw=>pt_at memA hw) ?_
    refine tk 7 (v:=.pointer (some ⟨pw,w,none⟩)) (fun w' h=>R_ixa (E:=env) (m:=2) (i:=(w:Int)) rfl rfl rfl rfl ⟨by omega,by omega⟩) ?_
    refine t1 8 ?_
    refine sr (cs:=C a) (cs':=C o2) ?_ (hs:=hC.set a o2)
    refine nl ?_
    refine te (fun w' hw=>pt_at memA hw) ?_
    refine t0 ?_
    repeat' first|refine xb ?_
    refine TX.im (ofr_snoc hlq (p ^ (i + 1)) n3 d3 fitA) ?_
    rw [← hps,← hra]
    exact lp ⟨i + 1,o2,hs ++ [(n3,d3)]⟩ ⟨ho2,by simp [hl],(by omega:i + 1 ≤ 12)⟩
  ·intro b' kb
   refine rs (fun w'=>w'.heap[pw]? = some (.cells (C a).toArray TPw (0,0))∧SlW w' a (i + 1) (rcs (pows p i) hs)∧w'.heap[c6]? = some (.cells (rrow p (v1,v2)).toArray TRt (0,0))) ?_ (fun w' hw=>⟨pt_at memA hw,(has_oww (e:=TRt) (sz:=3) (v:=a) (n:=i + 1) (xs:=rcs (pows p i) hs) memA).P w' hw,pt_at memA hw⟩)
   refine tka 0 ?_
   refine tk 1 (v:=.pointer (some ⟨pw,w,none⟩)) (fun w' h=>R_ixa (E:=env) (m:=2) (i:=(w:Int)) rfl rfl rfl rfl ⟨by omega,by omega⟩) ?_
   refine tkl 2 (cs:=C a) (v:=a) (fun w' h=>h.1) ?_ (hj:=hget)
   refine tka 3 ?_
   refine tk 4 (v:=.pointer (some ⟨pw,w,none⟩)) (fun w' h=>R_ixa (E:=env) (m:=2) (i:=(w:Int)) rfl rfl rfl rfl ⟨by omega,by omega⟩) ?_
   refine tkl 5 (cs:=C a) (v:=a) (fun w' h=>h.1) ?_ (hj:=hget)
   refine tk 6 (v:=I ((i + 1:Nat):Int)) (fun w' h=>R_lenW (E:=env) rfl rfl h.2.1) ?_
   refine tkw 7 (i:Int) ?_
   refine tk 8 (v:=.pointer (some (adr a (3 * i)))) (fun w' h=>R_idxW (E:=env) (i:=(i:Int)) rfl rfl rfl rfl h.2.1 ⟨by omega,by omega⟩) ?_
   refine tk 9 (v:=.agg (rrow (p ^ i) (x1,x2)).toArray) (fun w' h=>R_loadW (E:=env) rfl rfl rfl rfl h.2.1 hrow rfl) ?_
   refine tk 10 (v:=.agg (rrow p (v1,v2)).toArray) (fun w' h=>R_loadA (E:=env) (vs:=rrow p (v1,v2)) rfl rfl rfl rfl h.2.2 rfl rfl) ?_
   refine t2 11 16 ?_ ?_
   ·refine slws (sz:=3) (xs:=rrow (p ^ i) (x1,x2) ++ rrow p (v1,v2)) fun g2=>?_
    refine nl ?_
    refine te (fun w' hw=>⟨pt_at memA hw,(has_oww (e:=TRt) (sz:=3) (v:=a) (n:=i + 1) (xs:=rcs (pows p i) hs) memA).P w' hw,pt_at memA hw⟩) ?_
    refine t2 12 16 ?_ ?_
    ·refine ca (hMul _ x1 x2) ?_ (hp:=has1 (has_oww memA) (has1 (hfr _ memA).1 (has1 (hfr _ memA).2 (has1 hasA (has1 hasA has0)))))
     rintro _ _ ⟨n3,d3,rfl,hn3,hd3,rfl⟩
     refine nl ?_
     refine te (fun w' hw=>⟨pt_at memA hw,(has_oww (e:=TRt) (sz:=3) (v:=a) (n:=i + 1) (xs:=rcs (pows p i) hs) memA).P w' hw,pt_at memA hw⟩) ?_
     refine tka 13 ?_
     refine tka 14 ?_
     refine tka 15 ?_
     refine t1 16 ?_
     refine al fun c8=>?_
     refine nl ?_
     refine te (fun w' hw=>⟨pt_at memA hw,(has_oww (e:=TRt) (sz:=3) (v:=a) (n:=i + 1) (xs:=rcs (pows p i) hs) memA).P w' hw,pt_at memA hw⟩) ?_
     refine t1 17 ?_
     refine srz ?_
     refine nl ?_
     refine te (fun w' hw=>⟨pt_at memA hw,(has_oww (e:=TRt) (sz:=3) (v:=a) (n:=i + 1) (xs:=rcs (pows p i) hs) memA).P w' hw,pt_at memA hw⟩) ?_
     refine tka 18 ?_
     refine t0 ?_
     repeat' first|refine xc ?_
     exact kb (c8,n3,d3) ⟨hn3,hd3⟩ _ _ (by (repeat (refine Sub.cons rfl (by first | rfl | go_num) ?_));exact Sub.nil) fitA
    ·refine al fun c8=>?_
     refine nl ?_
     refine te (fun w' hw=>⟨pt_at memA hw,(has_oww (e:=TRt) (sz:=3) (v:=a) (n:=i + 1) (xs:=rcs (pows p i) hs) memA).P w' hw,pt_at memA hw⟩) ?_
     refine t1 12 ?_
     refine ca (hMul _ x1 x2) ?_ (hp:=has1 (has_oww memA) (has1 (hfr _ memA).1 (has1 (hfr _ memA).2 (has1 hasA (has1 hasA has0)))))
     rintro _ _ ⟨n3,d3,rfl,hn3,hd3,rfl⟩
     refine nl ?_
     refine te (fun w' hw=>⟨pt_at memA hw,(has_oww (e:=TRt) (sz:=3) (v:=a) (n:=i + 1) (xs:=rcs (pows p i) hs) memA).P w' hw,pt_at memA hw⟩) ?_
     refine tka 13 ?_
     refine tka 14 ?_
     refine tka 15 ?_
     refine t1 17 ?_
     refine srz ?_
     refine nl ?_
     refine te (fun w' hw=>⟨pt_at memA hw,(has_oww (e:=TRt) (sz:=3) (v:=a) (n:=i + 1) (xs:=rcs (pows p i) hs) memA).P w' hw,pt_at memA hw⟩) ?_
     refine tka 18 ?_
     refine t0 ?_
     repeat' first|refine xc ?_
     exact kb (c8,n3,d3) ⟨hn3,hd3⟩ _ _ (by (repeat (refine Sub.cons rfl (by first | rfl | go_num) ?_));exact Sub.nil) fitA
   ·refine al fun c8=>?_
    refine nl ?_
    refine te (fun w' hw=>⟨pt_at memA hw,(has_oww (e:=TRt) (sz:=3) (v:=a) (n:=i + 1) (xs:=rcs (pows p i) hs) memA).P w' hw,pt_at memA hw⟩) ?_
    refine t1 11 ?_
    refine slws (sz:=3) (xs:=rrow (p ^ i) (x1,x2) ++ rrow p (v1,v2)) fun g2=>?_
    refine nl ?_
    refine te (fun w' hw=>⟨pt_at memA hw,(has_oww (e:=TRt) (sz:=3) (v:=a) (n:=i + 1) (xs:=rcs (pows p i) hs) memA).P w' hw,pt_at memA hw⟩) ?_
    refine t1 12 ?_
    refine ca (hMul _ x1 x2) ?_ (hp:=has1 (has_oww memA) (has1 (hfr _ memA).1 (has1 (hfr _ memA).2 (has1 hasA (has1 hasA has0)))))
    rintro _ _ ⟨n3,d3,rfl,hn3,hd3,rfl⟩
    refine nl ?_
    refine te (fun w' hw=>⟨pt_at memA hw,(has_oww (e:=TRt) (sz:=3) (v:=a) (n:=i + 1) (xs:=rcs (pows p i) hs) memA).P w' hw,pt_at memA hw⟩) ?_
    refine tka 13 ?_
    refine tka 14 ?_
    refine tka 15 ?_
    refine t1 17 ?_
    refine srz ?_
    refine nl ?_
    refine te (fun w' hw=>⟨pt_at memA hw,(has_oww (e:=TRt) (sz:=3) (v:=a) (n:=i + 1) (xs:=rcs (pows p i) hs) memA).P w' hw,pt_at memA hw⟩) ?_
    refine tka 18 ?_
    refine t0 ?_
    repeat' first|refine xc ?_
    exact kb (c8,n3,d3) ⟨hn3,hd3⟩ _ _ (by (repeat (refine Sub.cons rfl (by first | rfl | go_num) ?_));exact Sub.nil) fitA
 ·have hrow:=rcs_row hlq (i:=m) (by omega)
  rw [pows_get (show m ≤ i by omega)] at hrow
  refine TC.fact (fun w' hw=>fr_one (hs:=hs) (qs:=pows p i) (has_ofr hlq memA) hlq (i:=m) (by omega) w' hw) fun hone=>?_
  obtain ⟨y,hy⟩ : ∃ y,y = hs.getD m nS2:=⟨_,rfl⟩
  rw [← hy] at hrow hone
  obtain ⟨x1,x2⟩:=y
  dsimp only at hone
  obtain ⟨hone1,hone2⟩:=hone
  repeat' first|(refine ixa (m:=2) (i:=(w:Int)) ?_;rw [Int.toNat_natCast])|refine ld (cs:=C a) (j:=w) ?_ (hj:=hget)|refine lnw (N:=i + 1) (xs:=rcs (pows p i) hs) ?_ (hm:=has_oww memA)|refine ixws (i:=(m:Int)) (N:=i + 1) (xs:=rcs (pows p i) hs) ?_ (hm:=has_oww memA)|refine ldaw (N:=i + 1) (xs:=rcs (pows p i) hs) (m:=3 * m) hrow ?_ (hm:=has_oww memA)|refine srz ?_ (hj:=Nat.le_of_ble_eq_true rfl)|(refine wo ?_;first|(refine ao ?_;first|refine oa ?_)|refine oa ?_)|(refine gc ?_;first|(refine ci (fun hB=>?_) (fun hB=>?_) <;> try (exfalso;omega)))|refine sq ?_|refine rg ?_|refine xc ?_|refine nl ?_|refine xe ?_|refine rt ?_
  exact rca1 (b:=c7) (cs:=rrow (p ^ m) (x1,x2)) (vs:=rrow (p ^ m) (x1,x2)) (T:=TRt) ⟨i,a,hs,by rw [← hy],ha,hl,by omega,hi,rfl⟩
end Go.Art
namespace Go.Art
open Go Go.Proofs Go.RowKit
theorem Tr.post {P:Program} {f:FuncId} {args:List Value} {pre A:List Ch} {R R':Value→List Ch→Prop} (h:Tr P f args pre A R) (k:∀ v D,R v D→∃ D',R' v D'∧Im D D'∧∀ c ∈ D',∀ b,¬ c.bd b):Tr P f args pre A R':=by
 refine ⟨fun w hw=>(h.run w hw).mono fun v w' ⟨B,hR,hS,hM,_⟩=>?_,h.lent⟩
 obtain ⟨D',hR',hI,hB'⟩:=k v B hR
 refine ⟨D',hR',hI.sat w' hS,⟨hM.os,hM.tape,hM.output,hM.size,hM.block,fun b hb=>hM.wr b (hI.wr b hb),fun b hb=>?_⟩,hB'⟩
 rcases hI.rd b hb with h1 | h1
 ·rcases hM.wr b h1 with h2 | h2
  ·exact .inl h2
  ·exact .inr (.inr h2)
 ·exact hM.rd b h1
structure ShC where
 bq:Nat
 bp:Nat
 bl:Nat
 pw:Nat
 l1:Value
 l2:Value
structure ShG where
 a0:Value
 h0:List HV
 i0:Nat
 a1:Value
 h1:List HV
 i1:Nat
structure ShOk (c:ShC) (g:ShG):Prop where
 a0:g.a0.oneCell' = true
 a1:g.a1.oneCell' = true
 h0:g.h0.length = g.i0 + 1
 h1:g.h1.length = g.i1 + 1
 i0:g.i0 ≤ 12
 i1:g.i1 ≤ 12
 l1:c.l1.oneCell' = true
 l2:c.l2.oneCell' = true
theorem chs_mk (n:Nat):mkRat (n:Int) 1 = (n:Rat):=by rw [Rat.mkRat_eq_div];push_cast;grind
attribute [local irreducible] Fit pt own ro vw mpc lpt vels rels mow lrc dfr
attribute [local irreducible] lmp lme mit velg relg bnd owl dfrl gow
abbrev powV (pw:Nat):Value:=.func (.func 214) #[] #[ptr pw]
abbrev shV (c:ShC):Value:=.func (.func 215) #[] #[ptr c.bq,ptr c.bp,ptr c.bl]
abbrev shP (c:ShC) (p:Rat) (v:HV) (g:ShG):List Ch:=[pt c.bq [powV c.pw] TPf,pt c.bp (rrow p v) TRt,pt c.bl (rrow (1 - p) (c.l1,c.l2)) TRt,own T64 c.l1 (Us (dg (1 - p).num.natAbs)),own T64 c.l2 (Us (dg (1 - p).den)),pt c.pw [g.a0,g.a1] TPw,oww TRt 3 g.a0 (g.i0 + 1) (rcs (pows p g.i0) g.h0),ofr g.h0 (pows p g.i0),oww TRt 3 g.a1 (g.i1 + 1) (rcs (pows (1 - p) g.i1) g.h1),ofr g.h1 (pows (1 - p) g.i1)]
def shB (c:ShC) (p:Rat) (v:HV) (g:ShG):Ch:=bnd (shP c p v g)
theorem shP_nb (c:ShC) (p:Rat) (v:HV) (g:ShG):∀ x ∈ shP c p v g,∀ b,¬ x.bd b:=by repeat (first | exact nb0 | refine nb1 ?_)
instance (c:ShC) (p:Rat) (v:HV) (g:ShG):NoB (shB c p v g):=⟨bnd_nob (shP_nb c p v g)⟩
structure PwB (p:Rat):Prop where
 hp:∀ j,j ≤ 13→FB (p ^ j) 8589934592
 hl:∀ j,j ≤ 13→FB ((1 - p) ^ j) 8589934592
 hcp:∀ m s,m ≤ 12→s ≤ m→FB ((chs m s:Rat) * p ^ s) 8589934592
theorem share0_tr (c:ShC) (p:Rat) (v:HV) (g:ShG) (hv1:v.1.oneCell' = true) (hv2:v.2.oneCell' = true) (ho:ShOk c g) (hB:PwB p) (many so:Nat) (hm:many ≤ 12) (hs:so ≤ many) :
  Tr Tryz.prog 215 [I many,I so,ptr c.bq,ptr c.bp,ptr c.bl] [vw v.1 (Us (dg p.num.natAbs)),vw v.2 (Us (dg p.den))] (shP c p v g) fun u D=>∃ g' vn vd,u = rv (shar p many so) vn vd∧vn.oneCell' = true∧vd.oneCell' = true∧ShOk c g'∧D = own T64 vn (Us (dg (shar p many so).num.natAbs)) :: own T64 vd (Us (dg (shar p many so).den)) :: shP c p v g':=by
 obtain ⟨o1,o2,o3,o4,o5,o6,o7,o8⟩:=ho
 have hC:=Choose_tr many so (by omega) hs
 have hcl:=chs_len many so
 have hI:=fun o=>IMake_tr false o (dg (chs many so)) (Dg_dg _) (by omega)
 have hR:=fun o dv=>FMake_tr ((chs many so:Nat):Int) o dv [1] (Dg.one (by decide)) (by unfold dz;rw [Int.natAbs_natCast];omega) (by decide) (by decide)
 have hsg:∀ n:Nat,sg false n = (n:Int):=fun n=>rfl
 simp only [nv_dg,hsg] at hI
 unfold IR at hI
 unfold dz iv at hR
 rw [show nv [1] = 1 from rfl,chs_mk] at hR
 simp only [Int.natAbs_natCast] at hI hR
 have hn:decide (((chs many so:Nat):Int) < 0) = false:=decide_eq_false (by omega)
 rw [hn] at hI hR
 unfold eNat at hC
 unfold FQ2 at hR
 have hP0:=fun b=>power_tr (fun a=>[a,b]) 0 so (hole0 b) (by decide) p v.1 v.2 hv1 hv2 c.pw g.i0 g.a0 g.h0 o1 o3 (by omega) o5 hB.hp
 have hP1:=fun b=>power_tr (fun a=>[b,a]) 1 (many - so) (hole1 b) (by decide) (1 - p) c.l1 c.l2 o7 o8 c.pw g.i1 g.a1 g.h1 o2 o4 (by omega) o6 hB.hl
 have hF1:FB (chs many so:Rat) 8589934592:=by
  have:=hB.hcp many so hm hs
  have e:=FB_nat (a:=chs many so) (E:=1) (B:=1) (by decide) (Nat.lt_of_le_of_lt (chs_le many so) (Nat.lt_of_le_of_lt (Nat.pow_le_pow_right (by decide) (show many ≤ 63 by omega)) (by decide))) (by decide)
  rw [show ((chs many so:Nat):Rat) / ((1:Nat):Rat) = (chs many so:Rat) by rw [show ((1:Nat):Rat) = 1 from rfl];grind] at e
  exact e.le (by decide)
 have hMul:=fun lv v1 v2 v3 v4 v5 v6=>FMul3_tr (chs many so:Rat) (p ^ so) ((1 - p) ^ (many - so)) lv v1 v2 v3 v4 v5 v6 hF1 (hB.hp so (by omega)) (hB.hl (many - so) (by omega)) (hB.hcp many so hm hs)
 have hms:(many:Int) - so = ((many - so:Nat):Int):=by omega
 rw [show (chs many so:Rat) * p ^ so * (1 - p) ^ (many - so) = shar p many so from rfl] at hMul
 have hpg:=fun (hs:List HV) (i:Nat) (hl:hs.length = i + 1) (hi:so ≤ i) (F:List Ch) (h:ofr hs (pows p i) ∈ F)=>has_fr (i:=so) (has_ofr (by rw [pows_len];exact hl) h) (by rw [pows_len];exact hl) (by rw [pows_len];omega)
 have hlg:=fun (hs:List HV) (i:Nat) (hl:hs.length = i + 1) (hi:many - so ≤ i) (F:List Ch) (h:ofr hs (pows (1 - p) i) ∈ F)=>has_fr (i:=many - so) (has_ofr (by rw [pows_len];exact hl) h) (by rw [pows_len];exact hl) (by rw [pows_len];omega)
 have hpe:=fun i (hi:so ≤ i)=>pows_get (p:=p) hi
 have hle:=fun i (hi:many - so ≤ i)=>pows_get (p:=1 - p) hi
 unfold FQ2 at hMul
 clear hF1 hB hn hsg
 obtain ⟨v1,v2⟩:=v
 dsimp only at hv1 hv2 hP0 hP1
 generalize (chs many so:Rat) = qc at *
 generalize dg (chs many so) = lc at *
 generalize shar p many so = q at *
 refine Tr.enter env _ Tryz.func215 (by kernel_rfl) rfl Tryz.ntmps215 rfl (by repeat (first | exact has00 | refine has01 ?_)) fun w0=>?_
 repeat' first|(refine gca ?_;first|(refine ca hC ?_;rintro _ _ ⟨o1,rfl,ho1,rfl⟩)|(refine ca (hI o1) ?_;rintro _ _ ⟨o5,rfl,ho5,rfl⟩)|(refine ca (hR o5 o6) ?_;rintro _ _ ⟨n1,d1,rfl,hn1,hd1,rfl⟩))|refine al fun c10=>?_|refine slu [1] (fun o6 ho6=>?_)|refine srz ?_|(refine wo ?_;first|refine oa ?_)|refine sq ?_|refine rg ?_|refine xc ?_|refine nl ?_
 rename_i c7
 refine rs (fun w'=>w'.heap[c10]? = some (.cells (rrow qc (n1,d1)).toArray TRt (0,0))∧w'.heap[c.bq]? = some (.cells [powV c.pw].toArray TPf (0,0))∧w'.heap[c.bp]? = some (.cells (rrow p (v1,v2)).toArray TRt (0,0))∧w'.heap[c.bl]? = some (.cells (rrow (1 - p) (c.l1,c.l2)).toArray TRt (0,0))) ?_ (fun w' hw=>⟨pt_at memA hw,pt_at memA hw,pt_at memA hw,pt_at memA hw⟩)
 refine tk 0 (v:=.agg (rrow qc (n1,d1)).toArray) (fun w' h=>R_loadA (E:=env) (vs:=rrow qc (n1,d1)) rfl rfl rfl rfl h.1 rfl rfl) ?_
 refine tkl 1 (cs:=[powV c.pw]) (fun w' h=>h.2.1) ?_
 refine tka 2 ?_
 refine tk 3 (v:=.agg (rrow p (v1,v2)).toArray) (fun w' h=>R_loadA (E:=env) (vs:=rrow p (v1,v2)) rfl rfl rfl rfl h.2.2.1 rfl rfl) ?_
 refine tkl 5 (cs:=[powV c.pw]) (fun w' h=>h.2.1) ?_
 refine tka 6 ?_
 refine tka 7 ?_
 refine tkw 8 ((many - so:Nat):Int) ?_
 refine tk 9 (v:=.agg (rrow (1 - p) (c.l1,c.l2)).toArray) (fun w' h=>R_loadA (E:=env) (vs:=rrow (1 - p) (c.l1,c.l2)) rfl rfl rfl rfl h.2.2.2 rfl rfl) ?_
 refine t2 4 16 ?_ ?_
 ·refine cav (cap:=#[ptr c.pw]) (vs:=[I ((0:Nat):Int),I so,rv p v1 v2]) (hP0 g.a1) ?_
  rintro _ _ ⟨i0',a0',h0',rfl,q1,q2,q3,q4,rfl⟩
  refine nl ?_
  refine te (fun w' hw=>⟨pt_at memA hw,pt_at memA hw,pt_at memA hw,pt_at memA hw⟩) ?_
  refine t2 10 16 ?_ ?_
  ·refine cav (cap:=#[ptr c.pw]) (vs:=[I ((1:Nat):Int),I ((many - so:Nat):Int),rv (1 - p) c.l1 c.l2]) (hP1 a0') ?_
   rintro _ _ ⟨i1',a1',h1',rfl,r1',r2',r3',r4',rfl⟩
   refine nl ?_
   refine te (fun w' hw=>⟨pt_at memA hw,pt_at memA hw,pt_at memA hw,pt_at memA hw⟩) ?_
   refine t2 11 16 ?_ ?_
   ·refine slws (sz:=3) (xs:=rrow qc (n1,d1) ++ rrow (p ^ so) (h0'.getD so nS2) ++ rrow ((1 - p) ^ (many - so)) (h1'.getD (many - so) nS2)) fun g2=>?_
    refine nl ?_
    refine te (fun w' hw=>⟨pt_at memA hw,pt_at memA hw,pt_at memA hw,pt_at memA hw⟩) ?_
    refine t2 12 16 ?_ ?_
    ·refine ca (hMul _ n1 d1 (h0'.getD so nS2).1 (h0'.getD so nS2).2 (h1'.getD (many - so) nS2).1 (h1'.getD (many - so) nS2).2) ?_ (hp:=has1 (has_oww memA) (has1 hasA (has1 hasA (has1 (by rw [← hpe i0' q3];exact (hpg h0' i0' q2 q3 _ memA).1) (has1 (by rw [← hpe i0' q3];exact (hpg h0' i0' q2 q3 _ memA).2) (has1 (by rw [← hle i1' r3'];exact (hlg h1' i1' r2' r3' _ memA).1) (has1 (by rw [← hle i1' r3'];exact (hlg h1' i1' r2' r3' _ memA).2) has0)))))))
     rintro _ _ ⟨n3,d3,rfl,hn3,hd3,rfl⟩
     refine nl ?_
     refine te (fun w' hw=>⟨pt_at memA hw,pt_at memA hw,pt_at memA hw,pt_at memA hw⟩) ?_
     refine tka 13 ?_
     refine tka 14 ?_
     refine tka 15 ?_
     refine t1 16 ?_
     refine al fun c12=>?_
     refine nl ?_
     refine te (fun w' hw=>⟨pt_at memA hw,pt_at memA hw,pt_at memA hw,pt_at memA hw⟩) ?_
     refine t1 17 ?_
     refine srz ?_
     refine nl ?_
     refine te (fun w' hw=>⟨pt_at memA hw,pt_at memA hw,pt_at memA hw,pt_at memA hw⟩) ?_
     refine tka 18 ?_
     refine t0 ?_
     repeat' first|refine lda (cs:=rrow q (n3,d3)) ?_|refine srz ?_ (hj:=Nat.le_of_ble_eq_true rfl)|refine sq ?_|refine rg ?_|refine xc ?_|refine nl ?_|refine rt ?_
     exact rca1 (b:=c7) (cs:=rrow q (n3,d3)) (vs:=rrow q (n3,d3)) (T:=TRt) ⟨⟨a0',h0',i0',a1',h1',i1'⟩,n3,d3,rfl,hn3,hd3,⟨q1,r1',q2,r2',q4,r4',o7,o8⟩,rfl⟩
    ·refine al fun c12=>?_
     refine nl ?_
     refine te (fun w' hw=>⟨pt_at memA hw,pt_at memA hw,pt_at memA hw,pt_at memA hw⟩) ?_
     refine t1 12 ?_
     refine ca (hMul _ n1 d1 (h0'.getD so nS2).1 (h0'.getD so nS2).2 (h1'.getD (many - so) nS2).1 (h1'.getD (many - so) nS2).2) ?_ (hp:=has1 (has_oww memA) (has1 hasA (has1 hasA (has1 (by rw [← hpe i0' q3];exact (hpg h0' i0' q2 q3 _ memA).1) (has1 (by rw [← hpe i0' q3];exact (hpg h0' i0' q2 q3 _ memA).2) (has1 (by rw [← hle i1' r3'];exact (hlg h1' i1' r2' r3' _ memA).1) (has1 (by rw [← hle i1' r3'];exact (hlg h1' i1' r2' r3' _ memA).2) has0)))))))
     rintro _ _ ⟨n3,d3,rfl,hn3,hd3,rfl⟩
     refine nl ?_
     refine te (fun w' hw=>⟨pt_at memA hw,pt_at memA hw,pt_at memA hw,pt_at memA hw⟩) ?_
     refine tka 13 ?_
     refine tka 14 ?_
     refine tka 15 ?_
     refine t1 17 ?_
     refine srz ?_
     refine nl ?_
     refine te (fun w' hw=>⟨pt_at memA hw,pt_at memA hw,pt_at memA hw,pt_at memA hw⟩) ?_
     refine tka 18 ?_
     refine t0 ?_
     repeat' first|refine lda (cs:=rrow q (n3,d3)) ?_|refine srz ?_ (hj:=Nat.le_of_ble_eq_true rfl)|refine sq ?_|refine rg ?_|refine xc ?_|refine nl ?_|refine rt ?_
     exact rca1 (b:=c7) (cs:=rrow q (n3,d3)) (vs:=rrow q (n3,d3)) (T:=TRt) ⟨⟨a0',h0',i0',a1',h1',i1'⟩,n3,d3,rfl,hn3,hd3,⟨q1,r1',q2,r2',q4,r4',o7,o8⟩,rfl⟩
   ·refine al fun c12=>?_
    refine nl ?_
    refine te (fun w' hw=>⟨pt_at memA hw,pt_at memA hw,pt_at memA hw,pt_at memA hw⟩) ?_
    refine t1 11 ?_
    refine slws (sz:=3) (xs:=rrow qc (n1,d1) ++ rrow (p ^ so) (h0'.getD so nS2) ++ rrow ((1 - p) ^ (many - so)) (h1'.getD (many - so) nS2)) fun g2=>?_
    refine nl ?_
    refine te (fun w' hw=>⟨pt_at memA hw,pt_at memA hw,pt_at memA hw,pt_at memA hw⟩) ?_
    refine t1 12 ?_
    refine ca (hMul _ n1 d1 (h0'.getD so nS2).1 (h0'.getD so nS2).2 (h1'.getD (many - so) nS2).1 (h1'.getD (many - so) nS2).2) ?_ (hp:=has1 (has_oww memA) (has1 hasA (has1 hasA (has1 (by rw [← hpe i0' q3];exact (hpg h0' i0' q2 q3 _ memA).1) (has1 (by rw [← hpe i0' q3];exact (hpg h0' i0' q2 q3 _ memA).2) (has1 (by rw [← hle i1' r3'];exact (hlg h1' i1' r2' r3' _ memA).1) (has1 (by rw [← hle i1' r3'];exact (hlg h1' i1' r2' r3' _ memA).2) has0)))))))
    rintro _ _ ⟨n3,d3,rfl,hn3,hd3,rfl⟩
    refine nl ?_
    refine te (fun w' hw=>⟨pt_at memA hw,pt_at memA hw,pt_at memA hw,pt_at memA hw⟩) ?_
    refine tka 13 ?_
    refine tka 14 ?_
    refine tka 15 ?_
    refine t1 17 ?_
    refine srz ?_
    refine nl ?_
    refine te (fun w' hw=>⟨pt_at memA hw,pt_at memA hw,pt_at memA hw,pt_at memA hw⟩) ?_
    refine tka 18 ?_
    refine t0 ?_
    repeat' first|refine lda (cs:=rrow q (n3,d3)) ?_|refine srz ?_ (hj:=Nat.le_of_ble_eq_true rfl)|refine sq ?_|refine rg ?_|refine xc ?_|refine nl ?_|refine rt ?_
    exact rca1 (b:=c7) (cs:=rrow q (n3,d3)) (vs:=rrow q (n3,d3)) (T:=TRt) ⟨⟨a0',h0',i0',a1',h1',i1'⟩,n3,d3,rfl,hn3,hd3,⟨q1,r1',q2,r2',q4,r4',o7,o8⟩,rfl⟩
  ·refine al fun c12=>?_
   refine nl ?_
   refine te (fun w' hw=>⟨pt_at memA hw,pt_at memA hw,pt_at memA hw,pt_at memA hw⟩) ?_
   refine t1 10 ?_
   refine cav (cap:=#[ptr c.pw]) (vs:=[I ((1:Nat):Int),I ((many - so:Nat):Int),rv (1 - p) c.l1 c.l2]) (hP1 a0') ?_
   rintro _ _ ⟨i1',a1',h1',rfl,r1',r2',r3',r4',rfl⟩
   refine nl ?_
   refine te (fun w' hw=>⟨pt_at memA hw,pt_at memA hw,pt_at memA hw,pt_at memA hw⟩) ?_
   refine t1 11 ?_
   refine slws (sz:=3) (xs:=rrow qc (n1,d1) ++ rrow (p ^ so) (h0'.getD so nS2) ++ rrow ((1 - p) ^ (many - so)) (h1'.getD (many - so) nS2)) fun g2=>?_
   refine nl ?_
   refine te (fun w' hw=>⟨pt_at memA hw,pt_at memA hw,pt_at memA hw,pt_at memA hw⟩) ?_
   refine t1 12 ?_
   refine ca (hMul _ n1 d1 (h0'.getD so nS2).1 (h0'.getD so nS2).2 (h1'.getD (many - so) nS2).1 (h1'.getD (many - so) nS2).2) ?_ (hp:=has1 (has_oww memA) (has1 hasA (has1 hasA (has1 (by rw [← hpe i0' q3];exact (hpg h0' i0' q2 q3 _ memA).1) (has1 (by rw [← hpe i0' q3];exact (hpg h0' i0' q2 q3 _ memA).2) (has1 (by rw [← hle i1' r3'];exact (hlg h1' i1' r2' r3' _ memA).1) (has1 (by rw [← hle i1' r3'];exact (hlg h1' i1' r2' r3' _ memA).2) has0)))))))
   rintro _ _ ⟨n3,d3,rfl,hn3,hd3,rfl⟩
   refine nl ?_
   refine te (fun w' hw=>⟨pt_at memA hw,pt_at memA hw,pt_at memA hw,pt_at memA hw⟩) ?_
   refine tka 13 ?_
   refine tka 14 ?_
   refine tka 15 ?_
   refine t1 17 ?_
   refine srz ?_
   refine nl ?_
   refine te (fun w' hw=>⟨pt_at memA hw,pt_at memA hw,pt_at memA hw,pt_at memA hw⟩) ?_
   refine tka 18 ?_
   refine t0 ?_
   repeat' first|refine lda (cs:=rrow q (n3,d3)) ?_|refine srz ?_ (hj:=Nat.le_of_ble_eq_true rfl)|refine sq ?_|refine rg ?_|refine xc ?_|refine nl ?_|refine rt ?_
   exact rca1 (b:=c7) (cs:=rrow q (n3,d3)) (vs:=rrow q (n3,d3)) (T:=TRt) ⟨⟨a0',h0',i0',a1',h1',i1'⟩,n3,d3,rfl,hn3,hd3,⟨q1,r1',q2,r2',q4,r4',o7,o8⟩,rfl⟩
 ·refine al fun c12=>?_
  refine nl ?_
  refine te (fun w' hw=>⟨pt_at memA hw,pt_at memA hw,pt_at memA hw,pt_at memA hw⟩) ?_
  refine t1 4 ?_
  refine cav (cap:=#[ptr c.pw]) (vs:=[I ((0:Nat):Int),I so,rv p v1 v2]) (hP0 g.a1) ?_
  rintro _ _ ⟨i0',a0',h0',rfl,q1,q2,q3,q4,rfl⟩
  refine nl ?_
  refine te (fun w' hw=>⟨pt_at memA hw,pt_at memA hw,pt_at memA hw,pt_at memA hw⟩) ?_
  refine t1 10 ?_
  refine cav (cap:=#[ptr c.pw]) (vs:=[I ((1:Nat):Int),I ((many - so:Nat):Int),rv (1 - p) c.l1 c.l2]) (hP1 a0') ?_
  rintro _ _ ⟨i1',a1',h1',rfl,r1',r2',r3',r4',rfl⟩
  refine nl ?_
  refine te (fun w' hw=>⟨pt_at memA hw,pt_at memA hw,pt_at memA hw,pt_at memA hw⟩) ?_
  refine t1 11 ?_
  refine slws (sz:=3) (xs:=rrow qc (n1,d1) ++ rrow (p ^ so) (h0'.getD so nS2) ++ rrow ((1 - p) ^ (many - so)) (h1'.getD (many - so) nS2)) fun g2=>?_
  refine nl ?_
  refine te (fun w' hw=>⟨pt_at memA hw,pt_at memA hw,pt_at memA hw,pt_at memA hw⟩) ?_
  refine t1 12 ?_
  refine ca (hMul _ n1 d1 (h0'.getD so nS2).1 (h0'.getD so nS2).2 (h1'.getD (many - so) nS2).1 (h1'.getD (many - so) nS2).2) ?_ (hp:=has1 (has_oww memA) (has1 hasA (has1 hasA (has1 (by rw [← hpe i0' q3];exact (hpg h0' i0' q2 q3 _ memA).1) (has1 (by rw [← hpe i0' q3];exact (hpg h0' i0' q2 q3 _ memA).2) (has1 (by rw [← hle i1' r3'];exact (hlg h1' i1' r2' r3' _ memA).1) (has1 (by rw [← hle i1' r3'];exact (hlg h1' i1' r2' r3' _ memA).2) has0)))))))
  rintro _ _ ⟨n3,d3,rfl,hn3,hd3,rfl⟩
  refine nl ?_
  refine te (fun w' hw=>⟨pt_at memA hw,pt_at memA hw,pt_at memA hw,pt_at memA hw⟩) ?_
  refine tka 13 ?_
  refine tka 14 ?_
  refine tka 15 ?_
  refine t1 17 ?_
  refine srz ?_
  refine nl ?_
  refine te (fun w' hw=>⟨pt_at memA hw,pt_at memA hw,pt_at memA hw,pt_at memA hw⟩) ?_
  refine tka 18 ?_
  refine t0 ?_
  repeat' first|refine lda (cs:=rrow q (n3,d3)) ?_|refine srz ?_ (hj:=Nat.le_of_ble_eq_true rfl)|refine sq ?_|refine rg ?_|refine xc ?_|refine nl ?_|refine rt ?_
  exact rca1 (b:=c7) (cs:=rrow q (n3,d3)) (vs:=rrow q (n3,d3)) (T:=TRt) ⟨⟨a0',h0',i0',a1',h1',i1'⟩,n3,d3,rfl,hn3,hd3,⟨q1,r1',q2,r2',q4,r4',o7,o8⟩,rfl⟩
theorem share_tr (c:ShC) (p:Rat) (v:HV) (g:ShG) (hv1:v.1.oneCell' = true) (hv2:v.2.oneCell' = true) (ho:ShOk c g) (hB:PwB p) (many so:Nat) (hm:many ≤ 12) (hs:so ≤ many) :
  Tr Tryz.prog 215 [I many,I so,ptr c.bq,ptr c.bp,ptr c.bl] [vw v.1 (Us (dg p.num.natAbs)),vw v.2 (Us (dg p.den))] [shB c p v g] fun u D=>∃ g' vn vd,u = rv (shar p many so) vn vd∧vn.oneCell' = true∧vd.oneCell' = true∧ShOk c g'∧D = [own T64 vn (Us (dg (shar p many so).num.natAbs)),own T64 vd (Us (dg (shar p many so).den)),shB c p v g']:=by
 refine (TrB (share0_tr c p v g hv1 hv2 ho hB many so hm hs)).post ?_
 rintro u D ⟨D',⟨g',vn,vd,hu,h1,h2,h3,rfl⟩,rfl⟩
 refine ⟨_,⟨g',vn,vd,hu,h1,h2,h3,rfl⟩,?_,nb1 (nb1 (nb1 nb0))⟩
 have e1:=un_bnd (own T64 vn (Us (dg (shar p many so).num.natAbs)) :: own T64 vd (Us (dg (shar p many so).den)) :: shP c p v g') []
 rw [List.append_nil] at e1
 refine e1.trans (Im.cons _ (Im.cons _ ?_))
 have e2:=im_bnd (shP c p v g') []
 rw [List.append_nil] at e2
 exact e2
end Go.Art
namespace Go.Art
open Go Go.Proofs Go.RowKit
theorem nb1' {c:Ch} (h:∀ b,¬ c.bd b):∀ x ∈ [c],∀ b,¬ x.bd b:=fun x hx=>by rw [List.mem_singleton.1 hx];exact h
theorem one_mk1:mkRat ((1:Nat):Int) 1 = 1:=by rw [chs_mk];rfl
theorem ofr_one (q:Rat) (v1 v2:Value) {A F:List Ch} (hf:Fit A [own T64 v1 (Us (dg q.num.natAbs)),own T64 v2 (Us (dg q.den))] F):Im A (ofr [(v1,v2)] [q] :: F):=by
 refine Im.trans hf ?_
 show Im (own T64 v1 (Us (dg q.num.natAbs)) :: own T64 v2 (Us (dg q.den)) :: F) (ofr [(v1,v2)] [q] :: F)
 refine (Im.cons _ (Im.cons _ (owl_nil (e:=T64) (g:=wU) F))).trans ?_
 have hf2:Fit (own T64 v1 (Us (dg q.num.natAbs)) :: own T64 v2 (Us (dg q.den)) :: ofr [] [] :: F) [own T64 v1 (Us (dg q.num.natAbs)),own T64 v2 (Us (dg q.den)),ofr [] []] F:=by unfold Fit;exact Im.refl _
 exact ofr_snoc (hs:=[]) (qs:=[]) rfl q v1 v2 hf2
structure FiG where
 r:Nat
 es:List (Option HV)
 g:ShG
attribute [local irreducible] Fit pt own ro vw mpc lpt vels rels mow lrc dfr
attribute [local irreducible] lmp lme mit velg relg bnd owl dfrl gow shB
theorem shares_tr (p:Rat) (v:HV) (hv1:v.1.oneCell' = true) (hv2:v.2.oneCell' = true) (hp:FB p 8589934592):Tr Tryz.prog 168 [rv p v.1 v.2] [vw v.1 (Us (dg p.num.natAbs)),vw v.2 (Us (dg p.den))] []
  fun u D=>∃ c g,u = shV c∧ShOk c g∧D = [shB c p v g]:=by
 have hW:=whole_tr 1 (by decide)
 rw [one_mk1] at hW
 have hS:=fun n1 d1 h1 h2=>FSub_tr 1 p n1 d1 v.1 v.2 h1 h2 hv1 hv2 FB_one hp
 unfold FQ at hW
 unfold FQ2 at hS
 obtain ⟨v1,v2⟩:=v
 dsimp only at hv1 hv2 hS
 obtain ⟨o,ho⟩ : ∃ o:Rat,o = 1:=⟨_,rfl⟩
 have hpz:∀ q:Rat,pows q 0 = [o]:=fun q=>by rw [pows_zero,ho]
 obtain ⟨q,hq⟩ : ∃ q:Rat,q = 1 - p:=⟨_,rfl⟩
 have e1:((1:Nat):Int) = 1:=rfl
 rw [e1] at hW
 rw [← ho] at hW
 rw [← ho] at hS hq
 simp only [← hq] at hS
 have hsh:∀ c g,shB c p (v1,v2) g = bnd [pt c.bq [powV c.pw] TPf,pt c.bp (rrow p (v1,v2)) TRt,pt c.bl (rrow q (c.l1,c.l2)) TRt,own T64 c.l1 (Us (dg q.num.natAbs)),own T64 c.l2 (Us (dg q.den)),pt c.pw [g.a0,g.a1] TPw,oww TRt 3 g.a0 (g.i0 + 1) (rcs (pows p g.i0) g.h0),ofr g.h0 (pows p g.i0),oww TRt 3 g.a1 (g.i1 + 1) (rcs (pows q g.i1) g.h1),ofr g.h1 (pows q g.i1)]:=fun c g=>by rw [hq,ho];unfold shB;rfl
 simp only [hsh]
 clear hq hsh hp
 refine Tr.enter env _ Tryz.func168 (by kernel_rfl) rfl Tryz.ntmps168 rfl (by repeat (first | exact has00 | refine has01 ?_)) fun w0=>?_
 repeat' first|refine bx fun c1=>?_|(refine wo ?_;first|refine oa ?_)|refine sq ?_|refine rg ?_|refine xc ?_|refine nl ?_
 refine cutY (ι:=Nat × HV) (fun g=>g.2.1.oneCell' = true∧g.2.2.oneCell' = true) (fun g=>[(1,ptr c1),(3,ptr g.1)]) (fun g=>[pt g.1 (rrow q g.2) TRt,own T64 g.2.1 (Us (dg q.num.natAbs)),own T64 g.2.2 (Us (dg q.den)),pt c1 (rrow p (v1,v2)) TRt,vw v1 (Us (dg p.num.natAbs)),vw v2 (Us (dg p.den))]) ?_ ?_
 ·rintro ⟨c3,l1,l2⟩ ⟨hl1,hl2⟩
  dsimp only at hl1 hl2 ⊢
  repeat' first|(refine gca ?_;first|(refine ca hW ?_;rintro _ _ ⟨n1,d1,rfl,hn1,hd1,rfl⟩))|refine slws (sz:=3) (xs:=rrow o (n1,d1)) (fun g2=>?_)|refine sq ?_|refine rg ?_
  rename_i n0 d0 hn0 hd0 g1
  repeat' first|refine bda (cs:=[.slice (some ⟨g1,0,none⟩) 1 1,.slice (some ⟨g2,0,none⟩) 1 1]) ?_|refine al fun c6=>?_|refine srz ?_|(refine wo ?_;first|refine oa ?_|refine sr ?_)|refine sq ?_|refine rg ?_|refine xc ?_|refine nl ?_|refine rt ?_
  rename_i c5
  refine TX.im (ofr_one o n0 d0 fitA) (TX.im (ofr_one o n1 d1 fitA) ?_)
  exact r1 (D:=[bnd [pt c6 [powV c5] TPf,pt c1 (rrow p (v1,v2)) TRt,pt c3 (rrow q (l1,l2)) TRt,own T64 l1 (Us (dg q.num.natAbs)),own T64 l2 (Us (dg q.den)),pt c5 [.slice (some ⟨g1,0,none⟩) 1 1,.slice (some ⟨g2,0,none⟩) 1 1] TPw,oww TRt 3 (.slice (some ⟨g1,0,none⟩) 1 1) 1 (rrow o (n0,d0)),ofr [(n0,d0)] [o],oww TRt 3 (.slice (some ⟨g2,0,none⟩) 1 1) 1 (rrow o (n1,d1)),ofr [(n1,d1)] [o]]]) ⟨⟨c6,c1,c3,c5,l1,l2⟩,⟨.slice (some ⟨g1,0,none⟩) 1 1,[(n0,d0)],0,.slice (some ⟨g2,0,none⟩) 1 1,[(n1,d1)],0⟩,rfl,⟨rfl,rfl,rfl,rfl,Nat.zero_le _,Nat.zero_le _,hl1,hl2⟩,by dsimp only;rw [hpz,hpz,rcs_one,rcs_one]⟩ (hf:=fit_bnd (C:=[pt c6 [powV c5] TPf,pt c1 (rrow p (v1,v2)) TRt,pt c3 (rrow q (l1,l2)) TRt,own T64 l1 (Us (dg q.num.natAbs)),own T64 l2 (Us (dg q.den)),pt c5 [.slice (some ⟨g1,0,none⟩) 1 1,.slice (some ⟨g2,0,none⟩) 1 1] TPw,oww TRt 3 (.slice (some ⟨g1,0,none⟩) 1 1) 1 (rrow o (n0,d0)),ofr [(n0,d0)] [o],oww TRt 3 (.slice (some ⟨g2,0,none⟩) 1 1) 1 (rrow o (n1,d1)),ofr [(n1,d1)] [o]]) fitA) (nb:=nb1' (bnd_nob (by repeat (first | exact nb0 | refine nb1 ?_))))
 ·intro b' kb
  refine rs (fun w'=>w'.heap[c1]? = some (.cells (rrow p (v1,v2)).toArray TRt (0,0))) ?_ (fun w' hw=>pt_at memA hw)
  refine tk 1 (v:=.agg (rrow p (v1,v2)).toArray) (fun w' h=>R_loadA (E:=env) (vs:=rrow p (v1,v2)) rfl rfl rfl rfl h rfl rfl) ?_
  refine t2 0 6 ?_ ?_
  ·refine ca hW ?_
   rintro _ _ ⟨n1,d1,rfl,hn1,hd1,rfl⟩
   refine nl ?_
   refine te (fun w' hw=>pt_at memA hw) ?_
   refine t2 2 6 ?_ ?_
   ·refine ca (hS n1 d1 hn1 hd1) ?_
    rintro _ _ ⟨l1,l2,rfl,hl1,hl2,rfl⟩
    refine nl ?_
    refine te (fun w' hw=>pt_at memA hw) ?_
    refine tka 3 ?_
    refine tka 4 ?_
    refine tka 5 ?_
    refine t1 6 ?_
    refine al fun c3=>?_
    refine nl ?_
    refine te (fun w' hw=>pt_at memA hw) ?_
    refine t1 7 ?_
    refine srz ?_
    refine nl ?_
    refine te (fun w' hw=>pt_at memA hw) ?_
    refine tka 8 ?_
    refine t0 ?_
    repeat' first|refine xc ?_
    exact kb (c3,l1,l2) ⟨hl1,hl2⟩ _ _ (by (repeat (refine Sub.cons rfl (by first | rfl | go_num) ?_));exact Sub.nil) fitA
   ·refine al fun c3=>?_
    refine nl ?_
    refine te (fun w' hw=>pt_at memA hw) ?_
    refine t1 2 ?_
    refine ca (hS n1 d1 hn1 hd1) ?_
    rintro _ _ ⟨l1,l2,rfl,hl1,hl2,rfl⟩
    refine nl ?_
    refine te (fun w' hw=>pt_at memA hw) ?_
    refine tka 3 ?_
    refine tka 4 ?_
    refine tka 5 ?_
    refine t1 7 ?_
    refine srz ?_
    refine nl ?_
    refine te (fun w' hw=>pt_at memA hw) ?_
    refine tka 8 ?_
    refine t0 ?_
    repeat' first|refine xc ?_
    exact kb (c3,l1,l2) ⟨hl1,hl2⟩ _ _ (by (repeat (refine Sub.cons rfl (by first | rfl | go_num) ?_));exact Sub.nil) fitA
  ·refine al fun c3=>?_
   refine nl ?_
   refine te (fun w' hw=>pt_at memA hw) ?_
   refine t1 0 ?_
   refine ca hW ?_
   rintro _ _ ⟨n1,d1,rfl,hn1,hd1,rfl⟩
   refine nl ?_
   refine te (fun w' hw=>pt_at memA hw) ?_
   refine t1 2 ?_
   refine ca (hS n1 d1 hn1 hd1) ?_
   rintro _ _ ⟨l1,l2,rfl,hl1,hl2,rfl⟩
   refine nl ?_
   refine te (fun w' hw=>pt_at memA hw) ?_
   refine tka 3 ?_
   refine tka 4 ?_
   refine tka 5 ?_
   refine t1 7 ?_
   refine srz ?_
   refine nl ?_
   refine te (fun w' hw=>pt_at memA hw) ?_
   refine tka 8 ?_
   refine t0 ?_
   repeat' first|refine xc ?_
   exact kb (c3,l1,l2) ⟨hl1,hl2⟩ _ _ (by (repeat (refine Sub.cons rfl (by first | rfl | go_num) ?_));exact Sub.nil) fitA
end Go.Art
namespace Go.Art
open Go Go.Proofs Go.RowKit
theorem pow_lt_W {F B j:Nat} (hF:F < 18446744073709551616 ^ B) (hj:j ≤ 13):F ^ j < 18446744073709551616 ^ (B * 13 + 1):=by
 have h1:F ^ j ≤ (18446744073709551616 ^ B) ^ j:=Nat.pow_le_pow_left (Nat.le_of_lt hF) j
 rw [← Nat.pow_mul] at h1
 refine Nat.lt_of_le_of_lt h1 ?_
 refine Nat.pow_lt_pow_right (by decide) ?_
 have:=Nat.mul_le_mul_left B hj
 omega
theorem Ch01.lack {F:Nat} {p:Rat} (h:Ch01 F p):Ch01 F (1 - p):=⟨h.fr.lack h.nz h.le,by have:=h.fr.nonneg;grind,h.nz⟩
theorem Ch01.powFB {F B:Nat} {p:Rat} (h:Ch01 F p) (hF:F < 18446744073709551616 ^ B) (hB:B ≤ 12) {j:Nat} (hj:j ≤ 13):FB (p ^ j) 8589934592:=by
 refine (FB_le1 (B:=B * 13 + 1) (h.fr.pow j) (Nat.ne_of_gt (Nat.pow_pos (Nat.pos_of_ne_zero h.nz))) (pow_leR h.fr.nonneg h.le j) (pow_lt_W hF hj)).le ?_
 omega
theorem PwB_of {F B:Nat} {p:Rat} (h:Ch01 F p) (hF:F < 18446744073709551616 ^ B) (hB:B ≤ 12):PwB p:=by
 refine ⟨fun j hj=>h.powFB hF hB hj,fun j hj=>h.lack.powFB hF hB hj,fun m s hm hs=>?_⟩
 obtain ⟨b,hb,hq⟩:=(h.fr.pow s).le (Nat.ne_of_gt (Nat.pow_pos (Nat.pos_of_ne_zero h.nz))) (pow_leR h.fr.nonneg h.le s)
 rw [hq]
 have e:(chs m s:Rat) * ((b:Rat) / ((F ^ s:Nat):Rat)) = ((chs m s * b:Nat):Rat) / ((F ^ s:Nat):Rat):=by
  rw [Rat.div_def,Rat.div_def];push_cast;grind
 rw [e]
 have h1:=pow_lt_W (j:=s) hF (by omega)
 refine (FB_nat (B:=B * 13 + 2) (Nat.ne_of_gt (Nat.pow_pos (Nat.pos_of_ne_zero h.nz))) ?_ ?_).le (by omega)
 ·have h2:chs m s ≤ 2 ^ 12:=Nat.le_trans (chs_le m s) (Nat.pow_le_pow_right (by decide) hm)
  have h3:chs m s * b ≤ 2 ^ 12 * 18446744073709551616 ^ (B * 13 + 1):=Nat.mul_le_mul h2 (Nat.le_trans hb (Nat.le_of_lt h1))
  refine Nat.lt_of_le_of_lt h3 ?_
  rw [show B * 13 + 2 = B * 13 + 1 + 1 from rfl,Nat.pow_succ 18446744073709551616 (B * 13 + 1),Nat.mul_comm]
  exact Nat.mul_lt_mul_of_pos_left (by decide) (Nat.pow_pos (by decide))
 ·exact Nat.lt_of_lt_of_le h1 (Nat.pow_le_pow_right (by decide) (by omega))
theorem pT_ch {t:List Int} {k:Nat} (hz:solE t k = 0):Ch01 (oneS t k) (pT t k):=p_ch (oneS_pos hz) (tabX_one hz)
theorem fT_ch {t:List Int} {k u:Nat} (hz:solE t k = 0) (h1:1 ≤ u) (hu:u ≤ k):Ch01 (fT t k u).den (fT t k u)∧(fT t k u).den ≤ u * oneS t k:=free_ch (oneS_pos hz) (tabX_one hz) h1 hu
theorem fT_lt {t:List Int} {k u:Nat} (hz:solE t k = 0) (hk:k ≤ 40) (hl:t.length ≤ 12) (h1:1 ≤ u) (hu:u ≤ k):(fT t k u).den < 18446744073709551616 ^ 11:=by
 have h2:=oneS_lt hz hk hl
 have h3:=(fT_ch hz h1 hu).2
 have h4:u * oneS t k ≤ 40 * 18446744073709551616 ^ 10:=Nat.mul_le_mul (by omega) (Nat.le_of_lt h2)
 exact Nat.lt_of_le_of_lt (Nat.le_trans h3 h4) (by decide)
def firP (p:Rat) (n m:Nat):List Rat:=(List.range m).foldl (fun l r=>l.set ((n - r) * (n + 1) + r) (shar p n r)) (List.replicate ((n + 1) * (n + 1)) 0)
theorem firP_succ (p:Rat) (n m:Nat):firP p n (m + 1) = (firP p n m).set ((n - m) * (n + 1) + m) (shar p n m):=by unfold firP;rw [List.range_succ,List.foldl_append];rfl
theorem firP_zero (p:Rat) (n:Nat):firP p n 0 = List.replicate ((n + 1) * (n + 1)) 0:=rfl
attribute [local irreducible] Fit pt own ro vw mpc lpt vels rels mow lrc dfr
attribute [local irreducible] lmp lme mit velg relg bnd owl dfrl gow shB
abbrev gP (n:Nat) (v:Value) (qs:List Rat) (es:List (Option HV)) (z:HV):List Ch:=[oww TRt 3 v ((n + 1) * (n + 1)) (rcs qs (hsE z es)),gow es qs,own T64 z.1 (Us (dg (0:Rat).num.natAbs)),own T64 z.2 (Us (dg (0:Rat).den))]
abbrev GR (n:Nat) (qs:List Rat) (u:Value) (D:List Ch):Prop:=∃ v es z,u = gV n v∧v.oneCell' = true∧(z.1.oneCell' = true∧z.2.oneCell' = true)∧Grd n es qs∧D = gP n v qs es z
theorem first_tr (tv:Value) (htv:tv.oneCell' = true) (t:List Int) (k n:Nat) (hz:solE t k = 0) (hk:k ≤ 40) (hl:t.length ≤ 12) (hn:n ≤ 12):Tr Tryz.prog 106 [tv,I k,I n] [vw tv (Is t)] [] (GR n (lvT t k n 0)):=by
 have hk1:=(solE_zero hz).1
 have hW:=whole_tr 0 (by decide)
 rw [zero_mk] at hW
 have hM:=fun z1 z2 h1 h2=>made_tr n _ 0 z1 z2 h1 h2 rfl hn
 have hI:=In_tr tv htv t k k 1 hz hk hl (Nat.le_refl k) (by omega)
 have hpB:=PwB_of (pT_ch hz) (oneS_lt hz hk hl) (by decide)
 have hpF:FB (pT t k) 8589934592:=(evI_FB hz hk hl (Nat.le_refl k) (Nat.le_refl _)).le (by decide)
 have hSh:=fun v1 v2 h1 h2=>shares_tr (pT t k) (v1,v2) h1 h2 hpF
 rw [show lvT t k n 0 = firP (pT t k) n (n + 1) from rfl]
 unfold FQ2 at hI
 unfold FQ at hW
 dsimp only at hSh
 have hI2:evI t.length k (omg t k) k 1 = pT t k:=rfl
 rw [hI2] at hI
 clear hI2 hz hpF
 generalize pT t k = p at *
 obtain ⟨N,hN⟩ : ∃ N,N = (n + 1) * (n + 1):=⟨_,rfl⟩
 obtain ⟨o,ho⟩ : ∃ o:Rat,o = 0:=⟨_,rfl⟩
 have hN1:=hN
 rw [← ho] at hW hM
 have e0:((0:Nat):Int) = 0:=rfl
 have e1:((1:Nat):Int) = 1:=rfl
 rw [e0] at hW
 rw [e1] at hI
 have hNi:∀ i r,i ≤ n→r ≤ n→i * (n + 1) + r < N:=fun i r h1 h2=>by rw [hN];exact place_lt h1 h2
 refine Tr.enter env _ Tryz.func106 (by kernel_rfl) rfl Tryz.ntmps106 rfl (by repeat (first | exact has00 | refine has01 ?_)) fun w0=>?_
 repeat' first|(refine gca ?_;first|(refine ca hW ?_;rintro _ _ ⟨z1,z2,rfl,hz1,hz2,rfl⟩)|(refine ca (hM z1 z2 hz1 hz2) ?_;rintro _ _ ⟨v,rfl,hv,rfl⟩)|(refine ca hI ?_;rintro _ _ ⟨p1,p2,rfl,hp1,hp2,rfl⟩)|(refine ca (hSh p1 p2 hp1 hp2) ?_;rintro _ _ ⟨c,g,rfl,hg,rfl⟩))|refine al fun c7=>?_|refine srz ?_|refine lda ?_|(refine wo ?_;first|(refine ao ?_;first|refine aw ?_)|refine oa ?_)|refine sq ?_|refine rg ?_|refine xc ?_|refine nl ?_|refine bk ?_
 rename_i c6 c7g
 subst ho
 refine TC.im (gow_none _ ((n + 1) * (n + 1)) (List.replicate ((n + 1) * (n + 1)) 0)) ?_
 rw [← firP_zero p n,← hsE_none (z1,z2)]
 refine TC.loop (ι:=FiG) (fun g=>[(26,I g.r)]) (fun g=>[oww TRt 3 v ((n + 1) * (n + 1)) (rcs (firP p n g.r) (hsE (z1,z2) g.es)),gow g.es (firP p n g.r),shB c p (p1,p2) g.g]) (fun g=>g.r ≤ n + 1∧Grd n g.es (firP p n g.r)∧ShOk c g.g) (fun g=>n + 1 - g.r) ⟨0,List.replicate ((n + 1) * (n + 1)) none,g⟩ [2,6,7,10,25] ⟨Nat.zero_le _,Grd.none n,hg⟩ ?_
 rintro ⟨r,es,g⟩ ⟨hr,hgr,hg⟩
 dsimp only at hr hgr hg ⊢
 by_cases hlt:r < n + 1
 ·have hS:=share_tr c p (p1,p2) g hp1 hp2 hg hpB n r hn (by omega)
  have hA:=fun xs=>gat_tr n v xs (n - r) r hv hn (by omega) (by omega)
  have hj:=hNi (n - r) r (by omega) (by omega)
  have hset:=rcs_setE (z:=(z1,z2)) hgr (i:=(n - r) * (n + 1) + r) (by rw [← hN];exact hj) (shar p n r)
  have hgo:=fun v1 v2=>hgr.set (i:=(n - r) * (n + 1) + r) (by rw [← hN];exact hj) (shar p n r) (v1,v2)
  have hsu:=firP_succ p n r
  rw [← hsu] at hgo
  simp only [← hsu] at hset
  have hel:=hgr.el
  have hql:=hgr.ql
  clear hpB hM hI hW hSh hNi
  obtain ⟨j,hjj⟩ : ∃ j,j = (n - r) * (n + 1) + r:=⟨_,rfl⟩
  rw [← hN] at hel hql
  rw [← hjj] at hA hj hset hgo hsu
  have hnr:(n:Int) - r = ((n - r:Nat):Int):=by omega
  clear hjj
  rw [← hN]
  rw [← hN] at hA
  generalize shar p n r = q at *
  generalize firP p n r = F at *
  obtain ⟨F2,hF2⟩ : ∃ F2,F2 = firP p n (r + 1):=⟨_,rfl⟩
  rw [← hF2] at hgo hsu
  simp only [← hF2] at hset
  repeat' first|(refine gca ?_;first|(refine ca (hA _) ?_ (hp:=has1 (has_oww memA) has0);rintro _ _ ⟨rfl,rfl⟩))|refine lda (cs:=[I n,v]) ?_|(refine aw (m:=(n:Int) - r) ?_;rw [hnr])|(refine cav (cap:=#[ptr c.bq,ptr c.bp,ptr c.bl]) (vs:=[I n,I r]) hS ?_;rintro _ _ ⟨g',vn,vd,rfl,hvn,hvd,hg',rfl⟩)|refine sow (sz:=3) (m:=3 * j) (N:=N) (xs:=rcs F (hsE (z1,z2) es)) (vs:=rrow q (vn,vd)) (by omega) ?_ (h1:=one_cons rfl (one_cons hvn (one_cons hvd one_nil)))|(refine wo ?_;first|(refine ao ?_;first|refine aw ?_|refine oa ?_)|refine oa ?_)|(refine gc ?_;first|(refine ci (fun hB=>?_) (fun hB=>?_) <;> try (exfalso;omega)))|refine sq ?_|refine rg ?_|refine xc ?_|refine nl ?_|refine sk ?_|refine bk ?_|refine xb ?_
  refine TX.im (gow_set (es:=es) (qs:=F) (by rw [hel,hql]) (i:=j) (by rw [hql];exact hj) q vn vd fitA) ?_
  rw [hset,← hsu]
  exact lp ⟨r + 1,es.set j (some (vn,vd)),g'⟩ ⟨hlt,by dsimp only;rw [← hF2];exact hgo vn vd,hg'⟩ (hf:=by dsimp only;rw [← hF2];exact fitA)
 ·obtain rfl:r = n + 1:=by omega
  repeat' first|refine lda (cs:=[I n,v]) ?_|refine srz ?_|(refine wo ?_;first|(refine ao ?_;first|refine oa ?_))|(refine gc ?_;first|(refine ci (fun hB=>?_) (fun hB=>?_) <;> try (exfalso;omega)))|refine sq ?_|refine rg ?_|refine xc ?_|refine nl ?_|refine xe ?_|refine rt ?_
  exact rca1 (b:=c6) (cs:=[I n,v]) (vs:=[I n,v]) (T:=TGr) ⟨v,es,(z1,z2),rfl,hv,⟨hz1,hz2⟩,hgr,rfl⟩
end Go.Art
namespace Go.Art
open Go Go.Proofs Go.RowKit
theorem mul_le1 {q r:Rat} (hq:0 ≤ q) (h1:q ≤ 1) (h3:r ≤ 1):q * r ≤ 1:=by
 have:=Rat.mul_le_mul_of_nonneg_left h3 hq
 rw [Rat.mul_one] at this
 exact Rat.le_trans this h1
structure NxF (n B:Nat) (f g:Rat) (x:List Rat) (i a b:Nat):Prop where
 cr:i / (n + 1) + i % (n + 1) ≤ n
 y:FB (x.getD i 0) B
 sf:FB (shar f (i / (n + 1)) a) B
 sg:FB (shar g (i % (n + 1) - 1) b) B
 ys:FB (x.getD i 0 * shar f (i / (n + 1)) a) B
 p:FB (x.getD i 0 * shar f (i / (n + 1)) a * shar g (i % (n + 1) - 1) b) B
 o:∀ j,j < (n + 1) * (n + 1)→FB ((outB n f g (x.getD i 0) (i / (n + 1)) (i % (n + 1)) a (outA n f g (x.getD i 0) (i / (n + 1)) (i % (n + 1)) (outN n f g x i) a) b).getD j 0) B
theorem nx_facts {n E F u B:Nat} {f:Rat} {x:List Rat} (hf:Ch01 F f) (hg:Ch01 u (1 / (u:Rat))) (hs:Supp n x) (hx:Lv n E x) (ht:tot n x ≤ 1) (hE:E ≠ 0) (hB:E * (F ^ n * u ^ n) < 18446744073709551616 ^ B)
  {i:Nat} (hi:i < (n + 1) * (n + 1)) (h:¬ (i % (n + 1) = 0∨x.getD i 0 = 0)) {a:Nat} (ha:a ≤ i / (n + 1)) (h2:¬ shar f (i / (n + 1)) a = 0) {b:Nat} (hb:b < i % (n + 1)):NxF n B f (1 / (u:Rat)) x i a b:=by
 have hcr:i / (n + 1) + i % (n + 1) ≤ n:=by
  rcases Nat.lt_or_ge n (i / (n + 1) + i % (n + 1)) with h1 | h1
  ·exact absurd (.inr (hs.z i hi h1)) h
  ·exact h1
 have hF0:F ^ n ≠ 0:=Nat.ne_of_gt (Nat.pow_pos (Nat.pos_of_ne_zero hf.nz))
 have hu0:u ^ n ≠ 0:=Nat.ne_of_gt (Nat.pow_pos (Nat.pos_of_ne_zero hg.nz))
 have hFu:=Nat.mul_ne_zero hF0 hu0
 have hE0:=Nat.mul_ne_zero hE hFu
 have le1:E ≤ E * (F ^ n * u ^ n):=Nat.le_mul_of_pos_right _ (Nat.pos_of_ne_zero hFu)
 have le2:F ^ n ≤ E * (F ^ n * u ^ n):=Nat.le_trans (Nat.le_mul_of_pos_right _ (Nat.pos_of_ne_zero hu0)) (Nat.le_mul_of_pos_left _ (Nat.pos_of_ne_zero hE))
 have le3:u ^ n ≤ E * (F ^ n * u ^ n):=Nat.le_trans (Nat.le_mul_of_pos_left _ (Nat.pos_of_ne_zero hF0)) (Nat.le_mul_of_pos_left _ (Nat.pos_of_ne_zero hE))
 have le4:E * F ^ n ≤ E * (F ^ n * u ^ n):=Nat.mul_le_mul_left E (Nat.le_mul_of_pos_right _ (Nat.pos_of_ne_zero hu0))
 have y0:=hx.fr i hi
 have y1:x.getD i 0 ≤ 1:=Rat.le_trans (hx.le_tot hi) ht
 have f0:=shar_fr (n:=n) hf ha (by omega)
 have f1:=shar_le hf ha
 have g0:=shar_fr (n:=n) (m:=i % (n + 1) - 1) (s:=b) hg (by omega) (by omega)
 have g1:=shar_le (m:=i % (n + 1) - 1) (s:=b) hg (by omega)
 have m1:=mul_le1 y0.nonneg y1 f1
 have m2:=mul_le1 (y0.mul f0).nonneg m1 g1
 have p0:=(y0.mul f0).mul g0
 rw [Nat.mul_assoc] at p0
 refine ⟨hcr,FB_le1 y0 hE y1 (by omega),FB_le1 f0 hF0 f1 (by omega),FB_le1 g0 hu0 g1 (by omega),FB_le1 (y0.mul f0) (Nat.mul_ne_zero hE hF0) m1 (by omega),FB_le1 p0 hE0 m2 hB,fun j hj=>?_⟩
 obtain ⟨k1,k2⟩:=out_okB hf hg hs hx ht hi h ha h2 (b:=b) (by omega)
 exact FB_le1 (k1.fr j hj) hE0 (Rat.le_trans (k1.le_tot hj) k2) hB
theorem y_FB {n E B:Nat} {x:List Rat} (hx:Lv n E x) (ht:tot n x ≤ 1) (hE:E ≠ 0) (hB:E < 18446744073709551616 ^ B) {i:Nat} (hi:i < (n + 1) * (n + 1)):FB (x.getD i 0) B:=FB_le1 (hx.fr i hi) hE (Rat.le_trans (hx.le_tot hi) ht) hB
theorem s_FB {n E F u B:Nat} {f:Rat} {x:List Rat} (hf:Ch01 F f) (hu:u ≠ 0) (hs:Supp n x) (hE:E ≠ 0) (hB:E * (F ^ n * u ^ n) < 18446744073709551616 ^ B) {i:Nat} (hi:i < (n + 1) * (n + 1)) (h:¬ (i % (n + 1) = 0∨x.getD i 0 = 0)) {a:Nat} (ha:a ≤ i / (n + 1)):i / (n + 1) + i % (n + 1) ≤ n∧FB (shar f (i / (n + 1)) a) B:=by
 have hcr:i / (n + 1) + i % (n + 1) ≤ n:=by
  rcases Nat.lt_or_ge n (i / (n + 1) + i % (n + 1)) with h1 | h1
  ·exact absurd (.inr (hs.z i hi h1)) h
  ·exact h1
 have hF0:F ^ n ≠ 0:=Nat.ne_of_gt (Nat.pow_pos (Nat.pos_of_ne_zero hf.nz))
 have hu0:u ^ n ≠ 0:=Nat.ne_of_gt (Nat.pow_pos (Nat.pos_of_ne_zero hu))
 have le2:F ^ n ≤ E * (F ^ n * u ^ n):=Nat.le_trans (Nat.le_mul_of_pos_right _ (Nat.pos_of_ne_zero hu0)) (Nat.le_mul_of_pos_left _ (Nat.pos_of_ne_zero hE))
 exact ⟨hcr,FB_le1 (shar_fr (n:=n) hf ha (by omega)) hF0 (shar_le hf ha) (by omega)⟩
open Go Go.Proofs Go.RowKit
structure NxS where
 i:Nat
 es:List (Option HV)
 gf:ShG
 gg:ShG
structure NxB where
 b:Nat
 es:List (Option HV)
 gg:ShG
structure NxC where
 v:Value
 z:HV
 c9:Nat
structure NxD where
 c14:Nat
 c15:Nat
 cf:ShC
 cg:ShC
 gf:ShG
 gg:ShG
section
variable {P:Program} {E:Env P} {n:Sh} {X:Cx} {s:List K} {fr:Fr} {A:List Ch} {ops:Array Oper} {S:World→Prop} {fuel:Nat} {listed:Array Bool}
theorem krw (i:Nat) (c:Int) {m:Int} {d:Nat} {o:Op} {ty:TypeId} {pos:String} {after:Array Edge} (k:TS E n X s S ops fuel (listed.setIfInBounds i true) ((d,I c) :: fr) A) (hi:ops[i]? = some ⟨some d,o,ty,pos,after,none⟩:=by rfl) (hv:evOp E fr o = some (.int .i64 (IntKind.i64.wrap m)):=by rfl) (he:m = c:=by first | rfl | assumption | omega) (hb : -9223372036854775808 ≤ m∧m ≤ 9223372036854775807:=by omega) (hs:Region.noSelect ops = true:=by kernel_rfl) (hf:Region.free .any ops listed i = true:=by kernel_rfl)
  (hr:(Region.ready .any ops listed).contains i = true:=by kernel_rfl) (hnd:noDef ops = true:=by kernel_rfl) (hd:Nat.blt d n.n = true:=by rfl) (hab:∀ w ρ,(⟨some d,o,ty,pos,after,none⟩ : Oper).about P w ρ = none:=by exact fun _ _=>rfl):TS E n X s S ops (fuel + 1) listed fr A:=
 kr i (fun _ _=>by subst he;exact R_wrap (R_auto hv) hb) k hi hs hf hr hnd hd hab
end
structure NxM where
 c23:Nat
 m1:Value
 m2:Value
 gg:ShG
theorem inv_mk (u:Nat):mkRat ((1:Nat):Int) u = 1 / (u:Rat):=by rw [Rat.mkRat_eq_div];rfl
attribute [local irreducible] Fit pt own ro vw mpc lpt vels rels mow lrc dfr
attribute [local irreducible] lmp lme mit velg relg bnd owl dfrl gow shB
abbrev TSh:TypeId:=191
abbrev TPl:TypeId:=85
set_option maxHeartbeats 1000000 in
theorem nxt_tr (tv gv:Value) (htv:tv.oneCell' = true) (hgv:gv.oneCell' = true) (t:List Int) (k u n E B:Nat) (xs:List Rat) (hs:List HV) (hz:solE t k = 0) (hk:k ≤ 40) (hl:t.length ≤ 12) (hn:n ≤ 12) (hu1:1 ≤ u) (hu:u ≤ k)
  (hlen:hs.length = xs.length) (hsu:Supp n xs) (hlv:Lv n E xs) (htot:tot n xs ≤ 1) (hE:E ≠ 0) (hBd:E * ((fT t k u).den ^ n * u ^ n) < 18446744073709551616 ^ B) (hB0:B ≤ 8589934592) :
  Tr Tryz.prog 107 [gV n gv,tv,I k,I u] [vw tv (Is t),vwf gv ((n + 1) * (n + 1)) (rcs xs hs),vfr hs xs] [] (GR n (nextR (fT t k u) (1 / (u:Rat)) n xs)):=by
 have hf:=(fT_ch hz hu1 hu).1
 have hg:=one_over (u:=u) (by omega)
 have hEB:E < 18446744073709551616 ^ B:=Nat.lt_of_le_of_lt (Nat.le_mul_of_pos_right _ (Nat.pos_of_ne_zero (Nat.mul_ne_zero (Nat.ne_of_gt (Nat.pow_pos (Nat.pos_of_ne_zero hf.nz))) (Nat.ne_of_gt (Nat.pow_pos (by omega)))))) hBd
 have hnx:=fun i a b h1 h2 h3 h4 h5=>nx_facts (i:=i) (a:=a) (b:=b) hf hg hsu hlv htot hE hBd h1 h2 h3 h4 h5
 have hyF:=fun i hi=>(y_FB (i:=i) hlv htot hE hEB hi).le hB0
 have hsF:=fun i a hi h ha=>s_FB (i:=i) (a:=a) hf (show u ≠ 0 by omega) hsu hE hBd hi h ha
 have hpf:=PwB_of hf (fT_lt hz hk hl hu1 hu) (by decide)
 have hpg:=PwB_of (B:=1) hg (by have:=(solE_zero hz).1;omega) (by decide)
 have hFf:FB (fT t k u) 8589934592:=by have:=hpf.hp 1 (by decide);rwa [show fT t k u ^ 1 = fT t k u by rw [Rat.pow_succ,Rat.pow_zero,Rat.one_mul]] at this
 have hFg:FB (1 / (u:Rat)) 8589934592:=by have:=hpg.hp 1 (by decide);rwa [show (1 / (u:Rat)) ^ 1 = 1 / (u:Rat) by rw [Rat.pow_succ,Rat.pow_zero,Rat.one_mul]] at this
 have hFree:=Free_tr tv htv t k u hz hk hl hu1 hu
 have hPair:=FPair_tr 1 u (by decide) (by omega) (by omega)
 rw [inv_mk] at hPair
 have hW:=whole_tr 0 (by decide)
 rw [zero_mk] at hW
 have hM:=fun z1 z2 h1 h2=>made_tr n _ 0 z1 z2 h1 h2 rfl hn
 have hSf:=fun v1 v2 h1 h2=>shares_tr (fT t k u) (v1,v2) h1 h2 hFf
 have hSg:=fun v1 v2 h1 h2=>shares_tr (1 / (u:Rat)) (v1,v2) h1 h2 hFg
 have hql:xs.length = (n + 1) * (n + 1):=hlv.len
 have hPl:=places_tr n gv hgv
 unfold FQ2 at hFree hPair
 unfold FQ at hW
 dsimp only at hSf hSg
 have e0:((0:Nat):Int) = 0:=rfl
 have e1:((1:Nat):Int) = 1:=rfl
 rw [e0] at hW
 rw [e1] at hPair
 clear hz hsu htot hBd hEB hf hg hFf hFg hE hlv
 generalize fT t k u = f at *
 generalize 1 / (u:Rat) = g at *
 obtain ⟨o,ho⟩ : ∃ o:Rat,o = 0:=⟨_,rfl⟩
 rw [← ho] at hW hM
 refine Tr.enterM env _ Tryz.func107 (by kernel_rfl) rfl Tryz.ntmps107 rfl (by repeat (first | exact has00 | refine has01 ?_)) fun w0=>?_
 refine TC.fact (fun w hw i hi=>fr_one (hs:=hs) (qs:=xs) hasA hlen (i:=i) hi w hw) fun hone=>?_
 repeat' first|refine bx fun c4=>?_|refine al fun c8=>?_|refine sq ?_|refine rg ?_|refine xc ?_|refine nl ?_
 refine cutY (ι:=NxC) (fun x=>x.v.oneCell' = true∧x.z.1.oneCell' = true∧x.z.2.oneCell' = true) (fun x=>[(1,tv),(2,I k),(3,I u),(4,ptr c4),(8,ptr c8),(9,ptr x.c9)]) (fun x=>[pt x.c9 [I n,x.v] TGr,oww TRt 3 x.v ((n + 1) * (n + 1)) (rcs (List.replicate ((n + 1) * (n + 1)) o) (List.replicate ((n + 1) * (n + 1)) x.z)),own T64 x.z.1 (Us (dg o.num.natAbs)),own T64 x.z.2 (Us (dg o.den)),pt c8 [I 0,nS] TGr,pt c4 [I n,gv] TGr,vw tv (Is t),vwf gv ((n + 1) * (n + 1)) (rcs xs hs),vfr hs xs]) ?_ ?_
 rotate_left
 ·intro b' kb
  refine rs (fun w'=>w'.heap[c4]? = some (.cells [I n,gv].toArray TGr (0,0))) ?_ (fun w' hw=>pt_at memA hw)
  refine tka 0 ?_
  refine tkl 1 (cs:=[I n,gv]) (fun w' h=>h) ?_
  refine t2 2 4 ?_ ?_
  ·refine ca hW ?_
   rintro _ _ ⟨z1,z2,rfl,hz1,hz2,rfl⟩
   refine nl ?_
   refine te (fun w' hw=>pt_at memA hw) ?_
   refine t2 3 4 ?_ ?_
   ·refine ca (hM z1 z2 hz1 hz2) ?_
    rintro _ _ ⟨v,rfl,hv,rfl⟩
    refine nl ?_
    refine te (fun w' hw=>pt_at memA hw) ?_
    refine t1 4 ?_
    refine al fun c9=>?_
    refine nl ?_
    refine te (fun w' hw=>pt_at memA hw) ?_
    refine t1 5 ?_
    refine srz ?_
    refine nl ?_
    refine te (fun w' hw=>pt_at memA hw) ?_
    refine t0 ?_
    repeat' first|refine xc ?_
    exact kb ⟨v,(z1,z2),c9⟩ ⟨hv,hz1,hz2⟩ _ _ (by (repeat (refine Sub.cons rfl (by first | rfl | go_num) ?_));exact Sub.nil) fitA
   ·refine al fun c9=>?_
    refine nl ?_
    refine te (fun w' hw=>pt_at memA hw) ?_
    refine t1 3 ?_
    refine ca (hM z1 z2 hz1 hz2) ?_
    rintro _ _ ⟨v,rfl,hv,rfl⟩
    refine nl ?_
    refine te (fun w' hw=>pt_at memA hw) ?_
    refine t1 5 ?_
    refine srz ?_
    refine nl ?_
    refine te (fun w' hw=>pt_at memA hw) ?_
    refine t0 ?_
    repeat' first|refine xc ?_
    exact kb ⟨v,(z1,z2),c9⟩ ⟨hv,hz1,hz2⟩ _ _ (by (repeat (refine Sub.cons rfl (by first | rfl | go_num) ?_));exact Sub.nil) fitA
  ·refine al fun c9=>?_
   refine nl ?_
   refine te (fun w' hw=>pt_at memA hw) ?_
   refine t1 2 ?_
   refine ca hW ?_
   rintro _ _ ⟨z1,z2,rfl,hz1,hz2,rfl⟩
   refine nl ?_
   refine te (fun w' hw=>pt_at memA hw) ?_
   refine t1 3 ?_
   refine ca (hM z1 z2 hz1 hz2) ?_
   rintro _ _ ⟨v,rfl,hv,rfl⟩
   refine nl ?_
   refine te (fun w' hw=>pt_at memA hw) ?_
   refine t1 5 ?_
   refine srz ?_
   refine nl ?_
   refine te (fun w' hw=>pt_at memA hw) ?_
   refine t0 ?_
   repeat' first|refine xc ?_
   exact kb ⟨v,(z1,z2),c9⟩ ⟨hv,hz1,hz2⟩ _ _ (by (repeat (refine Sub.cons rfl (by first | rfl | go_num) ?_));exact Sub.nil) fitA
 rintro ⟨v,⟨z1,z2⟩,c9⟩ ⟨hv,hz1,hz2⟩
 dsimp only at hv hz1 hz2 ⊢
 clear hW hM
 repeat' first|(refine gca ?_;first|(refine ca hFree ?_;rintro _ _ ⟨f1,f2,rfl,hf1,hf2,rfl⟩)|(refine ca hPair ?_;rintro _ _ ⟨y1,y2,rfl,hy1,hy2,rfl⟩))|refine al fun c=>?_|refine srz ?_|(refine wo ?_;first|refine oa ?_)|refine sq ?_|refine rg ?_|refine xc ?_|refine nl ?_
 rename_i c10
 refine cutY (ι:=NxD) (fun x=>ShOk x.cf x.gf∧ShOk x.cg x.gg) (fun x=>[(4,ptr c4),(8,ptr c8),(9,ptr c9),(14,ptr x.c14),(15,ptr x.c15)]) (fun x=>[pt x.c14 [shV x.cf] TSh,pt x.c15 [shV x.cg] TSh,shB x.cf f (f1,f2) x.gf,shB x.cg g (y1,y2) x.gg,own T64 f1 (Us (dg f.num.natAbs)),own T64 f2 (Us (dg f.den)),own T64 y1 (Us (dg g.num.natAbs)),own T64 y2 (Us (dg g.den)),pt c9 [I n,v] TGr,oww TRt 3 v ((n + 1) * (n + 1)) (rcs (List.replicate ((n + 1) * (n + 1)) o) (List.replicate ((n + 1) * (n + 1)) (z1,z2))),own T64 z1 (Us (dg o.num.natAbs)),own T64 z2 (Us (dg o.den)),pt c8 [I 0,nS] TGr,pt c4 [I n,gv] TGr,vwf gv ((n + 1) * (n + 1)) (rcs xs hs),vfr hs xs]) ?_ ?_
 rotate_left
 ·intro b' kb
  refine rs (fun w'=>w'.heap[c10]? = some (.cells (rrow f (f1,f2)).toArray TRt (0,0))∧w'.heap[c]? = some (.cells (rrow g (y1,y2)).toArray TRt (0,0))) ?_ (fun w' hw=>⟨pt_at memA hw,pt_at memA hw⟩)
  refine tk 0 (v:=.agg (rrow f (f1,f2)).toArray) (fun w' h=>R_loadA (E:=env) (vs:=rrow f (f1,f2)) rfl rfl rfl rfl h.1 rfl rfl) ?_
  refine tk 2 (v:=.agg (rrow g (y1,y2)).toArray) (fun w' h=>R_loadA (E:=env) (vs:=rrow g (y1,y2)) rfl rfl rfl rfl h.2 rfl rfl) ?_
  refine t3 1 4 5 ?_ ?_ ?_
  ·refine ca (hSf f1 f2 hf1 hf2) ?_
   rintro _ _ ⟨cf,gf,rfl,hgf,rfl⟩
   refine nl ?_
   refine te (fun w' hw=>⟨pt_at memA hw,pt_at memA hw⟩) ?_
   refine t3 3 4 5 ?_ ?_ ?_
   ·refine ca (hSg y1 y2 hy1 hy2) ?_
    rintro _ _ ⟨cg,gg,rfl,hgg,rfl⟩
    refine nl ?_
    refine te (fun w' hw=>⟨pt_at memA hw,pt_at memA hw⟩) ?_
    refine t2 4 5 ?_ ?_
    ·refine al fun c14=>?_
     refine nl ?_
     refine te (fun w' hw=>⟨pt_at memA hw,pt_at memA hw⟩) ?_
     refine t1 5 ?_
     refine al fun c15=>?_
     refine nl ?_
     refine te (fun w' hw=>⟨pt_at memA hw,pt_at memA hw⟩) ?_
     refine t1 6 ?_
     refine sr ?_
     refine nl ?_
     refine te (fun w' hw=>⟨pt_at memA hw,pt_at memA hw⟩) ?_
     refine t1 7 ?_
     refine sr ?_
     refine nl ?_
     refine te (fun w' hw=>⟨pt_at memA hw,pt_at memA hw⟩) ?_
     refine t0 ?_
     repeat' first|refine xc ?_
     exact kb ⟨c14,c15,cf,cg,gf,gg⟩ ⟨hgf,hgg⟩ _ _ (by (repeat (refine Sub.cons rfl (by first | rfl | go_num) ?_));exact Sub.nil) fitA
    ·refine al fun c15=>?_
     refine nl ?_
     refine te (fun w' hw=>⟨pt_at memA hw,pt_at memA hw⟩) ?_
     refine t1 4 ?_
     refine al fun c14=>?_
     refine nl ?_
     refine te (fun w' hw=>⟨pt_at memA hw,pt_at memA hw⟩) ?_
     refine t1 6 ?_
     refine sr ?_
     refine nl ?_
     refine te (fun w' hw=>⟨pt_at memA hw,pt_at memA hw⟩) ?_
     refine t1 7 ?_
     refine sr ?_
     refine nl ?_
     refine te (fun w' hw=>⟨pt_at memA hw,pt_at memA hw⟩) ?_
     refine t0 ?_
     repeat' first|refine xc ?_
     exact kb ⟨c14,c15,cf,cg,gf,gg⟩ ⟨hgf,hgg⟩ _ _ (by (repeat (refine Sub.cons rfl (by first | rfl | go_num) ?_));exact Sub.nil) fitA
   ·refine al fun c14=>?_
    refine nl ?_
    refine te (fun w' hw=>⟨pt_at memA hw,pt_at memA hw⟩) ?_
    refine t2 3 5 ?_ ?_
    ·refine ca (hSg y1 y2 hy1 hy2) ?_
     rintro _ _ ⟨cg,gg,rfl,hgg,rfl⟩
     refine nl ?_
     refine te (fun w' hw=>⟨pt_at memA hw,pt_at memA hw⟩) ?_
     refine t1 5 ?_
     refine al fun c15=>?_
     refine nl ?_
     refine te (fun w' hw=>⟨pt_at memA hw,pt_at memA hw⟩) ?_
     refine t1 6 ?_
     refine sr ?_
     refine nl ?_
     refine te (fun w' hw=>⟨pt_at memA hw,pt_at memA hw⟩) ?_
     refine t1 7 ?_
     refine sr ?_
     refine nl ?_
     refine te (fun w' hw=>⟨pt_at memA hw,pt_at memA hw⟩) ?_
     refine t0 ?_
     repeat' first|refine xc ?_
     exact kb ⟨c14,c15,cf,cg,gf,gg⟩ ⟨hgf,hgg⟩ _ _ (by (repeat (refine Sub.cons rfl (by first | rfl | go_num) ?_));exact Sub.nil) fitA
    ·refine al fun c15=>?_
     refine nl ?_
     refine te (fun w' hw=>⟨pt_at memA hw,pt_at memA hw⟩) ?_
     refine t1 3 ?_
     refine ca (hSg y1 y2 hy1 hy2) ?_
     rintro _ _ ⟨cg,gg,rfl,hgg,rfl⟩
     refine nl ?_
     refine te (fun w' hw=>⟨pt_at memA hw,pt_at memA hw⟩) ?_
     refine t1 6 ?_
     refine sr ?_
     refine nl ?_
     refine te (fun w' hw=>⟨pt_at memA hw,pt_at memA hw⟩) ?_
     refine t1 7 ?_
     refine sr ?_
     refine nl ?_
     refine te (fun w' hw=>⟨pt_at memA hw,pt_at memA hw⟩) ?_
     refine t0 ?_
     repeat' first|refine xc ?_
     exact kb ⟨c14,c15,cf,cg,gf,gg⟩ ⟨hgf,hgg⟩ _ _ (by (repeat (refine Sub.cons rfl (by first | rfl | go_num) ?_));exact Sub.nil) fitA
   ·refine al fun c15=>?_
    refine nl ?_
    refine te (fun w' hw=>⟨pt_at memA hw,pt_at memA hw⟩) ?_
    refine t2 3 4 ?_ ?_
    ·refine ca (hSg y1 y2 hy1 hy2) ?_
     rintro _ _ ⟨cg,gg,rfl,hgg,rfl⟩
     refine nl ?_
     refine te (fun w' hw=>⟨pt_at memA hw,pt_at memA hw⟩) ?_
     refine t1 4 ?_
     refine al fun c14=>?_
     refine nl ?_
     refine te (fun w' hw=>⟨pt_at memA hw,pt_at memA hw⟩) ?_
     refine t1 6 ?_
     refine sr ?_
     refine nl ?_
     refine te (fun w' hw=>⟨pt_at memA hw,pt_at memA hw⟩) ?_
     refine t1 7 ?_
     refine sr ?_
     refine nl ?_
     refine te (fun w' hw=>⟨pt_at memA hw,pt_at memA hw⟩) ?_
     refine t0 ?_
     repeat' first|refine xc ?_
     exact kb ⟨c14,c15,cf,cg,gf,gg⟩ ⟨hgf,hgg⟩ _ _ (by (repeat (refine Sub.cons rfl (by first | rfl | go_num) ?_));exact Sub.nil) fitA
    ·refine al fun c14=>?_
     refine nl ?_
     refine te (fun w' hw=>⟨pt_at memA hw,pt_at memA hw⟩) ?_
     refine t1 3 ?_
     refine ca (hSg y1 y2 hy1 hy2) ?_
     rintro _ _ ⟨cg,gg,rfl,hgg,rfl⟩
     refine nl ?_
     refine te (fun w' hw=>⟨pt_at memA hw,pt_at memA hw⟩) ?_
     refine t1 6 ?_
     refine sr ?_
     refine nl ?_
     refine te (fun w' hw=>⟨pt_at memA hw,pt_at memA hw⟩) ?_
     refine t1 7 ?_
     refine sr ?_
     refine nl ?_
     refine te (fun w' hw=>⟨pt_at memA hw,pt_at memA hw⟩) ?_
     refine t0 ?_
     repeat' first|refine xc ?_
     exact kb ⟨c14,c15,cf,cg,gf,gg⟩ ⟨hgf,hgg⟩ _ _ (by (repeat (refine Sub.cons rfl (by first | rfl | go_num) ?_));exact Sub.nil) fitA
  ·refine al fun c14=>?_
   refine nl ?_
   refine te (fun w' hw=>⟨pt_at memA hw,pt_at memA hw⟩) ?_
   refine t2 1 5 ?_ ?_
   ·refine ca (hSf f1 f2 hf1 hf2) ?_
    rintro _ _ ⟨cf,gf,rfl,hgf,rfl⟩
    refine nl ?_
    refine te (fun w' hw=>⟨pt_at memA hw,pt_at memA hw⟩) ?_
    refine t2 3 5 ?_ ?_
    ·refine ca (hSg y1 y2 hy1 hy2) ?_
     rintro _ _ ⟨cg,gg,rfl,hgg,rfl⟩
     refine nl ?_
     refine te (fun w' hw=>⟨pt_at memA hw,pt_at memA hw⟩) ?_
     refine t1 5 ?_
     refine al fun c15=>?_
     refine nl ?_
     refine te (fun w' hw=>⟨pt_at memA hw,pt_at memA hw⟩) ?_
     refine t1 6 ?_
     refine sr ?_
     refine nl ?_
     refine te (fun w' hw=>⟨pt_at memA hw,pt_at memA hw⟩) ?_
     refine t1 7 ?_
     refine sr ?_
     refine nl ?_
     refine te (fun w' hw=>⟨pt_at memA hw,pt_at memA hw⟩) ?_
     refine t0 ?_
     repeat' first|refine xc ?_
     exact kb ⟨c14,c15,cf,cg,gf,gg⟩ ⟨hgf,hgg⟩ _ _ (by (repeat (refine Sub.cons rfl (by first | rfl | go_num) ?_));exact Sub.nil) fitA
    ·refine al fun c15=>?_
     refine nl ?_
     refine te (fun w' hw=>⟨pt_at memA hw,pt_at memA hw⟩) ?_
     refine t1 3 ?_
     refine ca (hSg y1 y2 hy1 hy2) ?_
     rintro _ _ ⟨cg,gg,rfl,hgg,rfl⟩
     refine nl ?_
     refine te (fun w' hw=>⟨pt_at memA hw,pt_at memA hw⟩) ?_
     refine t1 6 ?_
     refine sr ?_
     refine nl ?_
     refine te (fun w' hw=>⟨pt_at memA hw,pt_at memA hw⟩) ?_
     refine t1 7 ?_
     refine sr ?_
     refine nl ?_
     refine te (fun w' hw=>⟨pt_at memA hw,pt_at memA hw⟩) ?_
     refine t0 ?_
     repeat' first|refine xc ?_
     exact kb ⟨c14,c15,cf,cg,gf,gg⟩ ⟨hgf,hgg⟩ _ _ (by (repeat (refine Sub.cons rfl (by first | rfl | go_num) ?_));exact Sub.nil) fitA
   ·refine al fun c15=>?_
    refine nl ?_
    refine te (fun w' hw=>⟨pt_at memA hw,pt_at memA hw⟩) ?_
    refine t1 1 ?_
    refine ca (hSf f1 f2 hf1 hf2) ?_
    rintro _ _ ⟨cf,gf,rfl,hgf,rfl⟩
    refine nl ?_
    refine te (fun w' hw=>⟨pt_at memA hw,pt_at memA hw⟩) ?_
    refine t1 3 ?_
    refine ca (hSg y1 y2 hy1 hy2) ?_
    rintro _ _ ⟨cg,gg,rfl,hgg,rfl⟩
    refine nl ?_
    refine te (fun w' hw=>⟨pt_at memA hw,pt_at memA hw⟩) ?_
    refine t1 6 ?_
    refine sr ?_
    refine nl ?_
    refine te (fun w' hw=>⟨pt_at memA hw,pt_at memA hw⟩) ?_
    refine t1 7 ?_
    refine sr ?_
    refine nl ?_
    refine te (fun w' hw=>⟨pt_at memA hw,pt_at memA hw⟩) ?_
    refine t0 ?_
    repeat' first|refine xc ?_
    exact kb ⟨c14,c15,cf,cg,gf,gg⟩ ⟨hgf,hgg⟩ _ _ (by (repeat (refine Sub.cons rfl (by first | rfl | go_num) ?_));exact Sub.nil) fitA
  ·refine al fun c15=>?_
   refine nl ?_
   refine te (fun w' hw=>⟨pt_at memA hw,pt_at memA hw⟩) ?_
   refine t2 1 4 ?_ ?_
   ·refine ca (hSf f1 f2 hf1 hf2) ?_
    rintro _ _ ⟨cf,gf,rfl,hgf,rfl⟩
    refine nl ?_
    refine te (fun w' hw=>⟨pt_at memA hw,pt_at memA hw⟩) ?_
    refine t2 3 4 ?_ ?_
    ·refine ca (hSg y1 y2 hy1 hy2) ?_
     rintro _ _ ⟨cg,gg,rfl,hgg,rfl⟩
     refine nl ?_
     refine te (fun w' hw=>⟨pt_at memA hw,pt_at memA hw⟩) ?_
     refine t1 4 ?_
     refine al fun c14=>?_
     refine nl ?_
     refine te (fun w' hw=>⟨pt_at memA hw,pt_at memA hw⟩) ?_
     refine t1 6 ?_
     refine sr ?_
     refine nl ?_
     refine te (fun w' hw=>⟨pt_at memA hw,pt_at memA hw⟩) ?_
     refine t1 7 ?_
     refine sr ?_
     refine nl ?_
     refine te (fun w' hw=>⟨pt_at memA hw,pt_at memA hw⟩) ?_
     refine t0 ?_
     repeat' first|refine xc ?_
     exact kb ⟨c14,c15,cf,cg,gf,gg⟩ ⟨hgf,hgg⟩ _ _ (by (repeat (refine Sub.cons rfl (by first | rfl | go_num) ?_));exact Sub.nil) fitA
    ·refine al fun c14=>?_
     refine nl ?_
     refine te (fun w' hw=>⟨pt_at memA hw,pt_at memA hw⟩) ?_
     refine t1 3 ?_
     refine ca (hSg y1 y2 hy1 hy2) ?_
     rintro _ _ ⟨cg,gg,rfl,hgg,rfl⟩
     refine nl ?_
     refine te (fun w' hw=>⟨pt_at memA hw,pt_at memA hw⟩) ?_
     refine t1 6 ?_
     refine sr ?_
     refine nl ?_
     refine te (fun w' hw=>⟨pt_at memA hw,pt_at memA hw⟩) ?_
     refine t1 7 ?_
     refine sr ?_
     refine nl ?_
     refine te (fun w' hw=>⟨pt_at memA hw,pt_at memA hw⟩) ?_
     refine t0 ?_
     repeat' first|refine xc ?_
     exact kb ⟨c14,c15,cf,cg,gf,gg⟩ ⟨hgf,hgg⟩ _ _ (by (repeat (refine Sub.cons rfl (by first | rfl | go_num) ?_));exact Sub.nil) fitA
   ·refine al fun c14=>?_
    refine nl ?_
    refine te (fun w' hw=>⟨pt_at memA hw,pt_at memA hw⟩) ?_
    refine t1 1 ?_
    refine ca (hSf f1 f2 hf1 hf2) ?_
    rintro _ _ ⟨cf,gf,rfl,hgf,rfl⟩
    refine nl ?_
    refine te (fun w' hw=>⟨pt_at memA hw,pt_at memA hw⟩) ?_
    refine t1 3 ?_
    refine ca (hSg y1 y2 hy1 hy2) ?_
    rintro _ _ ⟨cg,gg,rfl,hgg,rfl⟩
    refine nl ?_
    refine te (fun w' hw=>⟨pt_at memA hw,pt_at memA hw⟩) ?_
    refine t1 6 ?_
    refine sr ?_
    refine nl ?_
    refine te (fun w' hw=>⟨pt_at memA hw,pt_at memA hw⟩) ?_
    refine t1 7 ?_
    refine sr ?_
    refine nl ?_
    refine te (fun w' hw=>⟨pt_at memA hw,pt_at memA hw⟩) ?_
    refine t0 ?_
    repeat' first|refine xc ?_
    exact kb ⟨c14,c15,cf,cg,gf,gg⟩ ⟨hgf,hgg⟩ _ _ (by (repeat (refine Sub.cons rfl (by first | rfl | go_num) ?_));exact Sub.nil) fitA
 rintro ⟨c14,c15,cf,cg,gf,gg⟩ ⟨hgf,hgg⟩
 dsimp only at hgf hgg ⊢
 clear hSf hSg hFree hPair
 repeat' first|(refine gca ?_;first|(refine ca hPl ?_;rintro _ _ ⟨bp,rfl,rfl⟩))|refine lda (cs:=[I n,gv]) ?_|refine sq ?_|refine rg ?_|refine xc ?_|refine nl ?_|refine bk ?_
 subst ho
 refine TC.im (gow_none _ ((n + 1) * (n + 1)) (List.replicate ((n + 1) * (n + 1)) 0)) ?_
 rw [← outN_zero n f g xs,← hsE_none (z1,z2)]
 have hrun:=@SeqP.run _ _ _ _ _ _ _ (places1_seq bp n gv xs hs hlen hql hn hone)
 clear hPl
 refine TC.range [lbd [lpt c14 [shV cf] TSh,lpt c15 [shV cg] TSh,vw f1 (Us (dg f.num.natAbs)),vw f2 (Us (dg f.den)),vw y1 (Us (dg g.num.natAbs)),vw y2 (Us (dg g.den)),lpt c9 [I n,v] TGr,vw z1 (Us (dg (0:Rat).num.natAbs)),vw z2 (Us (dg (0:Rat).den)),vfr hs xs],lbd [lpt bp [I n,gv] TGr,vwf gv ((n + 1) * (n + 1)) (rcs xs hs)]] [oww TRt 3 v ((n + 1) * (n + 1)) (rcs (outN n f g xs 0) (hsE (z1,z2) (List.replicate ((n + 1) * (n + 1)) none))),gow (List.replicate ((n + 1) * (n + 1)) none) (outN n f g xs 0),shB cf f (f1,f2) gf,shB cg g (y1,y2) gg] (fun l2 rec Dm pend B'=>∃ s:NxS,B' = [dfr Dm,oww TRt 3 v ((n + 1) * (n + 1)) (rcs (outN n f g xs ((n + 1) * (n + 1))) (hsE (z1,z2) s.es)),gow s.es (outN n f g xs ((n + 1) * (n + 1))),shB cf f (f1,f2) s.gf,shB cg g (y1,y2) s.gg]∧pend = none∧Grd n s.es (outN n f g xs ((n + 1) * (n + 1)))) ?_ ?_ (hp:=has1 (lbd_of (by repeat (first | exact has0 | refine has1 hasA ?_))) (has1 (lbd_of (has1 hasA (has1 hasA has0))) has0))
 ·intro rec l2 Dm hr
  refine Tr.unb (hrun (α:=NxS) (lbd [lpt c14 [shV cf] TSh,lpt c15 [shV cg] TSh,vw f1 (Us (dg f.num.natAbs)),vw f2 (Us (dg f.den)),vw y1 (Us (dg g.num.natAbs)),vw y2 (Us (dg g.den)),lpt c9 [I n,v] TGr,vw z1 (Us (dg (0:Rat).num.natAbs)),vw z2 (Us (dg (0:Rat).den)),vfr hs xs]) l2 (fun s=>bnd [lrc l2 rec .ready none,dfr Dm,oww TRt 3 v ((n + 1) * (n + 1)) (rcs (outN n f g xs s.i) (hsE (z1,z2) s.es)),gow s.es (outN n f g xs s.i),shB cf f (f1,f2) s.gf,shB cg g (y1,y2) s.gg]) (fun s i=>s.i = i∧Grd n s.es (outN n f g xs i)∧ShOk cf s.gf∧ShOk cg s.gg) (fun _=>False) ⟨0,List.replicate ((n + 1) * (n + 1)) none,gf,gg⟩ ⟨rfl,Grd.none n,hgf,hgg⟩ (fun p=>bnd_nob (by repeat (first | exact nb0 | refine nb1 ?_))) ?_) ?_
  ·rintro ⟨i,es,gf,gg⟩ j ⟨hji,hgr,hgf,hgg⟩ hj
   dsimp only at hji hgr hgf hgg
   subst hji
   refine Ty.bnd ?_
   refine Ty.pre (pre:=[lpt c14 [shV cf] TSh,lpt c15 [shV cg] TSh,vw f1 (Us (dg f.num.natAbs)),vw f2 (Us (dg f.den)),vw y1 (Us (dg g.num.natAbs)),vw y2 (Us (dg g.den)),lpt c9 [I n,v] TGr,vw z1 (Us (dg (0:Rat).num.natAbs)),vw z2 (Us (dg (0:Rat).den)),vfr hs xs]) ?_ (has_lbds (C:=[lpt c14 [shV cf] TSh,lpt c15 [shV cg] TSh,vw f1 (Us (dg f.num.natAbs)),vw f2 (Us (dg f.den)),vw y1 (Us (dg g.num.natAbs)),vw y2 (Us (dg g.den)),lpt c9 [I n,v] TGr,vw z1 (Us (dg (0:Rat).num.natAbs)),vw z2 (Us (dg (0:Rat).den)),vfr hs xs]) (List.Mem.head _) _ (by repeat (first | exact has00 | refine has01 ?_)) fun c hc=>hc) (by repeat (first | exact has00 | refine has01 ?_))
   refine Ty.intro env hr (by repeat (first | exact has00 | refine has01 ?_)) fun w1=>?_
   have hF1:=(hyF i hj)
   have hgot:=fun (F:List Ch) (h:vfr hs xs ∈ F)=>has_fr (has_mem h) hlen (i:=i) (by rw [hql];exact hj)
   have hskip:=fun h=>outN_skip (n:=n) (f:=f) (g:=g) (x:=xs) (i:=i) h
   have hstep:=fun h=>outN_step (n:=n) (f:=f) (g:=g) (x:=xs) (i:=i) h
   have hSF:=fun h a ha=>hsF i a hj h ha
   have hXF:∀ a b,¬ (i % (n + 1) = 0∨xs.getD i 0 = 0)→a ≤ i / (n + 1)→¬ shar f (i / (n + 1)) a = 0→b < i % (n + 1)→(FB (shar g (i % (n + 1) - 1) b) B∧FB (xs.getD i 0 * shar f (i / (n + 1)) a) B∧FB (xs.getD i 0 * shar f (i / (n + 1)) a * shar g (i % (n + 1) - 1) b) B)∧∀ j,j < (n + 1) * (n + 1)→FB ((outB n f g (xs.getD i 0) (i / (n + 1)) (i % (n + 1)) a (outA n f g (xs.getD i 0) (i / (n + 1)) (i % (n + 1)) (outN n f g xs i) a) b).getD j 0) B:=fun a b h1 h2 h3 h4=>by
    have h:=hnx i a b hj h1 h2 h3 h4
    exact ⟨⟨h.sg,h.ys,h.p⟩,h.o⟩
   have hx1:(hs.getD i nS2).1.oneCell' = true∧(hs.getD i nS2).2.oneCell' = true:=hone i (by rw [hql];exact hj)
   clear hyF hsF hnx hrun hone
   generalize i / (n + 1) = c at *
   generalize i % (n + 1) = r at *
   generalize xs.getD i 0 = y at *
   generalize hs.getD i nS2 = hx at *
   obtain ⟨x1,x2⟩:=hx
   dsimp only at hx1 hgot
   obtain ⟨hx1,hx2⟩:=hx1
   have hSome:=some_tr y x1 x2 hx1 (by have:=hF1.1;omega)
   repeat' first|refine al fun c17=>?_|refine srz ?_ (hj:=Nat.le_of_ble_eq_true rfl)|refine xbeg ?_|refine sq ?_|refine rg ?_|refine xc ?_|refine nl ?_|refine bk ?_
   rename_i c16
   refine rs (fun w'=>w'.heap[c16]? = some (.cells [I c,I r].toArray TPl (0,0))) ?_ (fun w' hw=>pt_at memA hw)
   refine kr 0 (v:=.pointer (some ⟨c16,0,none⟩)) (fun w' h=>R_ixa (E:=env) (m:=2) (i:=0) rfl rfl rfl rfl (by decide)) ?_
   refine krl 1 (cs:=[I c,I r]) (fun w' h=>h) ?_
   refine kr 2 (v:=.pointer (some ⟨c16,1,none⟩)) (fun w' h=>R_ixa (E:=env) (m:=2) (i:=1) rfl rfl rfl rfl (by decide)) ?_
   refine krl 3 (cs:=[I c,I r]) (fun w' h=>h) ?_
   refine kra 4 ?_
   refine kra 5 ?_
   refine t0 ?_
   refine id ?_
   by_cases hr0:r = 0
   ·rw [← hskip (.inl hr0)] at hgr ⊢
    repeat' first|(refine wo ?_;first|(refine ao ?_;first|refine oa ?_)|refine oa ?_|refine gn ?_|(refine gsi (fun hB=>?_) (fun hB=>?_) <;> try (exfalso;omega)))|(refine gc ?_;first|refine ct ?_)|refine sq ?_|refine rg ?_|refine xc ?_|refine nl ?_|refine xe ?_
    exact yn ⟨⟨i + 1,es,gf,gg⟩,rfl,.inl ⟨rfl,rfl,hgr,hgf,hgg⟩⟩
   by_cases hy0:y = 0
   ·rw [← hskip (.inr hy0)] at hgr ⊢
    rw [show decide (y ≠ 0) = false from decide_eq_false fun h=>h hy0] at hSome
    repeat' first|(refine gca ?_;first|(refine ca hSome ?_ (hp:=has1 (hgot _ memA).1 has0);rintro _ _ ⟨rfl,rfl⟩))|refine lda (cs:=rrow y (x1,x2)) ?_|(refine wo ?_;first|(refine ao ?_;first|refine oa ?_)|refine oa ?_|refine gy ?_|(refine gsi (fun hB=>?_) (fun hB=>?_) <;> try (exfalso;omega)))|(refine gc ?_;first|refine ct ?_)|refine sq ?_|refine rg ?_|refine xc ?_|refine nl ?_|refine xe ?_
    exact yn ⟨⟨i + 1,es,gf,gg⟩,rfl,.inl ⟨rfl,rfl,hgr,hgf,hgg⟩⟩
   have hne:¬ (r = 0∨y = 0):=by rintro (h | h);exact hr0 h;exact hy0 h
   rw [show decide (y ≠ 0) = true from decide_eq_true hy0] at hSome
   have hst:=hstep hne
   have hSF:=hSF hne
   have hXF:=fun a b=>hXF a b hne
   have hcr:c + r ≤ n:=(hSF 0 (Nat.zero_le _)).1
   clear hskip hstep
   generalize outN n f g xs i = F0 at *
   repeat' first|(refine gca ?_;first|(refine ca hSome ?_ (hp:=has1 (hgot _ memA).1 has0);rintro _ _ ⟨rfl,rfl⟩))|refine lda (cs:=rrow y (x1,x2)) ?_|(refine wo ?_;first|(refine ao ?_;first|refine aw ?_|refine oa ?_)|refine oa ?_|refine gy ?_|(refine gsi (fun hB=>?_) (fun hB=>?_) <;> try (exfalso;omega)))|(refine gc ?_;first|(refine cb (fun hB=>?_) (fun hB=>?_) <;> try (exfalso;omega)))|refine sq ?_|refine rg ?_|refine xc ?_|refine nl ?_|refine sk ?_|refine bk ?_|refine xe ?_
   ·exact absurd hB (by decide)
   refine TC.loop (ι:=NxS) (fun g'=>[(63,I g'.i)]) (fun g'=>[oww TRt 3 v ((n + 1) * (n + 1)) (rcs (outA n f g y c r F0 g'.i) (hsE (z1,z2) g'.es)),gow g'.es (outA n f g y c r F0 g'.i),shB cf f (f1,f2) g'.gf,shB cg g (y1,y2) g'.gg]) (fun g'=>g'.i ≤ c + 1∧Grd n g'.es (outA n f g y c r F0 g'.i)∧ShOk cf g'.gf∧ShOk cg g'.gg) (fun g'=>c + 1 - g'.i) ⟨0,es,gf,gg⟩ [9,14,15,17,18,19,62] ⟨Nat.zero_le _,hgr,hgf,hgg⟩ ?_ (hf:=by dsimp only;rw [outA_zero];exact fitA)
   clear hgr hgf hgg
   rintro ⟨a,es,gf,gg⟩ ⟨ha,hgr,hgf,hgg⟩
   dsimp only at ha hgr hgf hgg ⊢
   by_cases hac:a < c + 1
   rotate_left
   ·obtain rfl:a = c + 1:=by omega
    rw [← hst] at hgr ⊢
    repeat' first|(refine wo ?_;first|(refine ao ?_;first|refine oa ?_))|(refine gc ?_;first|(refine ci (fun hB=>?_) (fun hB=>?_) <;> try (exfalso;omega)))|refine sq ?_|refine rg ?_|refine xc ?_|refine nl ?_|refine xe ?_|refine xb ?_
    exact yn ⟨⟨i + 1,es,gf,gg⟩,rfl,.inl ⟨rfl,rfl,hgr,hgf,hgg⟩⟩
   have hShf:=share_tr cf f (f1,f2) gf hf1 hf2 hgf hpf c a (by omega) (by omega)
   have hSF1:=(hSF a (by omega)).2
   have hSm2:=fun s1 s2 hs1=>some_tr (shar f c a) s1 s2 hs1 (by have:=hSF1.1;omega)
   have hskA:=fun h=>outA_skip (n:=n) (f:=f) (g:=g) (y:=y) (c:=c) (r:=r) (l:=F0) (a:=a) h
   have hstA:=fun h=>outA_step (n:=n) (f:=f) (g:=g) (y:=y) (c:=c) (r:=r) (l:=F0) (a:=a) h
   have hXF:=fun b h1 h2=>hXF a b (by omega) h1 h2
   clear hSF hst
   obtain ⟨q,hq⟩ : ∃ q,q = shar f c a:=⟨_,rfl⟩
   simp only [← hq] at hShf hSF1 hSm2 hskA hstA hXF
   by_cases hq0:q = 0
   ·rw [show decide (q ≠ 0) = false from decide_eq_false fun h=>h hq0] at hSm2
    rw [← hskA hq0] at hgr ⊢
    repeat' first|(refine gca ?_;first|(refine ca (hSm2 s1 s2 hs1) ?_;rintro _ _ ⟨rfl,rfl⟩))|(refine cav (cap:=#[ptr cf.bq,ptr cf.bp,ptr cf.bl]) (vs:=[I c,I a]) hShf ?_;rintro _ _ ⟨gf',s1,s2,rfl,hs1,hs2,hgf',rfl⟩)|refine al fun c21=>?_|refine srz ?_|refine lda (vs:=rrow q (s1,s2)) ?_|(refine wo ?_;first|(refine ao ?_;first|refine aw ?_|refine oa ?_)|refine oa ?_|refine ldl ?_)|(refine gc ?_;first|refine ct ?_|(refine ci (fun hB=>?_) (fun hB=>?_) <;> try (exfalso;omega)))|refine sq ?_|refine rg ?_|refine xc ?_|refine nl ?_|refine sk ?_|refine bk ?_|refine xe ?_
    exact lp ⟨a + 1,es,gf',gg⟩ ⟨hac,hgr,hgf',hgg⟩
   rw [show decide (q ≠ 0) = true from decide_eq_true hq0] at hSm2
   have hstA:=hstA hq0
   have hXF:=fun b h2=>hXF b hq0 h2
   clear hskA
   generalize outA n f g y c r F0 a = F1 at *
   repeat' first|(refine gca ?_;first|(refine ca (hSm2 s1 s2 hs1) ?_;rintro _ _ ⟨rfl,rfl⟩))|(refine cav (cap:=#[ptr cf.bq,ptr cf.bp,ptr cf.bl]) (vs:=[I c,I a]) hShf ?_;rintro _ _ ⟨gf',s1,s2,rfl,hs1,hs2,hgf',rfl⟩)|refine al fun c21=>?_|refine srz ?_|refine lda (vs:=rrow q (s1,s2)) ?_|(refine wo ?_;first|(refine ao ?_;first|refine aw ?_|refine oa ?_)|refine oa ?_|refine ldl ?_)|(refine gc ?_;first|(refine ci (fun hB=>?_) (fun hB=>?_) <;> try (exfalso;omega))|(refine cb (fun hB=>?_) (fun hB=>?_) <;> try (exfalso;omega)))|refine sq ?_|refine rg ?_|refine xc ?_|refine nl ?_|refine sk ?_|refine bk ?_|refine xe ?_
   ·exact absurd hB (by decide)
   refine TC.loop (ι:=NxB) (fun g'=>[(74,I g'.b)]) (fun g'=>[oww TRt 3 v ((n + 1) * (n + 1)) (rcs (outB n f g y c r a F1 g'.b) (hsE (z1,z2) g'.es)),gow g'.es (outB n f g y c r a F1 g'.b),shB cg g (y1,y2) g'.gg]) (fun g'=>g'.b ≤ r∧Grd n g'.es (outB n f g y c r a F1 g'.b)∧ShOk cg g'.gg) (fun g'=>r - g'.b) ⟨0,es,gg⟩ [9,14,15,17,18,19,20,21,62,63,73] ⟨Nat.zero_le _,hgr,hgg⟩ ?_ (hf:=by dsimp only;rw [outB_zero];exact fitA)
   clear hgr hgg
   rintro ⟨b,es,gg⟩ ⟨hb,hgr,hgg⟩
   dsimp only at hb hgr hgg ⊢
   by_cases hbr:b < r
   rotate_left
   ·obtain rfl:b = r:=by omega
    rw [← hstA] at hgr ⊢
    repeat' first|(refine wo ?_;first|(refine ao ?_;first|refine aw ?_|refine oa ?_)|refine oa ?_)|(refine gc ?_;first|(refine ci (fun hB=>?_) (fun hB=>?_) <;> try (exfalso;omega)))|refine sq ?_|refine rg ?_|refine xc ?_|refine nl ?_|refine xe ?_|refine xb ?_
    exact lp ⟨a + 1,es,gf',gg⟩ ⟨hac,hgr,hgf',hgg⟩
   have hShg:=share_tr cg g (y1,y2) gg hy1 hy2 hgg hpg (r - 1) b (by omega) (by omega)
   obtain ⟨⟨hG1,hG2,hG3⟩,hG4⟩:=hXF b hbr
   have hrJ:=place_lt (n:=n) (q:=c - a) (r:=r - 1 - b + a) (by omega) (by omega)
   have hG4:=(hG4 _ hrJ).le hB0
   have hAt:=fun xs'=>gat_tr n v xs' (c - a) (r - 1 - b + a) hv hn (by omega) (by omega)
   have hstB:=outB_step n f g y c r a F1 b
   rw [← hq] at hstB
   clear hstA hXF
   obtain ⟨q2,hq2⟩ : ∃ q2,q2 = shar g (r - 1) b:=⟨_,rfl⟩
   rw [← hq2] at hShg hG1 hG3 hstB
   have hMul:=fun lv v1 v2 v3 v4 v5 v6=>FMul3_tr y q q2 lv v1 v2 v3 v4 v5 v6 hF1 (hSF1.le hB0) (hG1.le hB0) (hG2.le hB0)
   obtain ⟨pr,hpr⟩ : ∃ pr,pr = y * q * q2:=⟨_,rfl⟩
   rw [← hpr] at hMul hG3 hstB
   obtain ⟨J,hJ⟩ : ∃ J,J = (c - a) * (n + 1) + (r - 1 - b + a):=⟨_,rfl⟩
   simp only [← hJ] at hrJ hG4 hAt hstB
   unfold FQ2 at hMul
   have hrow:=rcs_row (hs:=hsE (z1,z2) es) (qs:=outB n f g y c r a F1 b) (by rw [hsE_len,hgr.el,hgr.ql]) (i:=J) (by rw [hgr.ql];exact hrJ)
   have hgo:=fun (F:List Ch) (h1:gow es (outB n f g y c r a F1 b) ∈ F) (h2:Has F (vw z1 (Us (dg (0:Rat).num.natAbs)))) (h3:Has F (vw z2 (Us (dg (0:Rat).den))))=>has_gow (z:=(z1,z2)) hgr h1 h2 h3 hrJ
   have hset:=fun q' p'=>rcs_setE (z:=(z1,z2)) hgr hrJ q' p'
   have hgset:=fun q' p'=>hgr.set hrJ q' p'
   have hel:=hgr.el
   have hqlB:=hgr.ql
   obtain ⟨FB0,hFB0⟩ : ∃ F',F' = outB n f g y c r a F1 b:=⟨_,rfl⟩
   rw [← hFB0] at hgr hG4 hstB hrow hqlB ⊢
   simp only [← hFB0] at hgo hset hgset
   unfold addAt at hstB
   obtain ⟨qJ,hqJ⟩ : ∃ q',q' = FB0.getD J 0:=⟨_,rfl⟩
   rw [← hqJ] at hG4 hstB hrow
   simp only [← hqJ] at hgo
   obtain ⟨eJ,heJ⟩ : ∃ e,e = (hsE (z1,z2) es).getD J nS2:=⟨_,rfl⟩
   rw [← heJ] at hrow
   simp only [← heJ] at hgo
   have hAdd:=fun lv m1 m2=>FAdd2_tr qJ pr lv eJ.1 eJ.2 m1 m2 hG4 (hG3.le hB0)
   obtain ⟨qS,hqS⟩ : ∃ q',q' = qJ + pr:=⟨_,rfl⟩
   rw [← hqS] at hstB
   simp only [← hqS] at hAdd
   unfold FQ2 at hAdd
   have hca:(c:Int) - a = ((c - a:Nat):Int):=by omega
   have hto:(r:Int) - 1 - b + a = ((r - 1 - b + a:Nat):Int):=by omega
   have hr1:(r:Int) - 1 = ((r - 1:Nat):Int):=by omega
   repeat' first|(refine wo ?_;first|(refine ao ?_;first|refine oa ?_)|refine oa ?_)|(refine gc ?_;first|(refine ci (fun hB=>?_) (fun hB=>?_) <;> try (exfalso;omega)))|refine sq ?_|refine rg ?_|refine xc ?_|refine nl ?_|refine sk ?_|refine bk ?_
   refine cutY (ι:=NxM) (fun x=>x.m1.oneCell' = true∧x.m2.oneCell' = true∧ShOk cg x.gg) (fun x=>[(9,ptr c9),(14,ptr c14),(15,ptr c15),(17,ptr c17),(18,I c),(19,I r),(20,I a),(21,ptr c21),(22,I b),(23,ptr x.c23),(62,I ((c:Int) + 1)),(63,I a),(73,I r),(74,I b)]) (fun x=>[pt x.c23 (rrow pr (x.m1,x.m2)) TRt,own T64 x.m1 (Us (dg pr.num.natAbs)),own T64 x.m2 (Us (dg pr.den)),shB cg g (y1,y2) x.gg,oww TRt 3 v ((n + 1) * (n + 1)) (rcs FB0 (hsE (z1,z2) es)),gow es FB0,shB cf f (f1,f2) gf',own T64 s1 (Us (dg q.num.natAbs)),own T64 s2 (Us (dg q.den)),pt c21 (rrow q (s1,s2)) TRt,pt c17 (rrow y (x1,x2)) TRt,pt c16 [I c,I r] TPl,lrc l2 rec .busy none,dfr Dm,lpt c14 [shV cf] TSh,lpt c15 [shV cg] TSh,vw f1 (Us (dg f.num.natAbs)),vw f2 (Us (dg f.den)),vw y1 (Us (dg g.num.natAbs)),vw y2 (Us (dg g.den)),lpt c9 [I n,v] TGr,vw z1 (Us (dg (0:Rat).num.natAbs)),vw z2 (Us (dg (0:Rat).den)),vfr hs xs]) ?_ ?_
   rotate_left
   ·intro b' kb
    refine rs (fun w'=>w'.heap[c17]? = some (.cells (rrow y (x1,x2)).toArray TRt (0,0))∧w'.heap[c21]? = some (.cells (rrow q (s1,s2)).toArray TRt (0,0))∧w'.heap[c15]? = some (.cells [shV cg].toArray TSh (0,0))) ?_ (fun w' hw=>⟨pt_at memA hw,pt_at memA hw,lpt_at memA hw⟩)
    refine kr 0 (v:=.agg (rrow y (x1,x2)).toArray) (fun w' h=>R_loadA (E:=env) (vs:=rrow y (x1,x2)) rfl rfl rfl rfl h.1 rfl rfl) ?_
    refine kr 1 (v:=.agg (rrow q (s1,s2)).toArray) (fun w' h=>R_loadA (E:=env) (vs:=rrow q (s1,s2)) rfl rfl rfl rfl h.2.1 rfl rfl) ?_
    refine krl 2 (cs:=[shV cg]) (fun w' h=>h.2.2) ?_
    refine kra 3 ?_
    refine krw 4 ((r - 1:Nat):Int) ?_
    refine kra 5 ?_
    refine t2 6 12 ?_ ?_
    ·refine cav (cap:=#[ptr cg.bq,ptr cg.bp,ptr cg.bl]) (vs:=[I ((r - 1:Nat):Int),I b]) hShg ?_
     rintro _ _ ⟨gg',k1,k2,rfl,hk1,hk2,hgg',rfl⟩
     refine nl ?_
     refine te (fun w' hw=>⟨pt_at memA hw,pt_at memA hw,lpt_at memA hw⟩) ?_
     refine t2 7 12 ?_ ?_
     ·refine slws (sz:=3) (xs:=rrow y (x1,x2) ++ rrow q (s1,s2) ++ rrow q2 (k1,k2)) fun g2=>?_
      refine nl ?_
      refine te (fun w' hw=>⟨pt_at memA hw,pt_at memA hw,lpt_at memA hw⟩) ?_
      refine t2 8 12 ?_ ?_
      ·refine ca (hMul _ x1 x2 s1 s2 k1 k2) ?_ (hp:=has1 (has_oww memA) (has1 (hgot _ memA).1 (has1 (hgot _ memA).2 (has1 hasA (has1 hasA (has1 hasA (has1 hasA has0)))))))
       rintro _ _ ⟨m1,m2,rfl,hm1,hm2,rfl⟩
       refine nl ?_
       refine te (fun w' hw=>⟨pt_at memA hw,pt_at memA hw,lpt_at memA hw⟩) ?_
       refine kra 9 ?_
       refine kra 10 ?_
       refine kra 11 ?_
       refine t1 12 ?_
       refine al fun c23=>?_
       refine nl ?_
       refine te (fun w' hw=>⟨pt_at memA hw,pt_at memA hw,lpt_at memA hw⟩) ?_
       refine t1 13 ?_
       refine srz ?_
       refine nl ?_
       refine te (fun w' hw=>⟨pt_at memA hw,pt_at memA hw,lpt_at memA hw⟩) ?_
       refine kra 14 ?_
       refine t0 ?_
       repeat' first|refine xc ?_
       exact kb ⟨c23,m1,m2,gg'⟩ ⟨hm1,hm2,hgg'⟩ _ _ (by (repeat (refine Sub.cons rfl (by first | rfl | go_num) ?_));exact Sub.nil) fitA
      ·refine al fun c23=>?_
       refine nl ?_
       refine te (fun w' hw=>⟨pt_at memA hw,pt_at memA hw,lpt_at memA hw⟩) ?_
       refine t1 8 ?_
       refine ca (hMul _ x1 x2 s1 s2 k1 k2) ?_ (hp:=has1 (has_oww memA) (has1 (hgot _ memA).1 (has1 (hgot _ memA).2 (has1 hasA (has1 hasA (has1 hasA (has1 hasA has0)))))))
       rintro _ _ ⟨m1,m2,rfl,hm1,hm2,rfl⟩
       refine nl ?_
       refine te (fun w' hw=>⟨pt_at memA hw,pt_at memA hw,lpt_at memA hw⟩) ?_
       refine kra 9 ?_
       refine kra 10 ?_
       refine kra 11 ?_
       refine t1 13 ?_
       refine srz ?_
       refine nl ?_
       refine te (fun w' hw=>⟨pt_at memA hw,pt_at memA hw,lpt_at memA hw⟩) ?_
       refine kra 14 ?_
       refine t0 ?_
       repeat' first|refine xc ?_
       exact kb ⟨c23,m1,m2,gg'⟩ ⟨hm1,hm2,hgg'⟩ _ _ (by (repeat (refine Sub.cons rfl (by first | rfl | go_num) ?_));exact Sub.nil) fitA
     ·refine al fun c23=>?_
      refine nl ?_
      refine te (fun w' hw=>⟨pt_at memA hw,pt_at memA hw,lpt_at memA hw⟩) ?_
      refine t1 7 ?_
      refine slws (sz:=3) (xs:=rrow y (x1,x2) ++ rrow q (s1,s2) ++ rrow q2 (k1,k2)) fun g2=>?_
      refine nl ?_
      refine te (fun w' hw=>⟨pt_at memA hw,pt_at memA hw,lpt_at memA hw⟩) ?_
      refine t1 8 ?_
      refine ca (hMul _ x1 x2 s1 s2 k1 k2) ?_ (hp:=has1 (has_oww memA) (has1 (hgot _ memA).1 (has1 (hgot _ memA).2 (has1 hasA (has1 hasA (has1 hasA (has1 hasA has0)))))))
      rintro _ _ ⟨m1,m2,rfl,hm1,hm2,rfl⟩
      refine nl ?_
      refine te (fun w' hw=>⟨pt_at memA hw,pt_at memA hw,lpt_at memA hw⟩) ?_
      refine kra 9 ?_
      refine kra 10 ?_
      refine kra 11 ?_
      refine t1 13 ?_
      refine srz ?_
      refine nl ?_
      refine te (fun w' hw=>⟨pt_at memA hw,pt_at memA hw,lpt_at memA hw⟩) ?_
      refine kra 14 ?_
      refine t0 ?_
      repeat' first|refine xc ?_
      exact kb ⟨c23,m1,m2,gg'⟩ ⟨hm1,hm2,hgg'⟩ _ _ (by (repeat (refine Sub.cons rfl (by first | rfl | go_num) ?_));exact Sub.nil) fitA
    ·refine al fun c23=>?_
     refine nl ?_
     refine te (fun w' hw=>⟨pt_at memA hw,pt_at memA hw,lpt_at memA hw⟩) ?_
     refine t1 6 ?_
     refine cav (cap:=#[ptr cg.bq,ptr cg.bp,ptr cg.bl]) (vs:=[I ((r - 1:Nat):Int),I b]) hShg ?_
     rintro _ _ ⟨gg',k1,k2,rfl,hk1,hk2,hgg',rfl⟩
     refine nl ?_
     refine te (fun w' hw=>⟨pt_at memA hw,pt_at memA hw,lpt_at memA hw⟩) ?_
     refine t1 7 ?_
     refine slws (sz:=3) (xs:=rrow y (x1,x2) ++ rrow q (s1,s2) ++ rrow q2 (k1,k2)) fun g2=>?_
     refine nl ?_
     refine te (fun w' hw=>⟨pt_at memA hw,pt_at memA hw,lpt_at memA hw⟩) ?_
     refine t1 8 ?_
     refine ca (hMul _ x1 x2 s1 s2 k1 k2) ?_ (hp:=has1 (has_oww memA) (has1 (hgot _ memA).1 (has1 (hgot _ memA).2 (has1 hasA (has1 hasA (has1 hasA (has1 hasA has0)))))))
     rintro _ _ ⟨m1,m2,rfl,hm1,hm2,rfl⟩
     refine nl ?_
     refine te (fun w' hw=>⟨pt_at memA hw,pt_at memA hw,lpt_at memA hw⟩) ?_
     refine kra 9 ?_
     refine kra 10 ?_
     refine kra 11 ?_
     refine t1 13 ?_
     refine srz ?_
     refine nl ?_
     refine te (fun w' hw=>⟨pt_at memA hw,pt_at memA hw,lpt_at memA hw⟩) ?_
     refine kra 14 ?_
     refine t0 ?_
     repeat' first|refine xc ?_
     exact kb ⟨c23,m1,m2,gg'⟩ ⟨hm1,hm2,hgg'⟩ _ _ (by (repeat (refine Sub.cons rfl (by first | rfl | go_num) ?_));exact Sub.nil) fitA
   clear hMul hShg hgot
   rintro ⟨c23,m1,m2,gg'⟩ ⟨hm1,hm2,hgg'⟩
   dsimp only at hm1 hm2 hgg' ⊢
   obtain ⟨e1',e2'⟩:=eJ
   dsimp only at hAdd hgo hrow
   repeat' first|(refine gca ?_;first|(refine ca (hAt _) ?_ (hp:=has1 (has_oww memA) has0);rintro _ _ ⟨rfl,rfl⟩))|refine ldla (cs:=[I n,v]) ?_|(refine aw (m:=(c:Int) - a) ?_;rw [hca])|(refine aw (m:=(r:Int) - 1 - b + a) ?_;rw [hto])|(refine wo ?_;first|(refine ao ?_;first|refine aw ?_)|refine oa ?_)|refine sq ?_|refine rg ?_|refine xc ?_|refine nl ?_
   refine rs (fun w'=>w'.heap[c23]? = some (.cells (rrow pr (m1,m2)).toArray TRt (0,0))) ?_ (fun w' hw=>pt_at memA hw)
   refine kra 0 ?_
   refine kra 1 ?_
   refine kra 2 ?_
   refine kr 4 (v:=.agg (rrow pr (m1,m2)).toArray) (fun w' h=>R_loadA (E:=env) (vs:=rrow pr (m1,m2)) rfl rfl rfl rfl h rfl rfl) ?_
   refine t1 3 ?_
   refine ldaw (N:=((n + 1) * (n + 1))) (xs:=rcs FB0 (hsE (z1,z2) es)) (m:=3 * J) hrow ?_ (hm:=has_oww memA)
   refine nl ?_
   refine te (fun w' hw=>pt_at memA hw) ?_
   refine t1 5 ?_
   refine slws (sz:=3) (xs:=rrow qJ (e1',e2') ++ rrow pr (m1,m2)) fun g2=>?_
   refine nl ?_
   refine te (fun w' hw=>pt_at memA hw) ?_
   refine t1 6 ?_
   refine ca (hAdd _ m1 m2) ?_ (hp:=has1 (has_oww memA) (has1 (hgo _ memA hasA hasA).1 (has1 (hgo _ memA hasA hasA).2 (has1 hasA (has1 hasA has0)))))
   rintro _ _ ⟨n1,d1,rfl,hn1,hd1,rfl⟩
   refine nl ?_
   refine te (fun w' hw=>pt_at memA hw) ?_
   refine kra 7 ?_
   refine kra 8 ?_
   refine kra 9 ?_
   refine kra 10 ?_
   refine t1 11 ?_
   refine sow (sz:=3) (m:=3 * J) (N:=((n + 1) * (n + 1))) (xs:=rcs FB0 (hsE (z1,z2) es)) (vs:=rrow qS (n1,d1)) (by omega) ?_ (h1:=one_cons rfl (one_cons hn1 (one_cons hd1 one_nil)))
   refine nl ?_
   refine te (fun w' hw=>pt_at memA hw) ?_
   refine t0 ?_
   repeat' first|(refine wo ?_;first|(refine ao ?_;first|refine aw ?_)|refine oa ?_)|refine rg ?_|refine xc ?_|refine nl ?_|refine xb ?_
   refine TX.im (gow_set (es:=es) (qs:=FB0) (by rw [hel,hqlB]) (i:=J) (by rw [hqlB];exact hrJ) qS n1 d1 fitA) ?_
   rw [hset qS (n1,d1),← hstB]
   exact lp ⟨b + 1,es.set J (some (n1,d1)),gg'⟩ ⟨hbr,by dsimp only;rw [hstB];exact hgset qS (n1,d1),hgg'⟩
  ·rintro _ _ ⟨s,rfl,⟨hi,g2,g3,g4⟩ | h⟩
   ·exact ⟨_,rfl,.ready,none,_,rfl,by decide,s,by rw [hi],rfl,g2⟩
   ·exact h.elim
 ·rintro l2 rec Dm pend B' ⟨s,rfl,rfl,hgr⟩
  show TX env _ _ _ _ _ _
  refine TX.im (dfrl_nil _) ?_
  refine TX.im (dfrl_push (D:=Dm) (Ds:=[]) fitA) ?_
  rw [outN_all] at hgr ⊢
  generalize nextR f g n xs = q at *
  repeat' first|refine lda (cs:=[I n,v]) ?_|refine srz ?_|refine sq ?_|refine rg ?_|refine xc ?_|refine nl ?_|refine rt ?_|refine xb ?_
  exact mca1 (Ds:=[Dm]) (b:=c8) (cs:=[I n,v]) (vs:=[I n,v]) (T:=TGr) ⟨v,s.es,(z1,z2),rfl,hv,⟨hz1,hz2⟩,hgr,rfl⟩
end Go.Art
namespace Go.Art
open Go Go.Proofs Go.RowKit
abbrev lvD (t:List Int) (k n j:Nat):Nat:=lvE (oneS t k) (fun u=>(fT t k u).den) n k j
theorem lvT_facts {t:List Int} {k n:Nat} (hz:solE t k = 0) (hk:k ≤ 40) (hl:t.length ≤ 12) (hn:n ≤ 12) {B:Nat} (hB:B = 20000) {j:Nat} (hj:j ≤ k) :
  Lv n (lvD t k n j) (lvT t k n j)∧tot n (lvT t k n j) ≤ 1∧lvD t k n j ≠ 0∧lvD t k n j < 18446744073709551616 ^ B:=by
 have hf:∀ u,1 ≤ u→u ≤ k→Ch01 (fT t k u).den (fT t k u):=fun u h1 h2=>(fT_ch hz h1 h2).1
 obtain ⟨h1,h2⟩:=lv_ok (n:=n) (pT_ch hz) hf j hj
 refine ⟨h1,h2,lvE_pos (oneS_pos hz) (fun u h1 h2=>(hf u h1 h2).nz) j hj,?_⟩
 have h3:=lvE_le (n:=n) (B:=18446744073709551616 ^ 11) (F:=fun u=>(fT t k u).den) (D:=oneS t k) (k:=k) (fun u h1 h2=>Nat.le_of_lt (fT_lt hz hk hl h1 h2)) (Nat.le_trans hk (by decide)) (Nat.le_of_lt (Nat.lt_trans (oneS_lt hz hk hl) (by decide))) (by decide) j hj
 rw [← Nat.pow_mul] at h3
 refine Nat.lt_of_le_of_lt h3 (Nat.pow_lt_pow_right (by decide) ?_)
 have h4:2 * n * j ≤ 24 * 40:=Nat.mul_le_mul (by omega) (by omega)
 omega
theorem lvT_succ (t:List Int) (k n j:Nat):lvT t k n (j + 1) = nextR (fT t k (k - j)) (1 / ((k - j:Nat):Rat)) n (lvT t k n j):=rfl
theorem lvD_succ (t:List Int) (k n j:Nat):lvD t k n (j + 1) = lvD t k n j * ((fT t k (k - j)).den ^ n * (k - j) ^ n):=rfl
theorem has_bndC {F C:List Ch} {d:Ch} (h:bnd C ∈ F) (k:Has C d):Has F d:=⟨fun w hw=>k.P w (hw.h _ h),k.wr,k.rd,fun b hb=>⟨_,h,bnd_ft.2 (k.ft b hb)⟩⟩
structure LvG (α:Type) where
 j:Nat
 v:Value
 es:List (Option HV)
 z:HV
 a:α
attribute [local irreducible] Fit pt own ro vw mpc lpt vels rels mow lrc dfr
def grB (n:Nat) (v:Value) (qs:List Rat) (es:List (Option HV)) (z:HV):Ch:=bnd (gP n v qs es z)
instance (n:Nat) (v:Value) (qs:List Rat) (es:List (Option HV)) (z:HV):NoB (grB n v qs es z):=⟨bnd_nob (by repeat (first | exact nb0 | refine nb1 ?_))⟩
abbrev GRB (n:Nat) (qs:List Rat) (u:Value) (D:List Ch):Prop:=∃ v es z,u = gV n v∧v.oneCell' = true∧(z.1.oneCell' = true∧z.2.oneCell' = true)∧Grd n es qs∧D = [grB n v qs es z]
theorem Tr.grb {P:Program} {f:FuncId} {args:List Value} {pre A:List Ch} {n:Nat} {qs:List Rat} (h:Tr P f args pre A (GR n qs)):Tr P f args pre A (GRB n qs):=by
 refine h.post ?_
 rintro u D ⟨v,es,z,hu,h1,h2,h3,rfl⟩
 refine ⟨_,⟨v,es,z,hu,h1,h2,h3,rfl⟩,?_,nb1 nb0⟩
 have:=im_bnd (gP n v qs es z) []
 rwa [List.append_nil] at this
theorem has_grB {F:List Ch} {n:Nat} {v:Value} {qs:List Rat} {es:List (Option HV)} {z:HV} (hg:Grd n es qs) (h:grB n v qs es z ∈ F):Has F (vwf v ((n + 1) * (n + 1)) (rcs qs (hsE z es)))∧Has F (vfr (hsE z es) qs):=
 ⟨has_bndC h (has_oww (List.Mem.head _)),has_bndC h (has_gvfr hg (List.Mem.tail _ (List.Mem.head _)) (has_own (List.Mem.tail _ (List.Mem.tail _ (List.Mem.head _)))) (has_own (List.Mem.tail _ (List.Mem.tail _ (List.Mem.tail _ (List.Mem.head _))))))⟩
structure SeqW (P:Program) (f:FuncId) (cap:Array Value) (U:Ch) (n k:Nat) (L:Nat→List Rat):Prop where
 run:∀ {α:Type} (V:Ch) [Lent V] (l:Nat) (J:α→Ch) (pl:α→Nat→Prop) (S:α→Prop) (a0:α),pl a0 0→(∀ a b,¬ (J a).bd b) →
  (∀ a j v es z,v.oneCell' = true→(z.1.oneCell' = true∧z.2.oneCell' = true)→Grd n es (L j)→pl a j→j ≤ k→Ty P l [I ((k - j:Nat):Int),gV n v] [V] [grB n v (L j) es z,J a] fun ok B=>(ok = true∧∃ a',B = [grB n v (L j) es z,J a']∧pl a' (j + 1))∨(ok = false∧∃ a',B = [J a']∧S a')) →
  Tr P f (yv l :: cap.toList) [V,U] [J a0] fun _ B=>∃ a,B = [J a]∧(pl a (k + 1)∨S a)
attribute [local irreducible] lmp lme mit velg relg bnd owl dfrl gow shB grB
theorem levels_tr (tv:Value) (htv:tv.oneCell' = true) (k n:Int):Tr Tryz.prog 57 [tv,I k,I n] [] [] fun u D=>∃ p1 p2 p3,u = .func (.func 105) #[] #[ptr p1,ptr p2,ptr p3]∧D = [pt p3 [I n] TLI,pt p2 [I k] TLI,pt p1 [tv] TLs]:=by
 refine Tr.enter env _ Tryz.func57 (by kernel_rfl) rfl Tryz.ntmps57 rfl (by repeat (first | exact has00 | refine has01 ?_)) fun w0=>?_
 repeat' first|refine bx1 fun b=>?_|(refine wo ?_;first|refine oa ?_)|refine sq ?_|refine rg ?_|refine xc ?_|refine nl ?_|refine rt ?_
 exact r1 ⟨_,_,_,rfl,rfl⟩
theorem nxtT_tr (tv gv:Value) (htv:tv.oneCell' = true) (hgv:gv.oneCell' = true) (t:List Int) (k n j:Nat) (hs:List HV) (hz:solE t k = 0) (hk:k ≤ 40) (hl:t.length ≤ 12) (hn:n ≤ 12) (hj:j < k) (hlen:hs.length = (lvT t k n j).length) :
  Tr Tryz.prog 107 [gV n gv,tv,I k,I ((k - j:Nat):Int)] [vw tv (Is t),vwf gv ((n + 1) * (n + 1)) (rcs (lvT t k n j) hs),vfr hs (lvT t k n j)] [] (GRB n (lvT t k n (j + 1))):=by
 obtain ⟨B,hB⟩ : ∃ B,B = 20000:=⟨_,rfl⟩
 obtain ⟨b1,b2,b3,b4⟩:=lvT_facts hz hk hl hn hB (j:=j) (by omega)
 obtain ⟨_,_,_,c4⟩:=lvT_facts hz hk hl hn hB (j:=j + 1) (by omega)
 rw [lvD_succ] at c4
 rw [lvT_succ]
 exact (nxt_tr tv gv htv hgv t k (k - j) n (lvD t k n j) B (lvT t k n j) hs hz hk hl hn (by omega) (by omega) hlen (supp_lv _ _ _ _ j) b1 b2 b3 c4 (by omega)).grb
theorem levels1_seq (p1 p2 p3:Nat) (tv:Value) (htv:tv.oneCell' = true) (t:List Int) (k n:Nat) (hz:solE t k = 0) (hk:k ≤ 40) (hl:t.length ≤ 12) (hn:n ≤ 12) :
  SeqW Tryz.prog 105 #[ptr p1,ptr p2,ptr p3] (lbd [lpt p1 [tv] TLs,lpt p2 [I k] TLI,lpt p3 [I n] TLI,vw tv (Is t)]) n k (lvT t k n):=by
 refine ⟨fun {α} V hV l J pl S a0 h0 hnb hy=>?_⟩
 haveI:=hV
 haveI:∀ a,NoB (J a):=fun a=>⟨hnb a⟩
 refine Tr.pre (pre:=[V,lpt p1 [tv] TLs,lpt p2 [I k] TLI,lpt p3 [I n] TLI,vw tv (Is t)]) ?_ (has1 (has_mem (by simp)) (has_lbds (C:=[lpt p1 [tv] TLs,lpt p2 [I k] TLI,lpt p3 [I n] TLI,vw tv (Is t)]) (by simp) _ (by repeat (first | exact has00 | refine has01 ?_)) fun c hc=>hc)) (by repeat (first | exact has00 | refine has01 ?_))
 have hF:=(first_tr tv htv t k n hz hk hl hn).grb
 have hN:=fun j (hj:j < k) gv hgv hs hlen=>nxtT_tr tv gv htv hgv t k n j hs hz hk hl hn hj hlen
 clear hz
 generalize lvT t k n = L at *
 refine Tr.enter env _ Tryz.func105 (by kernel_rfl) rfl Tryz.ntmps105 rfl (by repeat (first | exact has00 | refine has01 ?_)) fun w0=>?_
 repeat' first|(refine gca ?_;first|(refine ca hF ?_;rintro _ _ ⟨v,es,z,rfl,hv,hz,hgr,rfl⟩))|refine al fun c5=>?_|refine srz ?_|(refine wo ?_;first|refine oa ?_|refine ldl ?_)|refine sq ?_|refine rg ?_|refine xc ?_|refine nl ?_|refine bk ?_
 refine TC.loop (ι:=LvG α) (fun g=>[(6,I ((k - g.j:Nat):Int))]) (fun g=>[pt c5 [I n,g.v] TGr,grB n g.v (L g.j) g.es g.z,J g.a]) (fun g=>g.j ≤ k∧g.v.oneCell' = true∧(g.z.1.oneCell' = true∧g.z.2.oneCell' = true)∧Grd n g.es (L g.j)∧pl g.a g.j) (fun g=>k - g.j) ⟨0,v,es,z,a0⟩ [0,1,2,3,5] ⟨Nat.zero_le _,hv,hz,hgr,h0⟩ ?_
 clear hv hz hgr hF
 rintro ⟨j,v,es,z,a⟩ ⟨hj,hv,hz,hgr,ha⟩
 dsimp only at hj hv hz hgr ha ⊢
 have hyj:=hy a j v es z hv hz hgr ha hj
 by_cases hlt:j < k
 ·have hNj:=hN j hlt v hv (hsE z es) (by rw [hsE_len,hgr.el,hgr.ql])
  have hs1:((k - j:Nat):Int) - 1 = ((k - (j + 1):Nat):Int):=by omega
  repeat' first|(refine gca ?_;first|(refine ca hNj ?_ (hp:=has1 hasA (has1 (has_grB hgr memA).1 (has1 (has_grB hgr memA).2 has0)));rintro _ _ ⟨v2,es2,z2,rfl,hv2,hz2,hgr2,rfl⟩))|refine lda (cs:=[I n,v]) ?_|(refine cy hyj ?_ (hp:=has1 (has_mem memA) has0);rintro ok _ (⟨rfl,a2,rfl,h3⟩ | ⟨rfl,a2,rfl,h3⟩))|refine srz ?_ (hj:=Nat.le_of_ble_eq_true rfl)|(refine aw (m:=((k - j:Nat):Int) - 1) ?_;rw [hs1])|(refine wo ?_;first|(refine ao ?_;first|refine oa ?_)|refine oa ?_|refine ldl ?_|refine gy ?_|refine gn ?_)|(refine gc ?_;first|refine cf ?_|(refine ci (fun hB=>?_) (fun hB=>?_) <;> try (exfalso;omega)))|refine sq ?_|refine rg ?_|refine xc ?_|refine nl ?_|refine sk ?_|refine bk ?_|refine xe ?_|refine xb ?_
  ·exact lp ⟨j + 1,v2,es2,z2,a2⟩ ⟨hlt,hv2,hz2,hgr2,h3⟩
  ·exact e0 ⟨a2,rfl,.inr h3⟩
 ·obtain rfl:j = k:=by omega
  rw [Nat.sub_self] at hyj
  repeat' first|refine lda (cs:=[I n,v]) ?_|(refine cy hyj ?_ (hp:=has1 (has_mem memA) has0) (hv:=by rw [Nat.sub_self];rfl);rintro ok _ (⟨rfl,a2,rfl,h3⟩ | ⟨rfl,a2,rfl,h3⟩))|(refine wo ?_;first|(refine ao ?_;first|refine oa ?_)|refine oa ?_|refine gy ?_|refine gn ?_)|(refine gc ?_;first|refine cf ?_|(refine ci (fun hB=>?_) (fun hB=>?_) <;> try (exfalso;omega)))|refine sq ?_|refine rg ?_|refine xc ?_|refine nl ?_|refine xe ?_
  ·exact e0 ⟨a2,rfl,.inl h3⟩
  ·exact e0 ⟨a2,rfl,.inr h3⟩
end Go.Art
namespace Go.Art
open Go Go.Proofs Go.RowKit
section
variable {P:Program} {E:Env P} {Q0:Exit→Act→World→Prop} {s:List K} {fr:Fr} {w:World}
theorem SC_rangeI {m l0:Nat} {ds:List Deferred} {g:Operand} {f:FuncId} {cap:Array Value} {ps:List Tmp} {assign body:Code} {rec0:Loop} {st0:LoopState} {pend0:Option Code} (h0:RAt w l0 rec0 st0 pend0) (hg:ev fr g = some (.func (.func f) #[] cap))
  (h:∀ (rec:Loop) (w1:World),RecOk rec m fr ps assign body rec0.defers→Ext w w1→w1.heap.size = w.heap.size + 1→RAt w1 w.heap.size rec .ready none →
   Fn P f (yv w.heap.size :: cap.toList) w1 fun _ w3=>∃ st pend,st ≠ LoopState.busy∧RAt w3 w.heap.size rec st pend ∧
    ∀ w4,Upd w3 w4 [w.heap.size]→afterR E ⟨m,ds,some l0⟩ Q0 s fr w4 pend) :
  SC E ⟨m,ds,some l0⟩ Q0 s (.rangeFunc g ps.toArray assign body) fr w:=⟨fun a ha=>by
 refine wpIn_rangeFunc fun fn _=>?_
 obtain ⟨rec,hrec⟩ : ∃ rec:Loop,rec = { state:=.ready,pending:=none,fn,tmps:=a.tmps,params:=ps.toArray,assign,body,defers:=rec0.defers }:=⟨_,rfl⟩
 obtain ⟨w1,hw1⟩ : ∃ w1,w1 = w.alloc (.loop rec):=⟨_,rfl⟩
 have hfn:=h rec w1 (by subst hrec;exact ⟨rfl,rfl,rfl,rfl,a,rfl,ha.size,rfl,ha.slot⟩) (by subst hw1;exact Upd.alloc w _) (by subst hw1;simp) (by subst hw1;subst hrec;exact World.alloc_heap_new w _)
 have hcf:=run_callFunc_fn hfn.can (yv w.heap.size :: cap.toList).toArray w1
 refine ⟨w.heap.size,[],w1,{ target:=.fn (.func f) cap,args:=#[yv w.heap.size] },w1,f,(yv w.heap.size :: cap.toList).toArray,w1,?_,?_,fun _ _=>trivial,?_,fun e=>(by cases e),?_⟩
 ·subst hw1;subst hrec;exact run_enterLoop_inner h0 fn a.tmps ps.toArray assign body
 ·simp only [resolve,rangeCall,ha.ev hg]
  simp [Deferred.ofValue,Act.eval]
 ·have e1 : #[yv w.heap.size] ++ cap = (yv w.heap.size :: cap.toList).toArray:=by apply Array.ext';simp
  simp only [invoke,e1]
  exact hcf
 ·refine callsFF (hfn.calls.mono fun e w3 ⟨v,he,st,pend,hst,hR,hk⟩=>?_)
  subst he
  refine ⟨pend,w3.putObj w.heap.size (.loop { rec with state:=.exhausted,pending:=pend }),run_endLoop hR hst,?_⟩
  have hh:=hk _ (putObj_upd w3 w.heap.size (.loop { rec with state:=.exhausted,pending:=pend }))
  have ha':Holds ⟨m,ds,some l0⟩ { a with defers:=[] ++ a.defers } fr:=⟨ha.size,by show [] ++ a.defers = _;rw [ha.defers];rfl,ha.slot⟩
  cases pend with
  | none=>exact hh.run _ ha'
  | some c=>exact hh.run _ ha'⟩
end
section
variable {P:Program} {E:Env P} {X:Cx} {s:List K} {fr:Fr} {A F:List Ch} {m l0:Nat} {assign body:Code} {rec0:Loop} {st0:LoopState} {pend0:Option Code}
theorem TC.rangeI {ds:List Deferred} {g:Operand} {f:FuncId} {cap:Array Value} {ps:List Tmp} (hl0:lrc l0 rec0 st0 pend0 ∈ A) (pre J:List Ch) (Aft:Nat→Loop→Option Code→List Ch→Prop)
  (hit:∀ rec l,RecOk rec m fr ps assign body rec0.defers→Tr P f (yv l :: cap.toList) pre (lrc l rec .ready none :: J) fun _ B=>∃ st pend B',B = lrc l rec st pend :: B'∧st ≠ LoopState.busy∧Aft l rec pend B')
  (aft:∀ l rec pend B',Aft l rec pend B'→afterT E ⟨m,ds,some l0⟩ X s fr (B' ++ F) pend) (hg:ev fr g = some (.func (.func f) #[] cap):=by rfl) (hs:Fit A J F:=by exact fitA)
  (hp:∀ c ∈ pre,Has F c:=by (repeat (first | exact has0 | refine has1 hasA ?_));first | done | fail):TC E ⟨m,ds,some l0⟩ X s (.rangeFunc g ps.toArray assign body) fr A:=⟨fun w hw=>by
 refine SC_rangeI (hw.mem hl0) hg fun rec w1 hr hE hz hl=>?_
 have h0:=hw.im hs
 have h1:=h0.ext hE
 have h2:St X (lrc w.heap.size rec .ready none :: (J ++ F)) w1:=by
  have hnew:∀ b,fts [lrc w.heap.size rec .ready none] b→w.heap.size ≤ b:=by
   rintro b ⟨c,hc,hb⟩
   rw [List.mem_singleton.1 hc] at hb
   rcases hb with hb | hb | hb
   ·have:b = w.heap.size:=hb;omega
   ·exact hb.elim
   ·exact hb.elim
  refine h0.step (A:=[]) (B:=[lrc w.heap.size rec .ready none]) (Mv.upd hE (by simp) (fun b hb=>.inr (hnew b hb.ft)) (fun b hb=>.inr (.inr (hnew b hb.ft)))) (Sat.one hl) ?_
  intro c hc b hb
  rw [List.mem_singleton.1 hc] at hb
  exact hb
 refine ((hit rec w.heap.size hr).at (F:=F) (by exact Im.refl _) hp h2).mono fun v w3 ⟨D,⟨st,pend,B',hB,hst,hA⟩,hS⟩=>?_
 subst hB
 refine ⟨st,pend,hst,hS.mem (List.Mem.head _),fun w4 hU=>?_⟩
 have h4:St X (B' ++ F) w4:=by
  have:=hS.step (A:=[lrc w.heap.size rec st pend]) (B:=[]) (F:=B' ++ F) (w':=w4) (Mv.upd hU (fun b hb=>.inl (wrs_one.2 (List.mem_singleton.1 hb))) (fun b hb=>absurd hb wrs_nil) (fun b hb=>absurd hb rds_nil)) (Sat.nil _) (by simp)
  exact this
 have h5:=aft _ _ _ _ hA
 cases pend with
 | none=>exact TX.run h5 w4 h4
 | some c=>exact TC.run h5 w4 h4⟩
end
end Go.Art
