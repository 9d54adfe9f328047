/- Texts put together: Pg Mf KSame KCopy KOver Hk Mg Mp Hd Cp Pd Ck Cu Sy Sp Tu Ch Wd Ev. Conditions: none. -/
import Derived.Test.YtmdpconhbmkokaaGreatWUd
set_option linter.unusedSimpArgs false
set_option linter.unusedVariables false
namespace Go.Art
open Go Go.Proofs Go.RowKit
structure PkS where
 kd:Int
 sn:Int
 bn:Int
 pn:Int
 rn:Int
 l:List Int
def PkS.zero:PkS:=⟨0,0,0,0,0,[]⟩
def rs0:RdS:=⟨0,0,0⟩
def gk (B:List Int):Int × RdS:=getR B rs0 1
def gs_ (B:List Int):Int × RdS:=getR B (gk B).2 4
def gIf (b:Bool) (B:List Int) (s:RdS) (w:Int):Int × RdS:=bif b then getR B s w else (0,s)
def gb (B:List Int):Int × RdS:=gIf (frmB (gk B).1) B (gs_ B).2 4
def gp (B:List Int):Int × RdS:=gIf (frmB (gk B).1 && frmD (gk B).1) B (gb B).2 4
def gr (B:List Int):Int × RdS:=gIf (decide (0 < frmR (gk B).1)) B (gp B).2 1
def gd (B:List Int):List Int × RdS:=bif frmD (gk B).1 then takesR B (gr B).2 (restR B (gr B).2) true else ([],(gr B).2)
def gAll (B:List Int):PkS:=⟨(gk B).1,(gs_ B).1,(gb B).1,(gp B).1,(gr B).1,(gd B).1⟩
def bodyR (B:List Int):PkS × Int:=if 1 ≤ (gk B).1∧(gk B).1 ≤ 5 then
  if endR B (gd B).2 = (0,0)∧pkOk (gk B).1 (gs_ B).1 (gb B).1 (gp B).1 (gr B).1 (gd B).1.length then (gAll B,0) else (PkS.zero,6)
 else (PkS.zero,6)
def pgetR (l:List Int):PkS × Int:=if (openR l).2 = 0 then bodyR (openR l).1 else (PkS.zero,(openR l).2)
theorem rs0_ok (B:List Int):rs0.ok B:=⟨Int.le_refl _,by show (0:Int) ≤ _;omega⟩
theorem gIf_ok {B:List Int} {s:RdS} (h:s.ok B) (b:Bool) (w:Int):(gIf b B s w).2.ok B:=by
 unfold gIf;cases b
 ·exact h
 ·exact getR_ok h w
theorem gk_ok (B:List Int):(gk B).2.ok B:=getR_ok (rs0_ok B) 1
theorem gs_ok (B:List Int):(gs_ B).2.ok B:=getR_ok (gk_ok B) 4
theorem gb_ok (B:List Int):(gb B).2.ok B:=gIf_ok (gs_ok B) _ 4
theorem gp_ok (B:List Int):(gp B).2.ok B:=gIf_ok (gb_ok B) _ 4
theorem gr_ok (B:List Int):(gr B).2.ok B:=gIf_ok (gp_ok B) _ 1
theorem gd_ok (B:List Int):(gd B).2.ok B:=by
 unfold gd;cases frmD (gk B).1
 ·exact gr_ok B
 ·exact takesR_ok (gr_ok B) _ _
attribute [local irreducible] Fit pt own ro vw mpc lpt vels rels mow lrc dfr
attribute [local irreducible] lmp lme mit velg relg
theorem take_tr (p q t j:Nat) (b:Bool) (bv:Value) (s:RdS) (B:List Int) (cs:List Value) (w:Int) (hj:j < cs.length) (h0:b = false→cs.set j (I 0) = cs) (hs:s.ok B) (hl:B.length ≤ 1099511627776) (hin:inB B) :
  Tr Tryz.prog 109 [.bool b,I w,.pointer (some ⟨q,j,none⟩),ptr t] [lpt t [ptr p] TpR] (pt q cs TPk :: rdP p bv s B) fun _ D=>D = pt q (cs.set j (I (gIf b B s w).1)) TPk :: rdP p bv (gIf b B s w).2 B:=by
 refine Tr.enter env _ Tryz.func109 (by kernel_rfl) rfl Tryz.ntmps109 rfl (by repeat (first | exact has00 | refine has01 ?_)) fun w0=>?_
 refine TC.im (B:=lpt t [ptr p] TpR :: pt q cs TPk :: rdP p bv s B) (Im.refl _) ?_
 cases b
 ·unfold gIf
  rw [cond_false]
  dsimp only
  rw [h0 rfl]
  repeat' first|(refine wo ?_;first|refine oa ?_)|(refine gc ?_;first|refine cf ?_)|refine sq ?_|refine rg ?_|refine xc ?_|refine nl ?_|refine sk ?_
  exact e0 rfl
 ·unfold gIf
  rw [cond_true]
  repeat' first|(refine gca ?_;first|(refine ca (Get_tr p bv s B w hs hl hin) ?_;rintro _ _ ⟨rfl,rfl⟩))|(refine wo ?_;first|refine oa ?_|refine ldl ?_)|(refine gc ?_;first|refine ct ?_)|refine sq ?_|refine rg ?_|refine xc ?_|refine nl ?_
  refine sr (b:=q) (j:=j) (cs:=cs) (cs':=cs.set j (I (getR B s w).1)) (T:=TPk) (v:=I (getR B s w).1) ?_ (hs:=SetAt.of _ _ _ hj)
  repeat' first|refine nl ?_
  exact e0 rfl
set_option maxHeartbeats 2000000 in
theorem PGet_tr (b:Value) (l:List Int) (hl:l.length ≤ 1099511627776) (hin:inB l):Tr Tryz.prog 71 [b] [vw b (By l)] []
  fun v D=>∃ dv,v = tup2 (.agg #[I (pgetR l).1.kd,I (pgetR l).1.sn,I (pgetR l).1.bn,I (pgetR l).1.pn,I (pgetR l).1.rn,dv]) (I (pgetR l).2)∧dv.oneCell' = true∧D = [own TyB dv (By (pgetR l).1.l)]:=by
 have hO:=Open_tr b l hl
 have hBl:(openR l).1.length ≤ 1099511627776:=by unfold openR;split <;> (try split) <;> simp <;> omega
 have hBi:inB (openR l).1:=by
  unfold openR;split
  ·exact inB.nil
  ·split
   ·exact fun x hx=>hin x (List.mem_of_mem_take hx)
   ·exact inB.nil
 unfold pgetR
 generalize openR l = O at *
 obtain ⟨B,oe⟩:=O
 dsimp only at hO hBl hBi ⊢
 refine Tr.enter env _ Tryz.func71 (by kernel_rfl) rfl Tryz.ntmps71 rfl (by repeat (first | exact has00 | refine has01 ?_)) fun w0=>?_
 by_cases he:oe = 0
 rotate_left
 ·rw [if_neg he]
  repeat' first|(refine gca ?_;first|(refine ca hO ?_;rintro _ _ ⟨o,rfl,ho,rfl⟩))|refine al fun z=>?_|refine bdz ?_|refine srz ?_|(refine wo ?_;first|(refine ao ?_;first|refine oa ?_)|refine oa ?_)|(refine gc ?_;first|(refine cn (fun hB=>?_) (fun hB=>?_) <;> try (exfalso;omega)))|refine sq ?_|refine rg ?_|refine xc ?_|refine nl ?_|refine rt ?_
  refine TX.im (own_nil TyB _) ?_
  exact rca (vs:=[I 0,I 0,I 0,I 0,I 0,nS]) ⟨nS,rfl,rfl,rfl⟩
 subst he
 rw [if_pos rfl]
 have G1:=fun p bv=>Get_tr p bv rs0 B 1 (rs0_ok B) hBl hBi
 have G2:=fun p bv=>Get_tr p bv (gk B).2 B 4 (gk_ok B) hBl hBi
 repeat' first|(refine gca ?_;first|(refine ca hO ?_;rintro _ _ ⟨o,rfl,ho,rfl⟩)|(refine ca (NewReader_tr o B hBl) ?_;rintro _ _ ⟨p,bv,rfl,hbv,rfl⟩))|refine al fun z=>?_|(refine wo ?_;first|(refine ao ?_;first|refine oa ?_)|refine oa ?_|refine sr ?_)|(refine gc ?_;first|refine cf ?_)|refine sq ?_|refine rg ?_|refine xc ?_|refine nl ?_|refine sk ?_
 rename_i zr
 replace G1:=G1 p bv
 replace G2:=G2 p bv
 refine cutK (a:=.region 5 _ _) (ι:=Nat) (fun _=>True) (fun q=>[(2,ptr zr),(3,I 0),(6,ptr z),(7,ptr q)]) (fun q=>[pt zr [I 0,I 0,I 0,I 0,I 0,nS] TPk,pt z [ptr p] TpR,pt q [I (gk B).1,I (gs_ B).1,I 0,I 0,I 0,nS] TPk,pt p [bv,.bool true,I (gs_ B).2.at_,I (gs_ B).2.fe,I (gs_ B).2.fa] TRd,own TyB bv (By B)]) ?_ (fun kb=>?_)
 rotate_left
 ·refine rs (id:=5) (fun w=>w.heap[z]? = some (.cells [ptr p].toArray TpR (0,0))) ?_ (fun w hw=>pt_at memA hw)
  refine tkl 0 (cs:=[ptr p]) (fun w h=>h) ?_
  refine tkl 2 (cs:=[ptr p]) (fun w h=>h) ?_
  refine t2 1 5 ?_ ?_
  ·refine ca G1 ?_
   rintro _ _ ⟨rfl,rfl⟩
   refine nl ?_
   refine te (fun w hw=>pt_at memA hw) ?_
   refine t2 3 5 ?_ ?_
   ·refine ca G2 ?_
    rintro _ _ ⟨rfl,rfl⟩
    refine nl ?_
    refine te (fun w hw=>pt_at memA hw) ?_
    refine t2 4 5 ?_ ?_
    ·refine bdz ?_
     refine nl ?_
     refine te (fun w hw=>pt_at memA hw) ?_
     refine t1 5 ?_
     refine al fun q=>?_
     refine nl ?_
     refine te (fun w hw=>pt_at memA hw) ?_
     refine t1 6 ?_
     refine srz ?_
     refine nl ?_
     refine te (fun w hw=>pt_at memA hw) ?_
     refine t0 ?_
     refine xc ?_
     exact kb q trivial _ _ (by (repeat (refine Sub.cons rfl (by first | rfl | go_num) ?_));exact Sub.nil) fitA
    ·refine al fun q=>?_
     refine nl ?_
     refine te (fun w hw=>pt_at memA hw) ?_
     refine t1 4 ?_
     refine bdz ?_
     refine nl ?_
     refine te (fun w hw=>pt_at memA hw) ?_
     refine t1 6 ?_
     refine srz ?_
     refine nl ?_
     refine te (fun w hw=>pt_at memA hw) ?_
     refine t0 ?_
     refine xc ?_
     exact kb q trivial _ _ (by (repeat (refine Sub.cons rfl (by first | rfl | go_num) ?_));exact Sub.nil) fitA
   ·refine al fun q=>?_
    refine nl ?_
    refine te (fun w hw=>pt_at memA hw) ?_
    refine t1 3 ?_
    refine ca G2 ?_
    rintro _ _ ⟨rfl,rfl⟩
    refine nl ?_
    refine te (fun w hw=>pt_at memA hw) ?_
    refine t1 4 ?_
    refine bdz ?_
    refine nl ?_
    refine te (fun w hw=>pt_at memA hw) ?_
    refine t1 6 ?_
    refine srz ?_
    refine nl ?_
    refine te (fun w hw=>pt_at memA hw) ?_
    refine t0 ?_
    refine xc ?_
    exact kb q trivial _ _ (by (repeat (refine Sub.cons rfl (by first | rfl | go_num) ?_));exact Sub.nil) fitA
  ·refine al fun q=>?_
   refine nl ?_
   refine te (fun w hw=>pt_at memA hw) ?_
   refine t1 1 ?_
   refine ca G1 ?_
   rintro _ _ ⟨rfl,rfl⟩
   refine nl ?_
   refine te (fun w hw=>pt_at memA hw) ?_
   refine t1 3 ?_
   refine ca G2 ?_
   rintro _ _ ⟨rfl,rfl⟩
   refine nl ?_
   refine te (fun w hw=>pt_at memA hw) ?_
   refine t1 4 ?_
   refine bdz ?_
   refine nl ?_
   refine te (fun w hw=>pt_at memA hw) ?_
   refine t1 6 ?_
   refine srz ?_
   refine nl ?_
   refine te (fun w hw=>pt_at memA hw) ?_
   refine t0 ?_
   refine xc ?_
   exact kb q trivial _ _ (by (repeat (refine Sub.cons rfl (by first | rfl | go_num) ?_));exact Sub.nil) fitA
 intro q _
 have hbody:bodyR B = if 1 ≤ (gk B).1∧(gk B).1 ≤ 5 then (if endR B (gd B).2 = (0,0)∧pkOk (gk B).1 (gs_ B).1 (gb B).1 (gp B).1 (gr B).1 (gd B).1.length then (gAll B,0) else (PkS.zero,6)) else (PkS.zero,6):=rfl
 rw [hbody]
 by_cases hk:1 ≤ (gk B).1∧(gk B).1 ≤ 5
 rotate_left
 ·rw [if_neg hk]
  repeat' first|(refine gca ?_;first|(refine ca (within_tr _ 1 5) ?_;rintro _ _ ⟨rfl,rfl⟩;rw [decide_eq_false hk]))|refine bdz ?_|refine srz ?_|(refine wo ?_;first|refine oa ?_|refine ld ?_)|(refine gc ?_;first|refine ct ?_)|refine sq ?_|refine rg ?_|refine xc ?_|refine nl ?_|refine rt ?_
  refine TX.im (own_nil TyB _) ?_
  exact rca (b:=zr) (vs:=[I 0,I 0,I 0,I 0,I 0,nS]) ⟨nS,rfl,rfl,rfl⟩
 rw [if_pos hk]
 repeat' first|(refine gca ?_;first|(refine ca (within_tr _ 1 5) ?_;rintro _ _ ⟨rfl,rfl⟩;rw [decide_eq_true hk]))|(refine wo ?_;first|refine oa ?_|refine ld ?_)|(refine gc ?_;first|refine cf ?_)|refine sq ?_|refine rg ?_|refine xc ?_|refine nl ?_|refine sk ?_
 refine cutK (a:=.region 8 _ _) (ι:=Nat) (fun _=>True) (fun t=>[(2,ptr zr),(3,I 0),(6,ptr z),(7,ptr q),(8,ptr t)]) (fun t=>[pt zr [I 0,I 0,I 0,I 0,I 0,nS] TPk,pt z [ptr p] TpR,pt q [I (gk B).1,I (gs_ B).1,I 0,I 0,I 0,nS] TPk,pt p [bv,.bool true,I (gs_ B).2.at_,I (gs_ B).2.fe,I (gs_ B).2.fa] TRd,own TyB bv (By B),pt t (frm (gk B).1) TFm]) ?_ (fun kb=>?_)
 rotate_left
 ·have hkd:1 ≤ (gk B).1∧(gk B).1 ≤ 5:=hk
  refine rs (id:=8) (fun w=>w.heap[q]? = some (.cells [I (gk B).1,I (gs_ B).1,I 0,I 0,I 0,nS].toArray TPk (0,0))) ?_ (fun w hw=>pt_at memA hw)
  refine tka 1 ?_
  refine tkl 2 (cs:=[I (gk B).1,I (gs_ B).1,I 0,I 0,I 0,nS]) (fun w h=>h) ?_
  refine t2 0 4 ?_ ?_
  ·refine ca forms_tr ?_
   rintro _ _ ⟨rfl,rfl⟩
   refine nl ?_
   refine te (fun w hw=>pt_at memA hw) ?_
   refine tk 3 (v:=.agg (frm (gk B).1).toArray) (hi:=rfl) (fun w h=>by exact R_indexA (E:=env) (cs:=formL) rfl rfl rfl rfl rfl rfl (by omega) (frm_at hkd)) ?_
   refine t1 4 ?_
   refine al fun p3=>?_
   refine nl ?_
   refine te (fun w hw=>pt_at memA hw) ?_
   refine t1 5 ?_
   refine srz (vs:=frm (gk B).1) (cs':=frm (gk B).1) ?_ (hl:=rfl) (h1:=frm_one _) (hj:=Nat.le_of_ble_eq_true rfl) (hs:=rfl)
   refine nl ?_
   refine te (fun w hw=>pt_at memA hw) ?_
   refine t0 ?_
   refine xc ?_
   exact kb p3 trivial _ _ (by (repeat (refine Sub.cons rfl (by first | rfl | go_num) ?_));exact Sub.nil) fitA
  ·refine al fun p3=>?_
   refine nl ?_
   refine te (fun w hw=>pt_at memA hw) ?_
   refine t1 0 ?_
   refine ca forms_tr ?_
   rintro _ _ ⟨rfl,rfl⟩
   refine nl ?_
   refine te (fun w hw=>pt_at memA hw) ?_
   refine tk 3 (v:=.agg (frm (gk B).1).toArray) (hi:=rfl) (fun w h=>by exact R_indexA (E:=env) (cs:=formL) rfl rfl rfl rfl rfl rfl (by omega) (frm_at hkd)) ?_
   refine t1 5 ?_
   refine srz (vs:=frm (gk B).1) (cs':=frm (gk B).1) ?_ (hl:=rfl) (h1:=frm_one _) (hj:=Nat.le_of_ble_eq_true rfl) (hs:=rfl)
   refine nl ?_
   refine te (fun w hw=>pt_at memA hw) ?_
   refine t0 ?_
   refine xc ?_
   exact kb p3 trivial _ _ (by (repeat (refine Sub.cons rfl (by first | rfl | go_num) ?_));exact Sub.nil) fitA
 intro t _
 have e3:gIf (frmB (gk B).1) B (gs_ B).2 4 = gb B:=rfl
 have e4:gIf (frmB (gk B).1 && frmD (gk B).1) B (gb B).2 4 = gp B:=rfl
 have e5:gIf (decide (0 < frmR (gk B).1)) B (gp B).2 1 = gr B:=rfl
 have ed:gd B = bif frmD (gk B).1 then takesR B (gr B).2 (restR B (gr B).2) true else ([],(gr B).2):=rfl
 have T3:=fun b w cs hj h0=>take_tr p q z 2 b bv (gs_ B).2 B cs w hj h0 (gs_ok B) hBl hBi
 have T4:=fun b w cs hj h0=>take_tr p q z 3 b bv (gb B).2 B cs w hj h0 (gb_ok B) hBl hBi
 have T5:=fun b w cs hj h0=>take_tr p q z 4 b bv (gp B).2 B cs w hj h0 (gp_ok B) hBl hBi
 have hgr:=gr_ok B
 have hgd:=gd_ok B
 have hAll:gAll B = ⟨(gk B).1,(gs_ B).1,(gb B).1,(gp B).1,(gr B).1,(gd B).1⟩:=rfl
 rw [hAll]
 unfold frm
 generalize gk B = K at *
 generalize gs_ B = S at *
 generalize gb B = Bk at *
 generalize gp B = Pn at *
 generalize gr B = Rn at *
 generalize frmR K.1 = fr at *
 generalize frmD K.1 = fd at *
 generalize frmB K.1 = fb at *
 have lt:∀ {j:Nat} {x0 x1 x2 x3 x4 x5:Value},Nat.ble (j + 1) 6 = true→j < [x0,x1,x2,x3,x4,x5].length:=fun h=>Nat.le_of_ble_eq_true h
 repeat' first|(refine wo ?_;first|refine oa ?_|refine ld ?_)|refine sq ?_|refine rg ?_|refine xc ?_|refine nl ?_
 refine cav (vs:=[.bool fb,I 4,.pointer (some ⟨q,2,none⟩)]) (cap:=#[ptr z]) (T3 fb 4 [I K.1,I S.1,I 0,I 0,I 0,nS] (lt rfl) (fun _=>rfl)) ?_
 rintro _ _ rfl
 rw [e3]
 repeat' first|refine sq_cutX (a:=.region 11 _ _) (ι:=Unit) (fun _=>True) (fun _=>[(2,ptr zr),(3,I 0),(6,ptr z),(7,ptr q),(8,ptr t),(9,.func (.func 109) #[] #[ptr z])]) (fun _=>[pt zr [I 0,I 0,I 0,I 0,I 0,nS] TPk,pt z [ptr p] TpR,pt q [I K.1,I S.1,I Bk.1,I Pn.1,I 0,nS] TPk,pt p [bv,.bool true,I Pn.2.at_,I Pn.2.fe,I Pn.2.fa] TRd,own TyB bv (By B),pt t [.bool fb,.bool fd,I fr] TFm]) ?_ (fun kb=>?_)|(refine wo ?_;first|refine oa ?_|refine ld ?_|refine gy ?_|refine gn ?_|(refine gs (fun hB=>?_) (fun hB=>?_) <;> try (exfalso;omega)))|refine rg ?_|refine xc ?_|refine nl ?_
 rotate_left
 ·rw [hB,Bool.true_and] at e4
  refine cav (vs:=[.bool fd,I 4,.pointer (some ⟨q,3,none⟩)]) (cap:=#[ptr z]) (T4 fd 4 [I K.1,I S.1,I Bk.1,I 0,I 0,nS] (lt rfl) (fun _=>rfl)) ?_
  rintro _ _ rfl
  rw [e4]
  refine nl ?_
  refine xc ?_
  exact kb () trivial _ _ (by (repeat (refine Sub.cons rfl (by first | rfl | go_num) ?_));exact Sub.nil) fitA
 ·rw [hB,Bool.false_and] at e4
  refine cav (vs:=[.bool false,I 4,.pointer (some ⟨q,3,none⟩)]) (cap:=#[ptr z]) (T4 false 4 [I K.1,I S.1,I Bk.1,I 0,I 0,nS] (lt rfl) (fun _=>rfl)) ?_
  rintro _ _ rfl
  rw [e4]
  refine nl ?_
  refine xc ?_
  exact kb () trivial _ _ (by (repeat (refine Sub.cons rfl (by first | rfl | go_num) ?_));exact Sub.nil) fitA
 clear T3 T4
 intro _ _
 repeat' first|(refine wo ?_;first|(refine ao ?_;first|refine oa ?_)|refine oa ?_|refine ld ?_)|refine sq ?_|refine rg ?_
 refine cav (vs:=[.bool (decide (0 < fr)),I 1,.pointer (some ⟨q,4,none⟩)]) (cap:=#[ptr z]) (T5 (decide (0 < fr)) 1 [I K.1,I S.1,I Bk.1,I Pn.1,I 0,nS] (lt rfl) (fun _=>rfl)) ?_
 rintro _ _ rfl
 rw [e5]
 repeat' first|refine sq_cutY (a:=.seq (.region 13 _ _) _) (ι:=Value) (fun dv=>dv.oneCell' = true) (fun dv=>[(2,ptr zr),(3,I 0),(6,ptr z),(7,ptr q)]) (fun dv=>[pt zr [I 0,I 0,I 0,I 0,I 0,nS] TPk,pt z [ptr p] TpR,pt q [I K.1,I S.1,I Bk.1,I Pn.1,I Rn.1,dv] TPk,pt p [bv,.bool true,I (gd B).2.at_,I (gd B).2.fe,I (gd B).2.fa] TRd,own TyB bv (By B),own TyB dv (By (gd B).1)]) ?_ (fun b' kb=>?_)|(refine wo ?_;first|refine oa ?_|refine ld ?_)|(refine gc ?_;first|(refine cb (fun hB=>?_) (fun hB=>?_) <;> try (exfalso;omega)))|refine sq ?_|refine rg ?_|refine xc ?_|refine nl ?_|refine sk ?_
 rotate_left
 ·rw [hB,cond_true] at ed
  refine rs (id:=14) (fun w=>w.heap[z]? = some (.cells [ptr p].toArray TpR (0,0))) ?_ (fun w hw=>pt_at memA hw)
  refine tkl 0 (cs:=[ptr p]) (fun w h=>h) ?_
  refine tkl 1 (cs:=[ptr p]) (fun w h=>h) ?_
  refine t1 2 ?_
  refine ca (Rest_tr p bv Rn.2 B hgr) ?_
  rintro _ _ ⟨rfl,rfl⟩
  refine nl ?_
  refine te (fun w hw=>pt_at memA hw) ?_
  refine t1 3 ?_
  refine ca (RRaw_tr p bv Rn.2 B (restR B Rn.2) hgr hBl) ?_
  rintro dv _ ⟨hdv,rfl⟩
  refine nl ?_
  refine te (fun w hw=>pt_at memA hw) ?_
  refine tka 4 ?_
  refine t1 5 ?_
  refine sr ?_
  refine nl ?_
  refine te (fun w hw=>pt_at memA hw) ?_
  refine t0 ?_
  refine xc ?_
  exact kb dv hdv _ _ (by (repeat (refine Sub.cons rfl (by first | rfl | go_num) ?_));exact Sub.nil) (by rw [ed];exact fitA)
 ·rw [hB,cond_false] at ed
  refine TC.im (own_nil TyB _) ?_
  exact kb nS rfl _ _ (by (repeat (refine Sub.cons rfl (by first | rfl | go_num) ?_));exact Sub.nil) (by rw [ed];exact fitA)
 intro dv hdv
 generalize gd B = Dd at *
 have hC:=PCheck_tr K.1 S.1 Bk.1 Pn.1 Rn.1 dv Dd.1 hdv
 by_cases hE:endR B Dd.2 = (0,0)∧pkOk K.1 S.1 Bk.1 Pn.1 Rn.1 Dd.1.length
 ·rw [if_pos hE]
  rw [show pkE K.1 S.1 Bk.1 Pn.1 Rn.1 Dd.1.length = 0 from if_pos hE.2] at hC
  repeat' first|(refine gca ?_;first|(refine ca (End_tr p bv Dd.2 B hgd) ?_;rintro _ _ ⟨rfl,rfl⟩;rw [hE.1])|(refine ca hC ?_;rintro _ _ ⟨rfl,rfl⟩)|(refine ca (Clip_tr dv Dd.1) ?_;rintro dv2 _ ⟨hdv2,rfl⟩))|refine bdz ?_|refine TO.val (fun _ _=>by exact R_ne2 (E:=env) rfl rfl rfl (by decide) (by decide) rfl rfl (by kernel_rfl) (by kernel_rfl) rfl rfl) ?_|refine lda ?_|refine srz ?_ (hj:=Nat.le_of_ble_eq_true rfl)|(refine wo ?_;first|(refine ao ?_;first|refine oa ?_)|refine oa ?_|refine ld ?_|refine sr ?_|refine gy ?_)|(refine gc ?_;first|refine cf ?_)|refine sq ?_|refine rg ?_|refine xc ?_|refine nl ?_|refine sk ?_|refine rt ?_
  exact rca (b:=zr) (vs:=[I K.1,I S.1,I Bk.1,I Pn.1,I Rn.1,dv2]) ⟨dv2,rfl,hdv2,rfl⟩
 ·rw [if_neg hE]
  have hE2:¬ ((endR B Dd.2).1 = 0∧(endR B Dd.2).2 = 0)∨pkE K.1 S.1 Bk.1 Pn.1 Rn.1 Dd.1.length ≠ 0:=by
   by_cases h1:(endR B Dd.2).1 = 0∧(endR B Dd.2).2 = 0
   ·refine .inr fun h2=>hE ⟨Prod.ext h1.1 h1.2,?_⟩
    unfold pkE at h2
    split at h2
    ·assumption
    ·cases h2
   ·exact .inl h1
  repeat' first|(refine gca ?_;first|(refine ca (End_tr p bv Dd.2 B hgd) ?_;rintro _ _ ⟨rfl,rfl⟩)|(refine ca hC ?_;rintro _ _ ⟨rfl,rfl⟩))|refine bdz ?_|refine TO.val (fun _ _=>by exact R_ne2 (E:=env) rfl rfl rfl (by decide) (by decide) rfl rfl (by kernel_rfl) (by kernel_rfl) rfl rfl) ?_|refine lda ?_|refine srz ?_ (hj:=Nat.le_of_ble_eq_true rfl)|(refine wo ?_;first|(refine ao ?_;first|refine oa ?_)|refine oa ?_|refine ld ?_|refine gy ?_|refine gn ?_|(refine gsn (fun hB=>?_) (fun hB=>?_) <;> try (exfalso;omega)))|(refine gc ?_;first|refine ct ?_|(refine cn (fun hB=>?_) (fun hB=>?_) <;> try (exfalso;omega)))|refine sq ?_|refine rg ?_|refine xc ?_|refine nl ?_|refine rt ?_
  all_goals
   refine TX.im (own_nil TyB _) ?_
   exact rca (b:=zr) (vs:=[I 0,I 0,I 0,I 0,I 0,nS]) ⟨nS,rfl,rfl,rfl⟩
end Go.Art
namespace Go.Art
open Go Go.Proofs Go.RowKit
def minI (p q:Int):Int:=if q < p then q else p
theorem minI_le (p q:Int):minI p q ≤ p∧minI p q ≤ q∧(minI p q = p∨minI p q = q):=by unfold minI;split <;> omega
section
variable {P:Program} {E:Env P} {n:Sh} {X:Cx} {s:List K} {fr:Fr} {A A':List Ch} {ops:Array Oper} {rest:List Oper} {d m b j sz by_:Nat} {ty t t' el:TypeId} {pos:String} {after:Array Edge} {x y:Operand} {w:World} {p q i:Int} {k1:IntKind} {cs vs:List Value} {v z:Value} {dt:TypeDesc}
theorem R_min2 (hx:ev fr x = some (I p)) (hy:ev fr y = some (I q)):OpV P n fr (.call ⟨.builtin .min,#[x,y],#[t,t']⟩) ty w (I (minI p q)) w:=⟨fun a ha _ _ _ _=>by
 simp only [execOp,resolve]
 simp [ha.ev hx,ha.ev hy,invoke,builtin,Builtin.min_,Builtin.min2,minI]⟩
theorem mn2 (k:TO E n X s ops rest ((d,I (minI p q)) :: fr) A) (hx:ev fr x = some (I p):=by rfl) (hy:ev fr y = some (I q):=by rfl) (hd:Nat.blt d n.n = true:=by rfl):TO E n X s ops (⟨some d,.call ⟨.builtin .min,#[x,y],#[t,t']⟩,ty,pos,after,none⟩ :: rest) fr A:=TO.val (fun _ _=>R_min2 hx hy) k hd
theorem ixv (k:TO E n X s ops rest ((d,v) :: fr) A) (hx:ev fr x = some (.agg cs.toArray):=by rfl) (hy:ev fr y = some (.int k1 i):=by rfl) (ht:lk E.und t = some (.array m el):=by rfl) (hdt:lk E.und el = some dt:=by rfl) (hg:aggB dt = false:=by rfl) (h1:lk E.inf el = some (z,1,by_):=by rfl) (hi:0 ≤ i∧i < m:=by omega) (hv:cs[i.toNat]? = some v:=by rfl)
  (hd:Nat.blt d n.n = true:=by rfl):TO E n X s ops (⟨some d,.index t x y,ty,pos,after,none⟩ :: rest) fr A:=TO.val (fun _ _=>R_index1 ht hdt hg h1 hx hy hi hv) k hd
theorem ixw (k:TO E n X s ops rest ((d,.agg vs.toArray) :: fr) A) (hx:ev fr x = some (.agg cs.toArray):=by rfl) (hy:ev fr y = some (.int k1 i):=by rfl) (ht:lk E.und t = some (.array m el):=by rfl) (hdt:lk E.und el = some dt:=by rfl) (hg:aggB dt = true:=by rfl) (h1:lk E.inf el = some (z,sz,by_):=by rfl) (hi:0 ≤ i∧i < m:=by omega) (hv:(cs.drop (i.toNat * sz)).take sz = vs:=by rfl)
  (hd:Nat.blt d n.n = true:=by rfl):TO E n X s ops (⟨some d,.index t x y,ty,pos,after,none⟩ :: rest) fr A:=TO.val (fun _ _=>R_indexA ht hdt hg h1 hx hy hi hv) k hd
theorem R_idxS {m:Nat} (ht:lk E.und t = some (.array m el)) (he:lk E.inf el = some (z,sz,by_)) (hx:ev fr x = some (.pointer (some ⟨b,j,none⟩))) (hy:ev fr y = some (.int k1 i)) (h:0 ≤ i∧i < m) :
  OpV P n fr (.indexAddr t x y) ty w (.pointer (some ⟨b,j + i.toNat * sz,none⟩)) w:=⟨fun a ha _ _ _ _=>by
 obtain ⟨inf,hi,_,hsz,_⟩:=E.info he
 simp only [execOp,ha.ev hx,ha.ev hy]
 simp [Instr.indexAt,asIntOf,run_underlying (P:=P) (E.un ht) w,h,sizeOf,typeInfo,hi,hsz,Instr.sureAddr,Addr.add_lit]⟩
theorem ixs (k:TO E n X s ops rest ((d,.pointer (some ⟨b,j + i.toNat * sz,none⟩)) :: fr) A) (hx:ev fr x = some (.pointer (some ⟨b,j,none⟩)):=by rfl) (hy:ev fr y = some (.int k1 i):=by rfl) (ht:lk E.und t = some (.array m el):=by rfl) (he:lk E.inf el = some (z,sz,by_):=by rfl) (hi:0 ≤ i∧i < m:=by omega)
  (hd:Nat.blt d n.n = true:=by rfl):TO E n X s ops (⟨some d,.indexAddr t x y,ty,pos,after,none⟩ :: rest) fr A:=TO.val (fun _ _=>R_idxS ht he hx hy hi) k hd
end
structure MfS where
 size:Int
 sym:Int
 k:Int
 seed:Int
 t:List Int
def wBad (w:Int):Bool:=!decide (0 ≤ w∧w ≤ 16777215)
def wSome (w:Int):Bool:=decide (0 < w)
def mtB (t:List Int) (m:Int):Bool:=decide ((t.length:Int) ≤ m) && (!t.any wBad && t.any wSome)
def MfS.ok (m:MfS):Prop:=(0 ≤ m.size∧m.size ≤ 4294967295)∧(1 ≤ m.sym∧m.sym ≤ 65535)∧(1 ≤ m.k∧m.k ≤ 65536)∧0 ≤ m.seed∧mtB m.t (minI m.k 10000) = true
instance (m:MfS):Decidable m.ok:=by unfold MfS.ok;infer_instance
def mfE (m:MfS):Int:=if m.ok then 0 else 2
def MfS.full (m:MfS):Int:=m.k * m.sym
def MfS.blocks (m:MfS):Int:=if m.ok then (m.size + m.full - 1) / m.full else 0
theorem MfS.full_in {m:MfS} (h:m.ok):1 ≤ m.full∧m.full ≤ 4294901760:=by
 obtain ⟨_,h1,h2,_⟩:=h
 unfold MfS.full
 have a:=Int.mul_le_mul (show (1:Int) ≤ m.k by omega) (show (1:Int) ≤ m.sym by omega) (by omega) (by omega)
 have b:=Int.mul_le_mul (show m.k ≤ 65536 by omega) (show m.sym ≤ 65535 by omega) (by omega) (by omega)
 omega
theorem mtB_sol {t:List Int} {k:Int} (hk:1 ≤ k∧k ≤ 65536) (h:mtB t (minI k 10000) = true):solE t k = 0∧t.length ≤ 10000:=by
 unfold mtB at h
 rw [Bool.and_eq_true,Bool.and_eq_true,decide_eq_true_iff,Bool.not_eq_true'] at h
 obtain ⟨h1,h2,h3⟩:=h
 have hm:=minI_le k 10000
 have h4:=List.any_eq_true.1 h3
 obtain ⟨x,hx,hx2⟩:=h4
 have hne:1 ≤ t.length:=by cases t with
  | nil=>cases hx
  | cons=>simp
 refine ⟨?_,by omega⟩
 unfold solE
 rw [if_neg (by omega),if_pos]
 rw [Bool.and_eq_true,List.all_eq_true,List.any_eq_true]
 refine ⟨fun w hw=>?_,x,hx,hx2⟩
 have:=List.any_eq_false.1 h2 w hw
 simpa [wBad,wOk] using this
attribute [local irreducible] Fit pt own ro vw mpc lpt vels rels mow lrc dfr
attribute [local irreducible] lmp lme mit velg relg
abbrev TMf:TypeId:=24
theorem mwithin_tr (n lo hi:Int):Tr Tryz.prog 78 [I n,I lo,I hi] [] [] fun v D=>v = .bool (decide (lo ≤ n∧n ≤ hi))∧D = []:=by
 refine Tr.enter env _ Tryz.func78 (by kernel_rfl) rfl Tryz.ntmps78 rfl (by repeat (first | exact has00 | refine has01 ?_)) fun w0=>?_
 repeat' first|(refine wo ?_;first|(refine ao ?_;first|refine oa ?_)|refine oa ?_|refine gy ?_|refine gn ?_|(refine gsi (fun hB=>?_) (fun hB=>?_) <;> try (exfalso;omega)))|refine sq ?_|refine rg ?_|refine xc ?_|refine nl ?_|refine rt ?_
 all_goals refine r1 ⟨?_,rfl⟩
 all_goals first
  | rw [decide_eq_false (fun h:lo ≤ n∧n ≤ hi=>by omega)]
  | (congr 1;exact decide_eq_decide.2 ⟨fun h=>by omega,fun h=>by omega⟩)
theorem odd_tr (x:Int):Tr Tryz.prog 120 [I x] [] [] fun v D=>v = .bool (wBad x)∧D = []:=by
 refine Tr.enter env _ Tryz.func120 (by kernel_rfl) rfl Tryz.ntmps120 rfl (by repeat (first | exact has00 | refine has01 ?_)) fun w0=>?_
 repeat' first|(refine gca ?_;first|(refine ca (mwithin_tr x _ _) ?_;rintro _ _ ⟨rfl,rfl⟩))|(refine wo ?_;first|refine oa ?_)|refine sq ?_|refine rg ?_|refine xc ?_|refine nl ?_|refine rt ?_
 exact r1 ⟨rfl,rfl⟩
theorem some_tr (x:Int):Tr Tryz.prog 121 [I x] [] [] fun v D=>v = .bool (wSome x)∧D = []:=by
 refine Tr.enter env _ Tryz.func121 (by kernel_rfl) rfl Tryz.ntmps121 rfl (by repeat (first | exact has00 | refine has01 ?_)) fun w0=>?_
 repeat' first|(refine wo ?_;first|(refine ao ?_;first|refine oa ?_)|refine oa ?_)|refine sq ?_|refine rg ?_|refine xc ?_|refine nl ?_|refine rt ?_
 exact r1 ⟨rfl,rfl⟩
theorem table_tr (s:Value) (t:List Int) (m:Int):Tr Tryz.prog 79 [s,I m] [vw s (Is t)] [] fun v D=>v = .bool (mtB t m)∧D = []:=by
 refine Tr.enter env _ Tryz.func79 (by kernel_rfl) rfl Tryz.ntmps79 rfl (by repeat (first | exact has00 | refine has01 ?_)) fun w0=>?_
 refine TC.leni (l:=t) fun htl=>?_
 repeat' first|(refine gca ?_;first|(refine ca (IContainsFunc_tr s t 120 [] [] wBad hpl_nil (fun x _=>odd_tr x)) ?_;rintro _ _ ⟨rfl,rfl⟩)|(refine ca (IContainsFunc_tr s t 121 [] [] wSome hpl_nil (fun x _=>some_tr x)) ?_;rintro _ _ ⟨rfl,rfl⟩))|(refine wo ?_;first|(refine ao ?_;first|refine oa ?_)|refine oa ?_|refine lnm ?_|refine gy ?_|refine gn ?_|(refine gsi (fun hB=>?_) (fun hB=>?_) <;> try (exfalso;omega))|(refine gs (fun hB=>?_) (fun hB=>?_) <;> try (exfalso;omega)))|refine sq ?_|refine rg ?_|refine xc ?_|refine nl ?_|refine rt ?_
 all_goals refine r1 ⟨?_,rfl⟩
 all_goals unfold mtB
 all_goals generalize t.any wBad = b1 at *
 all_goals generalize t.any wSome = b2 at *
 all_goals cases b1 <;> cases b2 <;> simp_all
 all_goals omega
theorem MCheck_tr (m:MfS) (tv:Value) (hv:tv.oneCell' = true):Tr Tryz.prog 45 [.agg #[I m.size,I m.sym,I m.k,I m.seed,tv]] [vw tv (Is m.t)] [] fun v D=>v = I (mfE m)∧D = []:=by
 have hE:mfE m = if (0 ≤ m.size∧m.size ≤ 4294967295) then if (1 ≤ m.sym∧m.sym ≤ 65535) then if (1 ≤ m.k∧m.k ≤ 65536) then if m.seed < 0 then 2 else if mtB m.t (minI m.k 10000) = true then 0 else 2 else 2 else 2 else 2:=by
  unfold mfE
  by_cases h1:(0 ≤ m.size∧m.size ≤ 4294967295)
  ·rw [if_pos h1]
   by_cases h2:(1 ≤ m.sym∧m.sym ≤ 65535)
   ·rw [if_pos h2]
    by_cases h3:(1 ≤ m.k∧m.k ≤ 65536)
    ·rw [if_pos h3]
     by_cases h4:m.seed < 0
     ·rw [if_pos h4,if_neg fun g=>by obtain ⟨_,_,_,g,_⟩:=g;omega]
     ·rw [if_neg h4]
      by_cases h5:mtB m.t (minI m.k 10000) = true
      ·rw [if_pos h5,if_pos ⟨h1,h2,h3,by omega,h5⟩]
      ·rw [if_neg h5,if_neg fun g=>h5 g.2.2.2.2]
    ·rw [if_neg h3,if_neg fun g=>h3 g.2.2.1]
   ·rw [if_neg h2,if_neg fun g=>h2 g.2.1]
  ·rw [if_neg h1,if_neg fun g=>h1 g.1]
 rw [hE]
 clear hE
 obtain ⟨size,sym,k,seed,t⟩:=m
 dsimp only
 refine Tr.enter env _ Tryz.func45 (by kernel_rfl) rfl Tryz.ntmps45 rfl (by repeat (first | exact has00 | refine has01 ?_)) fun w0=>?_
 repeat' first|(refine gca ?_;first|(refine ca (mwithin_tr _ _ _) ?_;rintro _ _ ⟨rfl,rfl⟩)|(refine ca (table_tr tv t _) ?_;rintro _ _ ⟨rfl,rfl⟩))|refine bx fun b=>?_|refine mn2 ?_|(refine wo ?_;first|(refine ao ?_;first|refine oa ?_)|refine oa ?_|refine ld ?_|refine gy ?_|refine gn ?_|(refine gsi (fun hB=>?_) (fun hB=>?_) <;> try (exfalso;omega))|(refine gsn (fun hB=>?_) (fun hB=>?_) <;> try (exfalso;omega)))|(refine gc ?_;first|refine ct ?_|(refine cb (fun hB=>?_) (fun hB=>?_) <;> try (exfalso;omega)))|refine sq ?_|refine rg ?_|refine xc ?_|refine nl ?_|refine sk ?_|refine rt ?_
 all_goals refine r1 ⟨?_,rfl⟩
 all_goals simp [*]
 all_goals simp_all
end Go.Art
namespace Go.Art
open Go Go.Proofs Go.RowKit
attribute [local irreducible] Fit pt own ro vw mpc lpt vels rels mow lrc dfr
theorem SameInts_tr (a b:Value) (xs ys:List Int):Tr Tryz.prog 28 [a,b] [vw a (Is xs),vw b (Is ys)] [] fun v D=>v = .bool (decide (xs = ys))∧D = []:=by
 refine Tr.enter env _ Tryz.func28 (by kernel_rfl) rfl Tryz.ntmps28 rfl (by repeat (first | exact has00 | refine has01 ?_)) fun w0=>?_
 refine TC.leni (l:=xs) fun hl=>?_
 repeat' first|(refine wo ?_;first|(refine ao ?_;first|refine oa ?_)|refine oa ?_|refine lnm ?_)|(refine gc ?_;first|(refine cn (fun hB=>?_) (fun hB=>?_) <;> try (exfalso;omega)))|refine sq ?_|refine rg ?_|refine xc ?_|refine nl ?_|refine sk ?_|refine bk ?_|refine rt ?_
 ·refine r1 ⟨?_,rfl⟩
  rw [decide_eq_false];intro e;subst e;omega
 ·refine TC.loop (ι:=Nat) (fun k=>[(5,I k)]) (fun _=>[]) (fun k=>k ≤ xs.length∧∀ j,j < k→xs.getD j 0 = ys.getD j 0) (fun k=>xs.length - k) 0 [0,1] ⟨by omega,by omega⟩ ?_
  rintro k ⟨hk,heq⟩
  repeat' first|(refine wo ?_;first|(refine ao ?_;first|refine aw ?_|refine oa ?_)|refine oa ?_|refine lnm ?_)|(refine gc ?_;first|(refine ci (fun hB=>?_) (fun hB=>?_) <;> try (exfalso;omega))|(refine cn (fun hB=>?_) (fun hB=>?_) <;> try (exfalso;omega)))|refine sq ?_|refine rg ?_|refine xc ?_|refine nl ?_|refine sk ?_|refine bk ?_|refine xe ?_|refine rt ?_|refine xb ?_|refine rq ?_|refine nq ?_|(refine wq ?_;first|(refine qao ?_;first|refine qa ?_)|refine qa ?_|refine qixmn ?_|refine qli ?_)
  ·refine r1 ⟨?_,rfl⟩
   rw [decide_eq_false];intro e;exact hB (by rw [e])
  ·refine lp (k + 1) ⟨by omega,fun j hj=>?_⟩
   by_cases hjk:j < k
   ·exact heq j hjk
   ·obtain rfl:j = k:=by omega
    assumption
  ·refine r1 ⟨?_,rfl⟩
   rw [decide_eq_true]
   exact eq_of_getD (by omega) (fun j hj=>heq j (by omega))
end Go.Art
namespace Go.Art
open Go Go.Proofs Go.RowKit
attribute [local irreducible] Fit pt own ro vw mpc lpt vels rels mow lrc dfr
theorem CopyInts_tr (a:Value) (xs:List Int) (hb:xs.length * 8 ≤ 140737488355328):Tr Tryz.prog 19 [a] [vw a (Is xs)] [] fun v D=>D = [own 3 v (Is xs)]:=by
 refine Tr.enter env _ Tryz.func19 (by kernel_rfl) rfl Tryz.ntmps19 rfl (by repeat (first | exact has00 | refine has01 ?_)) fun w0=>?_
 refine TC.leni (l:=xs) fun hl=>?_
 repeat' first|(refine wo ?_;first|refine oa ?_)|refine sq ?_|refine rg ?_|refine xc ?_|refine nl ?_
 refine sl0 fun v=>?_
 repeat' first|refine api (l:=[]) fun v=>?_|(refine wo ?_;first|refine oa ?_)|refine xc ?_|refine nl ?_|refine rt ?_
 exact r1 rfl
end Go.Art
namespace Go.Art
open Go Go.Proofs Go.RowKit
attribute [local irreducible] Fit pt own ro vw mpc lpt vels rels mow lrc dfr
theorem OverInts_tr (a:Value) (xs:List Int):Tr Tryz.prog 12 [a] [] [own 3 a (Is xs)] fun v D=>D = []:=by
 refine Tr.enter env _ Tryz.func12 (by kernel_rfl) rfl Tryz.ntmps12 rfl (by repeat (first | exact has00 | refine has01 ?_)) fun w0=>?_
 refine TC.leni (l:=xs) fun hl=>?_
 repeat' first|(refine wo ?_;first|refine oa ?_)|refine sq ?_|refine rg ?_|refine xc ?_|refine nl ?_|refine bk ?_
 refine TC.loop (ι:=Nat × List Int) (fun k=>[(2,I k.1)]) (fun k=>[own 3 a (Is k.2)]) (fun k=>k.2.length = xs.length∧k.1 ≤ xs.length) (fun k=>xs.length - k.1) (0,xs) [0] ⟨rfl,by simp⟩ ?_
 rintro ⟨k,ys⟩ ⟨hl,hk⟩
 dsimp only at hl hk ⊢
 repeat' first|(refine wo ?_;first|(refine ao ?_;first|refine aw ?_|refine oa ?_)|refine oa ?_|refine lnm ?_|refine ixmn ?_|refine soi ?_)|(refine gc ?_;first|(refine ci (fun hB=>?_) (fun hB=>?_) <;> try (exfalso;omega)))|refine sq ?_|refine rg ?_|refine xc ?_|refine nl ?_|refine sk ?_|refine bk ?_|refine xe ?_|refine xb ?_
 ·exact lp (k + 1,ys.set k (-77)) ⟨by simp [hl],by dsimp only;omega⟩
 ·exact e0 rfl
end Go.Art
namespace Go.Art
open Go Go.Proofs Go.RowKit
section
variable {P:Program} {E:Env P} {n:Sh} {X:Cx} {s:List K} {fr:Fr} {A:List Ch} {ops:Array Oper} {rest:List Oper} {d:Nat} {ty t e:TypeId} {pos:String} {after:Array Edge} {x z1 z2:Operand} {z:Value} {by_:Nat}
theorem R_slv {w:World} {o:Option Addr} {m c:Nat} {lo hi:Int} {k1 k2:IntKind} (ht:lk E.und t = some (.slice e)) (he:lk E.inf e = some (z,1,by_)) (hx:ev fr x = some (.slice o m c)) (hl:ev fr z1 = some (.int k1 lo)) (hh:ev fr z2 = some (.int k2 hi)) (hb:0 ≤ lo∧lo ≤ hi∧hi ≤ (c:Int)) :
  OpV P n fr (.slice t x (some z1) (some z2) none) ty w (slSub (.slice o m c) lo.toNat hi.toNat) w:=⟨fun a ha _ _ _ _=>by
 obtain ⟨inf,hi',_,hsz,_⟩:=E.info he
 obtain ⟨p,rfl⟩ : ∃ p:Nat,lo = p:=⟨lo.toNat,by omega⟩
 obtain ⟨q,rfl⟩ : ∃ q:Nat,hi = q:=⟨hi.toNat,by omega⟩
 have hu:=run_underlying (P:=P) (E.un ht) w
 have h1:p ≤ q:=by omega
 have h2:q ≤ c:=by omega
 simp only [execOp,ha.ev hx]
 simp [ha.ev hl,ha.ev hh,Instr.sliceAt,Instr.slice,hu,Instr.sliceBounds,Instr.sliceBound,asIntOf,sizeOf,typeInfo,hi',hsz,slSub,h1,h2]⟩
theorem R_lnv {w:World} {o:Option Addr} {m c:Nat} (hx:ev fr x = some (.slice o m c)) (ht:lk E.und t = some (.slice e)):OpV P n fr (.call ⟨.builtin .len,#[x],#[t]⟩) ty w (I m) w:=⟨fun a ha _ _ _ _=>by
 simp only [execOp,resolve]
 simp [ha.ev hx,invoke,builtin,Builtin.len_,run_underlying (P:=P) (E.un ht) w,goInt]⟩
theorem R_capv {w:World} {o:Option Addr} {m c:Nat} (hx:ev fr x = some (.slice o m c)) (ht:lk E.und t = some (.slice e)):OpV P n fr (.call ⟨.builtin .cap,#[x],#[t]⟩) ty w (I c) w:=⟨fun a ha _ _ _ _=>by
 simp only [execOp,resolve]
 simp [ha.ev hx,invoke,builtin,Builtin.cap_,run_underlying (P:=P) (E.un ht) w,goInt]⟩
theorem capv {o:Option Addr} {m c:Nat} (k:TO E n X s ops rest ((d,I c) :: fr) A) (hx:ev fr x = some (.slice o m c):=by rfl) (ht:lk E.und t = some (.slice e):=by rfl) (hd:Nat.blt d n.n = true:=by rfl):TO E n X s ops (⟨some d,.call ⟨.builtin .cap,#[x],#[t]⟩,ty,pos,after,none⟩ :: rest) fr A:=TO.val (fun _ _=>R_capv hx ht) k hd
theorem R_slh0 {w:World} {a0:Addr} {m c:Nat} {hi:Int} {k2:IntKind} (ht:lk E.und t = some (.slice e)) (he:lk E.inf e = some (z,1,by_)) (hx:ev fr x = some (.slice (some a0) m c)) (hh:ev fr z2 = some (.int k2 hi)) (hb:0 ≤ hi∧hi ≤ (c:Int)) :
  OpV P n fr (.slice t x none (some z2) none) ty w (.slice (some a0) hi.toNat c) w:=⟨fun a ha _ _ _ _=>by
 obtain ⟨inf,hi',_,hsz,_⟩:=E.info he
 obtain ⟨q,rfl⟩ : ∃ q:Nat,hi = q:=⟨hi.toNat,by omega⟩
 have b1:∀ (cd:BoundsCode),(Instr.sliceBound (.int k2 (q:Int)) c cd).run P w = .ok q w:=fun cd=>by
  have:(0:Int) ≤ (q:Int)∧(q:Int) ≤ (c:Int):=by omega
  simp [Instr.sliceBound,asIntOf,this]
 simp only [execOp,ha.ev hx]
 simp only [Option.map,ha.ev hh]
 have e0:a0.add 0 = a0:=by unfold Addr.add;simp
 simp [Instr.sliceAt,Instr.slice,run_underlying (P:=P) (E.un ht) w,Instr.sliceBounds,sizeOf,typeInfo,hi',hsz,b1,e0]⟩
theorem slh0 {a0:Addr} {m c:Nat} {hi:Int} {k2:IntKind} (k:TO E n X s ops rest ((d,.slice (some a0) hi.toNat c) :: fr) A) (hb:0 ≤ hi∧hi ≤ (c:Int)) (hx:ev fr x = some (.slice (some a0) m c):=by rfl) (hh:ev fr z2 = some (.int k2 hi):=by rfl)
  (ht:lk E.und t = some (.slice e):=by rfl) (he:lk E.inf e = some (z,1,by_):=by rfl) (hd:Nat.blt d n.n = true:=by rfl):TO E n X s ops (⟨some d,.slice t x none (some z2) none,ty,pos,after,none⟩ :: rest) fr A:=TO.val (fun _ _=>R_slh0 ht he hx hh hb) k hd
theorem R_strT {w:World} {a:ByteArray} {y:Operand} {t':TypeId} (hx:ev fr x = some (.string a)) (hy:ev fr y = some (.string a)):OpV P n fr (.binOp .eql t x y t') ty w (.bool true) w:=by
 have:=R_streq (P:=P) (n:=n) (ty:=ty) (t:=t) (t':=t') (w:=w) hx hy
 rwa [show (a.toList == a.toList) = true by simp] at this
end
theorem own_form {w:World} {e:TypeId} {v:Value} {xs:List Value} (h1:OwnO w e v xs) (hx:0 < xs.length):∃ b o c,v = .slice (some ⟨b,o,none⟩) xs.length c∧xs.length ≤ c:=by
 rcases h1 with ⟨rfl,rfl⟩ | ⟨b,o,c,cur,rfl,_,h3,_⟩
 ·simp at hx
 ·exact ⟨b,o,c,rfl,h3⟩
theorem TO.form {P:Program} {E:Env P} {n:Sh} {X:Cx} {s:List K} {fr:Fr} {A:List Ch} {ops:Array Oper} {rest:List Oper} {e:TypeId} {v:Value} {xs:List Value} (hx:0 < xs.length) (k:∀ b o c,v = .slice (some ⟨b,o,none⟩) xs.length c→xs.length ≤ c→TO E n X s ops rest fr A) (hm:own e v xs ∈ A:=by exact memA):TO E n X s ops rest fr A:=
 ⟨fun w hw=>by obtain ⟨b,o,c,h1,h2⟩:=own_form (show OwnO w e v xs from hw.mem hm) hx;exact (k b o c h1 h2).run w hw⟩
def spareB (l:List Int):List Int:=l ++ [201,202,203,204]
theorem spare_len (l:List Int):(spareB l).length = l.length + 4:=by unfold spareB;simp
def lentV (V:Value) (n:Nat):Value:=slSub V 0 n
theorem has_lentB {V:Value} {l:List Int} {F:List Ch} (h:Has F (vw V (By (spareB l)))):Has F (vw (lentV V l.length) (By l)):=by
 have h1:=has_sub h (lo:=0) (hi:=l.length) (Nat.zero_le _) (by rw [By_len,spare_len];omega)
 rw [List.drop_zero,show (By (spareB l)).take l.length = By l by unfold By spareB;rw [← List.map_take,List.take_left]] at h1
 exact h1
theorem lent_form (b o m c n:Nat):lentV (.slice (some ⟨b,o,none⟩) m c) n = .slice (some ⟨b,o,none⟩) n c:=by
 have e0:(⟨b,o,none⟩ : Addr).add 0 = ⟨b,o,none⟩:=by unfold Addr.add;simp
 show Value.slice (if c = 0 then some ⟨b,o,none⟩ else (some (⟨b,o,none⟩ : Addr)).map (·.add 0)) (n - 0) (c - 0) = _
 rw [Option.map_some,e0,ite_self]
 rfl
attribute [local irreducible] Fit pt own ro vw mpc lpt vels rels mow lrc dfr
abbrev TKI:TypeId:=3
attribute [local irreducible] lmp lme mit velg relg bnd owl
theorem LentBytes_tr (a:Value) (l:List Int) (hl:l.length ≤ 1099511627776):Tr Tryz.prog 33 [a] [vw a (By l)] []
  fun v D=>∃ b o c,l.length + 4 ≤ c∧v = .slice (some ⟨b,o,none⟩) l.length c∧D = [own TyB (.slice (some ⟨b,o,none⟩) (l.length + 4) c) (By (spareB l))]:=by
 have hbl:=By_len l
 have hsl:(By (spareB l)).length = l.length + 4:=by rw [By_len,spare_len]
 have hsp:l ++ [201,202,203,204] = spareB l:=rfl
 refine Tr.enter env _ Tryz.func33 (by kernel_rfl) rfl Tryz.ntmps33 rfl (by repeat (first | exact has00 | refine has01 ?_)) fun w0=>?_
 repeat' first|(refine sl0 fun v=>?_)|(refine slbz (l:=[201,202,203,204]) fun v3 hv3=>?_)|(refine ap (xs:=[]) (news:=By l) (fun v2=>?_) (h1:=By_one _))|(refine apb (l:=l) (news:=[201,202,203,204]) (fun v4 hv4=>?_);rw [hsp];refine TO.form (v:=v4) (xs:=By (spareB l)) (by omega) fun b o c he hc=>?_;rw [hsl] at he hc;subst he)|(refine ln (xs:=By l) ?_;rw [hbl])|(refine slh0 (hi:=(l.length:Int)) (c:=c) ?_ (by omega);rw [Int.toNat_natCast])|(refine wo ?_;first|refine oa ?_)|refine sq ?_|refine rg ?_|refine xc ?_|refine nl ?_|refine rt ?_
 exact r1 ⟨b,o,c,hc,rfl,rfl⟩
theorem KeptBytes_tr (bb o c:Nat) (bv:Value) (l:List Int) (hin:inB l) (hl:l.length ≤ 1099511627776) (hc:l.length + 4 ≤ c) :
  Tr Tryz.prog 36 [.slice (some ⟨bb,o,none⟩) l.length c,bv] [vw (.slice (some ⟨bb,o,none⟩) (l.length + 4) c) (By (spareB l)),vw bv (By l)] [] fun v D=>v = .bool true∧D = []:=by
 have hbl:=By_len l
 have hLV:lentV (.slice (some ⟨bb,o,none⟩) (l.length + 4) c) l.length = .slice (some ⟨bb,o,none⟩) l.length c:=lent_form _ _ _ _ _
 have hL:∀ F,Has F (vw (.slice (some ⟨bb,o,none⟩) (l.length + 4) c) (By (spareB l)))→Has F (vw (.slice (some ⟨bb,o,none⟩) l.length c) (By l)):=fun F h=>by
  have:=has_lentB h;rwa [hLV] at this
 have hT:∀ F,Has F (vw (.slice (some ⟨bb,o,none⟩) (l.length + 4) c) (By (spareB l)))→Has F (vw (slSub (.slice (some ⟨bb,o,none⟩) c c) l.length (l.length + 4)) (By [201,202,203,204])):=fun F h=>by
  have h1:=has_sub h (lo:=l.length) (hi:=l.length + 4) (by omega) (by rw [By_len,spare_len];exact Nat.le_refl _)
  rw [show ((By (spareB l)).take (l.length + 4)).drop l.length = By [201,202,203,204] by rw [List.take_of_length_le (by rw [By_len,spare_len];omega)];unfold By spareB;rw [← List.map_drop,List.drop_left]] at h1
  exact h1
 refine Tr.enter env _ Tryz.func36 (by kernel_rfl) rfl Tryz.ntmps36 rfl (by repeat (first | exact has00 | refine has01 ?_)) fun w0=>?_
 repeat' first|refine capv ?_|(refine slh0 (hi:=(c:Int)) (c:=c) ?_ (by omega);rw [Int.toNat_natCast])|(refine wo ?_;first|refine oa ?_)|refine sq ?_|refine rg ?_|refine xc ?_|refine nl ?_
 refine rs (id:=2) (fun w=>Sl w (.slice (some ⟨bb,o,none⟩) l.length c) (By l)∧Sl w bv (By l)∧Sl w (slSub (.slice (some ⟨bb,o,none⟩) c c) l.length (l.length + 4)) (By [201,202,203,204])) ?_ (fun w hw=>⟨has_sl hw (hL _ hasA),has_sl hw hasA,has_sl hw (hT _ hasA)⟩)
 refine tka 0 ?_
 refine tk 1 (v:=I l.length) (hi:=rfl) (fun w h=>by exact R_lnv (E:=env) rfl rfl) ?_
 refine tka 2 ?_
 refine tk 3 (v:=I l.length) (hi:=rfl) (fun w h=>by rw [show (l.length:Int) = ((By l).length:Int) by rw [hbl]];exact R_len (E:=env) rfl rfl h.2.1) ?_
 refine tk 4 (v:=.bool true) (hi:=rfl) (fun w h=>by exact R_true (R_auto (E:=env) rfl) rfl) ?_
 refine tka 5 ?_
 refine tkga 6 ?_
 refine tkg 7 (v:=.string (strOfNums l)) (hi:=rfl) (fun w h=>by exact R_bstr (E:=env) rfl rfl rfl rfl h.1) ?_
 refine tkga 8 ?_
 refine tkg 9 (v:=.string (strOfNums l)) (hi:=rfl) (fun w h=>by exact R_bstr (E:=env) rfl rfl rfl rfl h.2.1) ?_
 refine tkg 10 (v:=.bool true) (hi:=rfl) (fun w h=>by exact R_strT rfl rfl) ?_
 refine tka 11 ?_
 refine tka 12 ?_
 refine tkga 13 ?_
 refine tkg 14 (v:=I c) (hi:=rfl) (fun w h=>by exact R_lnv (E:=env) rfl rfl) ?_
 refine tkga 15 ?_
 refine tkg 16 (v:=I l.length) (hi:=rfl) (fun w h=>by rw [show (l.length:Int) = ((By l).length:Int) by rw [hbl]];exact R_len (E:=env) rfl rfl h.2.1) ?_
 refine tkg 17 (v:=I ((l.length:Int) + 4)) (hi:=rfl) (fun w h=>by exact R_wrap (R_auto (E:=env) rfl) (by omega)) ?_
 refine tkg 18 (v:=.bool true) (hi:=rfl) (fun w h=>by exact R_true (R_auto (E:=env) rfl) (by omega)) ?_
 refine tka 19 ?_
 refine tka 20 ?_
 refine tkga 21 ?_
 refine tkga 22 ?_
 refine tkg 23 (v:=I l.length) (hi:=rfl) (fun w h=>by rw [show (l.length:Int) = ((By l).length:Int) by rw [hbl]];exact R_len (E:=env) rfl rfl h.2.1) ?_
 refine tkga 24 ?_
 refine tkg 25 (v:=I l.length) (hi:=rfl) (fun w h=>by rw [show (l.length:Int) = ((By l).length:Int) by rw [hbl]];exact R_len (E:=env) rfl rfl h.2.1) ?_
 refine tkg 26 (v:=I ((l.length:Int) + 4)) (hi:=rfl) (fun w h=>by exact R_wrap (R_auto (E:=env) rfl) (by omega)) ?_
 refine tkg 27 (v:=slSub (.slice (some ⟨bb,o,none⟩) c c) ((l.length:Int)).toNat (((l.length:Int) + 4)).toNat) (hi:=rfl) (fun w h=>by exact R_slv (E:=env) rfl rfl rfl rfl rfl (by omega)) ?_
 rw [Int.toNat_natCast,show ((l.length:Int) + 4).toNat = l.length + 4 by omega]
 refine tkg 28 (v:=.string (strOfNums [201,202,203,204])) (hi:=rfl) (fun w h=>by exact R_bstr (E:=env) rfl rfl rfl rfl h.2.2) ?_
 refine t1 29 ?_
 refine gy ?_
 refine slbz (l:=[201,202,203,204]) fun q hq=>?_
 refine nl ?_
 refine te (fun w hw=>⟨has_sl hw (hL _ hasA),has_sl hw hasA,has_sl hw (hT _ hasA)⟩) ?_
 refine t1 30 ?_
 refine gy ?_
 refine bst (l:=[201,202,203,204]) ?_
 refine nl ?_
 refine te (fun w hw=>⟨has_sl hw (hL _ hasA),has_sl hw hasA,has_sl hw (hT _ hasA)⟩) ?_
 refine tkg 31 (v:=.bool true) (hi:=rfl) (fun w h=>by exact R_strT rfl rfl) ?_
 refine tka 32 ?_
 refine tka 33 ?_
 refine t0 ?_
 repeat' first|refine xc ?_|refine rt ?_
 exact r1 ⟨rfl,rfl⟩
theorem CopyManifest_tr (m:MfS) (tv:Value) (hv:tv.oneCell' = true) (hl:m.t.length ≤ 17592186044416):Tr Tryz.prog 6 [.agg #[I m.size,I m.sym,I m.k,I m.seed,tv]] [vw tv (Is m.t)] []
  fun v D=>∃ tv2,v = .agg #[I m.size,I m.sym,I m.k,I m.seed,tv2]∧tv2.oneCell' = true∧D = [own TKI tv2 (Is m.t)]:=by
 have hC:Tr Tryz.prog 19 [tv] [vw tv (Is m.t)] [] fun v D=>D = [own TKI v (Is m.t)]:=CopyInts_tr tv m.t (by omega)
 obtain ⟨size,sym,k,seed,t⟩:=m
 dsimp only at *
 refine Tr.enter env _ Tryz.func6 (by kernel_rfl) rfl Tryz.ntmps6 rfl (by repeat (first | exact has00 | refine has01 ?_)) fun w0=>?_
 repeat' first|(refine gca ?_;first|(refine ca hC ?_;rintro tv2 _ rfl;refine TO.one (v:=tv2) (xs:=Is t) fun ht2=>?_))|refine bx fun b=>?_|refine al fun z=>?_|refine lda ?_|refine srz ?_|(refine wo ?_;first|refine oa ?_|refine ld ?_|refine sr ?_)|refine sq ?_|refine rg ?_|refine xc ?_|refine nl ?_|refine rt ?_
 exact rca1 (vs:=[I size,I sym,I k,I seed,tv2]) ⟨tv2,rfl,ht2,rfl⟩
theorem SameManifest_tr (m:MfS) (t1 t2:Value) (h1:t1.oneCell' = true) (h2:t2.oneCell' = true):Tr Tryz.prog 10 [.agg #[I m.size,I m.sym,I m.k,I m.seed,t1],.agg #[I m.size,I m.sym,I m.k,I m.seed,t2]] [vw t1 (Is m.t),vw t2 (Is m.t)] []
  fun v D=>v = .bool true∧D = []:=by
 have hS:=SameInts_tr t1 t2 m.t m.t
 rw [decide_eq_true rfl] at hS
 obtain ⟨size,sym,k,seed,t⟩:=m
 dsimp only at *
 refine Tr.enter env _ Tryz.func10 (by kernel_rfl) rfl Tryz.ntmps10 rfl (by repeat (first | exact has00 | refine has01 ?_)) fun w0=>?_
 repeat' first|(refine gca ?_;first|(refine ca hS ?_;rintro _ _ ⟨rfl,rfl⟩))|refine bx fun b=>?_|(refine wo ?_;first|(refine ao ?_;first|refine oa ?_)|refine oa ?_|refine ld ?_|refine gy ?_|(refine gsi (fun hB=>?_) (fun hB=>?_) <;> try (exfalso;omega)))|refine sq ?_|refine rg ?_|refine xc ?_|refine nl ?_|refine rt ?_
 all_goals first | (exfalso;omega) | exact r1 ⟨rfl,rfl⟩
end Go.Art
namespace Go.Art
open Go Go.Proofs Go.RowKit
def MfS.part (m:MfS) (n:Int):(Int × Int) × Int:=if m.ok then (if 0 ≤ n∧n ≤ m.blocks - 1 then ((n * m.full,minI m.full (m.size - n * m.full)),0) else ((0,0),3)) else ((0,0),2)
theorem MfS.blocks_in {m:MfS} (h:m.ok):0 ≤ m.blocks∧m.blocks ≤ 4294967295∧(0 < m.size→(m.blocks - 1) * m.full < m.size∧m.size ≤ m.blocks * m.full):=by
 have hf:=MfS.full_in h
 have hs:=h.1
 unfold MfS.blocks
 rw [if_pos h]
 generalize m.full = f at *
 have h0:0 ≤ (m.size + f - 1) / f:=Int.ediv_nonneg (by omega) (by omega)
 have h1:=Int.emod_add_mul_ediv (m.size + f - 1) f
 have h2:=Int.emod_nonneg (m.size + f - 1) (show f ≠ 0 by omega)
 have h3:=Int.emod_lt_of_pos (m.size + f - 1) (show 0 < f by omega)
 generalize (m.size + f - 1) / f = q at *
 generalize (m.size + f - 1) % f = r at *
 have hq:q ≤ f * q:=by
  have:=Int.mul_le_mul_of_nonneg_right (show (1:Int) ≤ f by omega) h0
  omega
 have hc:q * f = f * q:=Int.mul_comm q f
 have hc2:(q - 1) * f = f * q - f:=by rw [Int.sub_mul,Int.one_mul,hc]
 refine ⟨h0,?_,fun _=>⟨by rw [hc2];omega,by rw [hc];omega⟩⟩
 by_cases hz:m.size = 0
 ·have:f * q < f * 1:=by omega
  have:=Int.lt_of_mul_lt_mul_left this (by omega)
  omega
 ·by_cases hq1:q ≤ 1
  ·omega
  ·have:(q - 1) ≤ (q - 1) * f:=by
    have:=Int.mul_le_mul_of_nonneg_left (show (1:Int) ≤ f by omega) (show 0 ≤ q - 1 by omega)
    omega
   omega
attribute [local irreducible] Fit pt own ro vw mpc lpt vels rels mow lrc dfr
attribute [local irreducible] lmp lme mit velg relg
theorem full_tr (m:MfS) (tv:Value) (hb : -9223372036854775808 ≤ m.full∧m.full ≤ 9223372036854775807):Tr Tryz.prog 50 [.agg #[I m.size,I m.sym,I m.k,I m.seed,tv]] [] [] fun v D=>v = I m.full∧D = []:=by
 obtain ⟨size,sym,k,seed,t⟩:=m
 unfold MfS.full at *
 dsimp only at *
 refine Tr.enter env _ Tryz.func50 (by kernel_rfl) rfl Tryz.ntmps50 rfl (by repeat (first | exact has00 | refine has01 ?_)) fun w0=>?_
 repeat' first|refine bx fun b=>?_|(refine wo ?_;first|(refine ao ?_;first|refine aw ?_)|refine oa ?_|refine ld ?_)|refine sq ?_|refine rg ?_|refine xc ?_|refine nl ?_|refine rt ?_
 exact r1 ⟨rfl,rfl⟩
theorem Blocks_tr (m:MfS) (tv:Value) (hv:tv.oneCell' = true):Tr Tryz.prog 22 [.agg #[I m.size,I m.sym,I m.k,I m.seed,tv]] [vw tv (Is m.t)] [] fun v D=>v = I m.blocks∧D = []:=by
 have hC:=MCheck_tr m tv hv
 refine Tr.enter env _ Tryz.func22 (by kernel_rfl) rfl Tryz.ntmps22 rfl (by repeat (first | exact has00 | refine has01 ?_)) fun w0=>?_
 by_cases h:m.ok
 ·rw [show mfE m = 0 from if_pos h] at hC
  have hf:=MfS.full_in h
  have hs:=h.1
  have hF:=full_tr m tv (by omega)
  rw [show m.blocks = (m.size + m.full - 1) / m.full from if_pos h]
  generalize m.full = f at *
  repeat' first|(refine gca ?_;first|(refine ca hC ?_;rintro _ _ ⟨rfl,rfl⟩))|refine bx fun b=>?_|refine lda ?_|(refine wo ?_;first|(refine ao ?_;first|refine oa ?_)|refine oa ?_)|(refine gc ?_;first|refine cf ?_)|refine sq ?_|refine rg ?_|refine xc ?_|refine nl ?_|refine sk ?_
  refine rs (fun w=>w.heap[b]? = some (.cells [I m.size,I m.sym,I m.k,I m.seed,tv].toArray TMf (0,0))) ?_ (fun w hw=>pt_at memA hw)
  refine tka 0 ?_
  refine tkl 1 (cs:=[I m.size,I m.sym,I m.k,I m.seed,tv]) (fun w h=>h) ?_
  refine tk 2 (v:=.agg #[I m.size,I m.sym,I m.k,I m.seed,tv]) (hi:=rfl) (fun w h=>by exact R_loadA (E:=env) (cs:=[I m.size,I m.sym,I m.k,I m.seed,tv]) (vs:=[I m.size,I m.sym,I m.k,I m.seed,tv]) rfl rfl rfl rfl h rfl rfl) ?_
  refine tk 6 (v:=.agg #[I m.size,I m.sym,I m.k,I m.seed,tv]) (hi:=rfl) (fun w h=>by exact R_loadA (E:=env) (cs:=[I m.size,I m.sym,I m.k,I m.seed,tv]) (vs:=[I m.size,I m.sym,I m.k,I m.seed,tv]) rfl rfl rfl rfl h rfl rfl) ?_
  refine t1 3 ?_
  refine ca hF ?_
  rintro _ _ ⟨rfl,rfl⟩
  refine nl ?_
  refine te (fun w hw=>pt_at memA hw) ?_
  refine tkw 4 (m.size + f) ?_
  refine tkw 5 (m.size + f - 1) ?_
  refine t1 7 ?_
  refine ca hF ?_
  rintro _ _ ⟨rfl,rfl⟩
  refine nl ?_
  refine te (fun w hw=>pt_at memA hw) ?_
  refine tk 8 (v:=I ((m.size + f - 1) / f)) (hi:=rfl) (fun w h=>by exact R_quo64 rfl rfl (by omega)) ?_
  refine tka 9 ?_
  refine t0 ?_
  repeat' first|refine xc ?_|refine rt ?_
  exact r1 ⟨rfl,rfl⟩
 ·rw [show mfE m = 2 from if_neg h] at hC
  rw [show m.blocks = 0 from if_neg h]
  repeat' first|(refine gca ?_;first|(refine ca hC ?_;rintro _ _ ⟨rfl,rfl⟩))|refine bx fun b=>?_|refine lda ?_|(refine wo ?_;first|(refine ao ?_;first|refine oa ?_)|refine oa ?_)|(refine gc ?_;first|refine ct ?_)|refine sq ?_|refine rg ?_|refine xc ?_|refine nl ?_|refine rt ?_
  exact r1 ⟨rfl,rfl⟩
theorem Part_tr (m:MfS) (tv:Value) (n:Int) (hv:tv.oneCell' = true):Tr Tryz.prog 51 [.agg #[I m.size,I m.sym,I m.k,I m.seed,tv],I n] [vw tv (Is m.t)] []
  fun v D=>v = .tuple #[I (m.part n).1.1,I (m.part n).1.2,I (m.part n).2]∧D = []:=by
 have hC:=MCheck_tr m tv hv
 have hBl:=Blocks_tr m tv hv
 refine Tr.enter env _ Tryz.func51 (by kernel_rfl) rfl Tryz.ntmps51 rfl (by repeat (first | exact has00 | refine has01 ?_)) fun w0=>?_
 by_cases h:m.ok
 rotate_left
 ·rw [show mfE m = 2 from if_neg h] at hC
  rw [show m.part n = ((0,0),2) from if_neg h]
  repeat' first|(refine gca ?_;first|(refine ca hC ?_;rintro _ _ ⟨rfl,rfl⟩))|refine bx fun b=>?_|refine lda ?_|(refine wo ?_;first|(refine ao ?_;first|refine oa ?_)|refine oa ?_)|(refine gc ?_;first|refine ct ?_)|refine sq ?_|refine rg ?_|refine xc ?_|refine nl ?_|refine bk ?_|refine rt ?_
  exact r3 ⟨rfl,rfl⟩
 rw [show mfE m = 0 from if_pos h] at hC
 have hf:=MfS.full_in h
 have hs:=h.1
 have hF:=full_tr m tv (by omega)
 have hb:=MfS.blocks_in h
 by_cases hn:0 ≤ n∧n ≤ m.blocks - 1
 rotate_left
 ·rw [show m.part n = ((0,0),3) by unfold MfS.part;rw [if_pos h,if_neg hn]]
  generalize m.blocks = bl at *
  repeat' first|(refine gca ?_;first|(refine ca hC ?_;rintro _ _ ⟨rfl,rfl⟩)|(refine ca hBl ?_;rintro _ _ ⟨rfl,rfl⟩)|(refine ca (mwithin_tr n 0 _) ?_;rintro _ _ ⟨rfl,rfl⟩;rw [decide_eq_false hn]))|refine bx fun b=>?_|refine lda ?_|(refine wo ?_;first|(refine ao ?_;first|refine aw ?_|refine oa ?_)|refine oa ?_)|(refine gc ?_;first|refine ct ?_|refine cf ?_)|refine sq ?_|refine rg ?_|refine xc ?_|refine nl ?_|refine bk ?_|refine rt ?_
  exact r3 ⟨rfl,rfl⟩
 rw [show m.part n = ((n * m.full,minI m.full (m.size - n * m.full)),0) by unfold MfS.part;rw [if_pos h,if_pos hn]]
 have hpos:0 < m.size:=by
  refine Classical.byContradiction fun hz=>?_
  have hz0:m.size = 0:=by omega
  have:m.blocks = 0:=by
   unfold MfS.blocks
   rw [if_pos h,hz0,Int.ediv_eq_zero_of_lt (by omega) (by omega)]
  omega
 obtain ⟨_,_,hb2⟩:=hb
 have hb3:=(hb2 hpos).1
 have hnf:0 ≤ n * m.full∧n * m.full < m.size:=by
  refine ⟨Int.mul_nonneg hn.1 (by omega),Int.lt_of_le_of_lt (Int.mul_le_mul_of_nonneg_right hn.2 (by omega)) hb3⟩
 generalize m.blocks = bl at *
 generalize m.full = f at *
 repeat' first|(refine gca ?_;first|(refine ca hC ?_;rintro _ _ ⟨rfl,rfl⟩)|(refine ca hBl ?_;rintro _ _ ⟨rfl,rfl⟩)|(refine ca (mwithin_tr n 0 _) ?_;rintro _ _ ⟨rfl,rfl⟩;rw [decide_eq_true hn])|(refine ca hF ?_;rintro _ _ ⟨rfl,rfl⟩))|refine bx fun b=>?_|refine lda ?_|(refine wo ?_;first|(refine ao ?_;first|refine aw ?_|refine oa ?_)|refine oa ?_)|(refine gc ?_;first|refine cf ?_)|refine sq ?_|refine rg ?_|refine xc ?_|refine nl ?_|refine sk ?_|refine bk ?_|refine xb ?_
 refine rs (id:=6) (fun w=>w.heap[b]? = some (.cells [I m.size,I m.sym,I m.k,I m.seed,tv].toArray TMf (0,0))) ?_ (fun w hw=>pt_at memA hw)
 refine tka 0 ?_
 refine tk 1 (v:=.agg #[I m.size,I m.sym,I m.k,I m.seed,tv]) (hi:=rfl) (fun w h=>by exact R_loadA (E:=env) (cs:=[I m.size,I m.sym,I m.k,I m.seed,tv]) (vs:=[I m.size,I m.sym,I m.k,I m.seed,tv]) rfl rfl rfl rfl h rfl rfl) ?_
 refine tka 3 ?_
 refine tkl 4 (cs:=[I m.size,I m.sym,I m.k,I m.seed,tv]) (fun w h=>h) ?_
 refine tka 5 ?_
 refine tkw 6 (m.size - n * f) ?_
 refine t1 2 ?_
 refine ca hF ?_
 rintro _ _ ⟨rfl,rfl⟩
 refine nl ?_
 refine te (fun w hw=>pt_at memA hw) ?_
 refine tk 7 (v:=I (minI f (m.size - n * f))) (hi:=rfl) (fun w h=>by exact R_min2 rfl rfl) ?_
 refine tka 8 ?_
 refine tka 9 ?_
 refine tka 10 ?_
 refine t0 ?_
 repeat' first|refine xc ?_|refine rt ?_
 exact r3 ⟨rfl,rfl⟩
theorem widths_tr:Tr Tryz.prog 47 [] [] [] fun v D=>v = .agg #[I 4,I 2,I 4,I 8,I 2]∧D = []:=by
 refine Tr.enter env _ Tryz.func47 (by kernel_rfl) rfl Tryz.ntmps47 rfl (by repeat (first | exact has00 | refine has01 ?_)) fun w0=>?_
 repeat' first|refine al fun b=>?_|refine bda ?_|refine srz ?_|refine sq ?_|refine rg ?_|refine xc ?_|refine nl ?_|refine rt ?_
 exact rca1 (vs:=[I 4,I 2,I 4,I 8,I 2]) ⟨rfl,rfl⟩
end Go.Art
namespace Go.Art
open Go Go.Proofs Go.RowKit
def wB (t:List Int) (i:Nat):List Int:=((t.take i).map (beB 4)).flatten
theorem wB_succ {t:List Int} {i:Nat} (h:i < t.length):wB t (i + 1) = wB t i ++ beB 4 (t.getD i 0):=by unfold wB;rw [take_succ' h 0,List.map_append,List.flatten_append];simp
theorem wB_len (t:List Int):∀ i,i ≤ t.length→(wB t i).length = 4 * i
 | 0,_=>rfl
 | i + 1,h=>by rw [wB_succ (by omega),List.length_append,wB_len t i (by omega),beB_len];omega
def headB (m:MfS):Nat→List Int
 | 0=>[]
 | 1=>[] ++ beB 4 m.size
 | 2=>[] ++ beB 4 m.size ++ beB 2 m.sym
 | 3=>[] ++ beB 4 m.size ++ beB 2 m.sym ++ beB 4 m.k
 | 4=>[] ++ beB 4 m.size ++ beB 2 m.sym ++ beB 4 m.k ++ beB 8 m.seed
 | _=>[] ++ beB 4 m.size ++ beB 2 m.sym ++ beB 4 m.k ++ beB 8 m.seed ++ beB 2 m.t.length
def MfS.bytes (m:MfS):List Int:=headB m 5 ++ wB m.t m.t.length
def fls (m:MfS):Nat→List Value
 | 0=>[I 0,I 0,I 0,I 0,I 0,I 0,I 0,I 0,I 0,I 0]
 | 1=>[I 4,I m.size,I 0,I 0,I 0,I 0,I 0,I 0,I 0,I 0]
 | 2=>[I 4,I m.size,I 2,I m.sym,I 0,I 0,I 0,I 0,I 0,I 0]
 | 3=>[I 4,I m.size,I 2,I m.sym,I 4,I m.k,I 0,I 0,I 0,I 0]
 | 4=>[I 4,I m.size,I 2,I m.sym,I 4,I m.k,I 8,I m.seed,I 0,I 0]
 | _=>[I 4,I m.size,I 2,I m.sym,I 4,I m.k,I 8,I m.seed,I 2,I m.t.length]
attribute [local irreducible] Fit pt own ro vw mpc lpt vels rels mow lrc dfr
attribute [local irreducible] lmp lme mit velg relg
abbrev TFd:TypeId:=88
abbrev TFs:TypeId:=89
theorem five_cases {i:Nat} (h:i ≤ 5):i = 0∨i = 1∨i = 2∨i = 3∨i = 4∨i = 5:=by omega
set_option maxHeartbeats 2000000 in
theorem MPut_tr (m:MfS) (tv:Value) (hv:tv.oneCell' = true) (hsd:m.seed ≤ 9223372036854775807):Tr Tryz.prog 20 [.agg #[I m.size,I m.sym,I m.k,I m.seed,tv]] [vw tv (Is m.t)] []
  fun v D=>∃ o,v = tup2 o (I (mfE m))∧o.oneCell' = true∧D = [own TyB o (By (if m.ok then m.bytes else []))]:=by
 have hC:=MCheck_tr m tv hv
 refine Tr.enter env _ Tryz.func20 (by kernel_rfl) rfl Tryz.ntmps20 rfl (by repeat (first | exact has00 | refine has01 ?_)) fun w0=>?_
 refine TC.leni (v:=tv) (l:=m.t) fun htl=>?_
 by_cases h:m.ok
 rotate_left
 ·rw [show mfE m = 2 from if_neg h] at hC ⊢
  rw [if_neg h]
  repeat' first|(refine gca ?_;first|(refine ca hC ?_;rintro _ _ ⟨rfl,rfl⟩))|refine bx fun b=>?_|refine lda ?_|(refine wo ?_;first|(refine ao ?_;first|refine oa ?_)|refine oa ?_)|(refine gc ?_;first|refine ct ?_)|refine sq ?_|refine rg ?_|refine xc ?_|refine nl ?_|refine rt ?_
  refine TX.im (own_nil TyB _) ?_
  exact r2 ⟨nS,rfl,rfl,rfl⟩
 rw [show mfE m = 0 from if_pos h] at hC ⊢
 rw [if_pos h]
 obtain ⟨h1,h2,h3,h4,h5⟩:=id h
 have hsol:=mtB_sol h3 h5
 have hws:∀ x ∈ m.t,0 ≤ x∧x ≤ 16777215:=(solE_zero hsol.1).2.2.1
 have htl2:=hsol.2
 have hNW:=NewWriter_tr (20 + 4 * m.t.length) (by omega)
 obtain ⟨size,sym,k,seed,t⟩:=m
 dsimp only at *
 repeat' first|(refine gca ?_;first|(refine ca hC ?_;rintro _ _ ⟨rfl,rfl⟩)|(refine ca hNW ?_;rintro _ _ ⟨p,rfl,rfl⟩))|refine bx fun b=>?_|refine lda ?_|refine al fun q=>?_|refine bda ?_|(refine wo ?_;first|(refine ao ?_;first|refine aw ?_|refine oa ?_)|refine oa ?_|refine ld ?_|refine lnm ?_)|(refine gc ?_;first|refine cf ?_)|refine sq ?_|refine rg ?_|refine xc ?_|refine nl ?_|refine sk ?_|refine bk ?_
 refine TC.loop (ι:=Nat) (fun i=>[(43,I i)]) (fun i=>[pt q (fls ⟨size,sym,k,seed,t⟩ i) TFs]) (fun i=>i ≤ 5) (fun i=>5 - i) 0 [1,5,7,42] (by omega) ?_
 intro i hi
 rcases five_cases hi with rfl | rfl | rfl | rfl | rfl | rfl
 ·repeat' first|(refine gca ?_;first|(refine ca widths_tr ?_;rintro _ _ ⟨rfl,rfl⟩))|refine ixv ?_|refine bdz ?_|refine ixs ?_|refine srz ?_ (hj:=Nat.le_of_ble_eq_true rfl)|(refine wo ?_;first|(refine ao ?_;first|refine aw ?_|refine oa ?_)|refine oa ?_)|(refine gc ?_;first|refine ct ?_)|refine sq ?_|refine rg ?_|refine xc ?_|refine nl ?_|refine sk ?_|refine bk ?_|refine xb ?_
  exact lp 1 (by omega)
 ·repeat' first|(refine gca ?_;first|(refine ca widths_tr ?_;rintro _ _ ⟨rfl,rfl⟩))|refine ixv ?_|refine bdz ?_|refine ixs ?_|refine srz ?_ (hj:=Nat.le_of_ble_eq_true rfl)|(refine wo ?_;first|(refine ao ?_;first|refine aw ?_|refine oa ?_)|refine oa ?_)|(refine gc ?_;first|refine ct ?_)|refine sq ?_|refine rg ?_|refine xc ?_|refine nl ?_|refine sk ?_|refine bk ?_|refine xb ?_
  exact lp 2 (by omega)
 ·repeat' first|(refine gca ?_;first|(refine ca widths_tr ?_;rintro _ _ ⟨rfl,rfl⟩))|refine ixv ?_|refine bdz ?_|refine ixs ?_|refine srz ?_ (hj:=Nat.le_of_ble_eq_true rfl)|(refine wo ?_;first|(refine ao ?_;first|refine aw ?_|refine oa ?_)|refine oa ?_)|(refine gc ?_;first|refine ct ?_)|refine sq ?_|refine rg ?_|refine xc ?_|refine nl ?_|refine sk ?_|refine bk ?_|refine xb ?_
  exact lp 3 (by omega)
 ·repeat' first|(refine gca ?_;first|(refine ca widths_tr ?_;rintro _ _ ⟨rfl,rfl⟩))|refine ixv ?_|refine bdz ?_|refine ixs ?_|refine srz ?_ (hj:=Nat.le_of_ble_eq_true rfl)|(refine wo ?_;first|(refine ao ?_;first|refine aw ?_|refine oa ?_)|refine oa ?_)|(refine gc ?_;first|refine ct ?_)|refine sq ?_|refine rg ?_|refine xc ?_|refine nl ?_|refine sk ?_|refine bk ?_|refine xb ?_
  exact lp 4 (by omega)
 ·repeat' first|(refine gca ?_;first|(refine ca widths_tr ?_;rintro _ _ ⟨rfl,rfl⟩))|refine ixv ?_|refine bdz ?_|refine ixs ?_|refine srz ?_ (hj:=Nat.le_of_ble_eq_true rfl)|(refine wo ?_;first|(refine ao ?_;first|refine aw ?_|refine oa ?_)|refine oa ?_)|(refine gc ?_;first|refine ct ?_)|refine sq ?_|refine rg ?_|refine xc ?_|refine nl ?_|refine sk ?_|refine bk ?_|refine xb ?_
  exact lp 5 (by omega)
 ·repeat' first|refine lda ?_|(refine wo ?_;first|(refine ao ?_;first|refine oa ?_)|refine oa ?_)|(refine gc ?_;first|refine cf ?_)|refine sq ?_|refine rg ?_|refine xc ?_|refine nl ?_|refine bk ?_|refine xe ?_
  refine TC.loop (ι:=Nat × Value) (fun g=>[(56,I g.1)]) (fun g=>[pt p [g.2,.bool true,I (20 + 4 * t.length),I 0] TWr,own TyB g.2 (By (headB ⟨size,sym,k,seed,t⟩ g.1))]) (fun g=>g.1 ≤ 5) (fun g=>5 - g.1) (0,nS) [1,5,55] (by simp) ?_
  rintro ⟨i,bv⟩ hi2
  dsimp only at hi2 ⊢
  rcases five_cases hi2 with rfl | rfl | rfl | rfl | rfl | rfl
  ·have hP:=fun bv=>Put_tr p bv (20 + 4 * t.length) size 4 ([]) (.inr (.inr (.inl rfl))) (by omega) (by simp [beB_len];omega)
   repeat' first|(refine gca ?_;first|(refine ca (hP _) ?_;rintro _ _ ⟨rfl,bv2,hv2,rfl⟩))|refine ixw ?_|refine al fun z=>?_|refine srz ?_ (hj:=Nat.le_of_ble_eq_true rfl)|(refine wo ?_;first|(refine ao ?_;first|refine aw ?_|refine oa ?_)|refine oa ?_|refine ld ?_)|(refine gc ?_;first|refine ct ?_)|refine sq ?_|refine rg ?_|refine xc ?_|refine nl ?_|refine sk ?_|refine bk ?_|refine xb ?_
   exact lp (1,bv2) (by dsimp only;omega)
  ·have hP:=fun bv=>Put_tr p bv (20 + 4 * t.length) sym 2 ([] ++ beB 4 size) (.inr (.inl rfl)) (by omega) (by simp [beB_len];omega)
   repeat' first|(refine gca ?_;first|(refine ca (hP _) ?_;rintro _ _ ⟨rfl,bv2,hv2,rfl⟩))|refine ixw ?_|refine al fun z=>?_|refine srz ?_ (hj:=Nat.le_of_ble_eq_true rfl)|(refine wo ?_;first|(refine ao ?_;first|refine aw ?_|refine oa ?_)|refine oa ?_|refine ld ?_)|(refine gc ?_;first|refine ct ?_)|refine sq ?_|refine rg ?_|refine xc ?_|refine nl ?_|refine sk ?_|refine bk ?_|refine xb ?_
   exact lp (2,bv2) (by dsimp only;omega)
  ·have hP:=fun bv=>Put_tr p bv (20 + 4 * t.length) k 4 ([] ++ beB 4 size ++ beB 2 sym) (.inr (.inr (.inl rfl))) (by omega) (by simp [beB_len];omega)
   repeat' first|(refine gca ?_;first|(refine ca (hP _) ?_;rintro _ _ ⟨rfl,bv2,hv2,rfl⟩))|refine ixw ?_|refine al fun z=>?_|refine srz ?_ (hj:=Nat.le_of_ble_eq_true rfl)|(refine wo ?_;first|(refine ao ?_;first|refine aw ?_|refine oa ?_)|refine oa ?_|refine ld ?_)|(refine gc ?_;first|refine ct ?_)|refine sq ?_|refine rg ?_|refine xc ?_|refine nl ?_|refine sk ?_|refine bk ?_|refine xb ?_
   exact lp (3,bv2) (by dsimp only;omega)
  ·have hP:=fun bv=>Put_tr p bv (20 + 4 * t.length) seed 8 ([] ++ beB 4 size ++ beB 2 sym ++ beB 4 k) (.inr (.inr (.inr rfl))) (by omega) (by simp [beB_len];omega)
   repeat' first|(refine gca ?_;first|(refine ca (hP _) ?_;rintro _ _ ⟨rfl,bv2,hv2,rfl⟩))|refine ixw ?_|refine al fun z=>?_|refine srz ?_ (hj:=Nat.le_of_ble_eq_true rfl)|(refine wo ?_;first|(refine ao ?_;first|refine aw ?_|refine oa ?_)|refine oa ?_|refine ld ?_)|(refine gc ?_;first|refine ct ?_)|refine sq ?_|refine rg ?_|refine xc ?_|refine nl ?_|refine sk ?_|refine bk ?_|refine xb ?_
   exact lp (4,bv2) (by dsimp only;omega)
  ·have hP:=fun bv=>Put_tr p bv (20 + 4 * t.length) t.length 2 ([] ++ beB 4 size ++ beB 2 sym ++ beB 4 k ++ beB 8 seed) (.inr (.inl rfl)) (by omega) (by simp [beB_len];omega)
   repeat' first|(refine gca ?_;first|(refine ca (hP _) ?_;rintro _ _ ⟨rfl,bv2,hv2,rfl⟩))|refine ixw ?_|refine al fun z=>?_|refine srz ?_ (hj:=Nat.le_of_ble_eq_true rfl)|(refine wo ?_;first|(refine ao ?_;first|refine aw ?_|refine oa ?_)|refine oa ?_|refine ld ?_)|(refine gc ?_;first|refine ct ?_)|refine sq ?_|refine rg ?_|refine xc ?_|refine nl ?_|refine sk ?_|refine bk ?_|refine xb ?_
   exact lp (5,bv2) (by dsimp only;omega)
  ·have hlen:(headB ⟨size,sym,k,seed,t⟩ 5).length = 20:=by simp [headB,beB_len]
   have hbt:MfS.bytes ⟨size,sym,k,seed,t⟩ = headB ⟨size,sym,k,seed,t⟩ 5 ++ wB t t.length:=rfl
   rw [hbt]
   generalize headB ⟨size,sym,k,seed,t⟩ 5 = H at *
   repeat' first|(refine wo ?_;first|(refine ao ?_;first|refine oa ?_)|refine oa ?_|refine ld ?_|refine lnm ?_)|(refine gc ?_;first|refine cf ?_)|refine sq ?_|refine rg ?_|refine xc ?_|refine nl ?_|refine bk ?_|refine xe ?_
   refine TC.loop (ι:=Nat × Value) (fun g=>[(69,I g.1)]) (fun g=>[pt p [g.2,.bool true,I (20 + 4 * t.length),I 0] TWr,own TyB g.2 (By (H ++ wB t g.1))]) (fun g=>g.1 ≤ t.length) (fun g=>t.length - g.1) (0,bv) [1,5,67,68] (by simp) ?_ (hf:=by dsimp only;rw [show H ++ wB t 0 = H from List.append_nil H];exact fitA)
   rintro ⟨j,bv⟩ hj
   dsimp only at hj ⊢
   have hwl:=wB_len t j hj
   by_cases hlt:j < t.length
   ·have hx:=hws _ (mem_getD.2 ⟨j,hlt,rfl⟩)
    have hP:=fun bv=>Put_tr p bv (20 + 4 * t.length) (t.getD j 0) 4 (H ++ wB t j) (.inr (.inr (.inl rfl))) (by omega) (by rw [List.length_append,hlen,hwl];omega)
    rw [List.append_assoc,← wB_succ hlt] at hP
    repeat' first|(refine gca ?_;first|(refine ca (hP _) ?_;rintro _ _ ⟨rfl,bv2,hv2,rfl⟩))|(refine wo ?_;first|(refine ao ?_;first|refine aw ?_|refine oa ?_)|refine oa ?_|refine ixmn ?_|refine li ?_)|(refine gc ?_;first|(refine ci (fun hB=>?_) (fun hB=>?_) <;> try (exfalso;omega)))|refine sq ?_|refine rg ?_|refine xc ?_|refine nl ?_|refine sk ?_|refine bk ?_|refine xb ?_
    exact lp (j + 1,bv2) (by dsimp only;omega)
   ·obtain rfl:j = t.length:=by omega
    repeat' first|(refine gca ?_;first|(refine ca (Bytes_tr p bv _ (H ++ wB t t.length) (by rw [List.length_append,hlen,hwl];omega)) ?_;rintro _ _ ⟨o,rfl,ho,rfl⟩))|(refine wo ?_;first|(refine ao ?_;first|refine oa ?_)|refine oa ?_)|(refine gc ?_;first|(refine ci (fun hB=>?_) (fun hB=>?_) <;> try (exfalso;omega)))|refine sq ?_|refine rg ?_|refine xc ?_|refine nl ?_|refine xe ?_|refine rt ?_
    exact r2 ⟨o,rfl,ho,rfl⟩
end Go.Art
namespace Go.Art
open Go Go.Proofs Go.RowKit
theorem beB_at:∀ (w:Nat) (n:Int) (j:Nat),j < w→(beB w n).getD j 0 = n / 256 ^ (w - 1 - j) % 256
 | 0,_,_,h=>by omega
 | w + 1,n,0,_=>rfl
 | w + 1,n,j + 1,h=>by
  have:=beB_at w n j (by omega)
  rw [show w + 1 - 1 - (j + 1) = w - 1 - j by omega]
  simpa [beB] using this
theorem beB_take {w:Nat} {n:Int} {j:Nat} (h:j < w):(beB w n).take (j + 1) = (beB w n).take j ++ [n / 2 ^ (8 * ((w:Int) - 1 - j)).toNat % 256]:=by
 rw [take_succ' (by rw [beB_len];exact h) 0,beB_at w n j h]
 have e:(8 * ((w:Int) - 1 - j)).toNat = 8 * (w - 1 - j):=by omega
 rw [e,Int.pow_mul]
 rfl
theorem any_take {p:Int→Bool} {t:List Int} {i:Nat} (h:i < t.length):(t.take (i + 1)).any p = ((t.take i).any p || p (t.getD i 0)):=by
 rw [take_succ' h 0,List.any_append];simp
def tbB (t:List Int) (k:Int):Bool:=!t.any wBad && (t.any wSome && decide ((t.length:Int) ≤ k))
theorem mt_tb {t:List Int} {k:Int} (hl:(t.length:Int) ≤ 10000):mtB t (minI k 10000) = tbB t k:=by
 unfold mtB tbB
 have hm:decide ((t.length:Int) ≤ minI k 10000) = decide ((t.length:Int) ≤ k):=by
  refine decide_eq_decide.2 ⟨fun h=>?_,fun h=>?_⟩
  ·have:=(minI_le k 10000).1;omega
  ·unfold minI;split <;> omega
 rw [hm]
 cases decide ((t.length:Int) ≤ k) <;> cases t.any wBad <;> cases t.any wSome <;> rfl
theorem mt_long {t:List Int} {k:Int} (hl:10000 < (t.length:Int)):mtB t (minI k 10000) = false:=by
 unfold mtB
 rw [decide_eq_false (by have:=(minI_le k 10000).2.1;omega),Bool.false_and]
attribute [local irreducible] Fit pt own ro vw mpc lpt vels rels mow lrc dfr
attribute [local irreducible] lmp lme mit velg relg
theorem Rwithin12_tr (n lo hi:Int):Tr Tryz.prog 97 [I n,I lo,I hi] [] [] fun v D=>v = .bool (decide (lo ≤ n∧n ≤ hi))∧D = []:=by
 refine Tr.enter env _ Tryz.func97 (by kernel_rfl) rfl Tryz.ntmps97 rfl (by repeat (first | exact has00 | refine has01 ?_)) fun w0=>?_
 repeat' first|(refine wo ?_;first|(refine ao ?_;first|refine oa ?_)|refine oa ?_|refine gy ?_|refine gn ?_|(refine gsi (fun hB=>?_) (fun hB=>?_) <;> try (exfalso;omega)))|refine sq ?_|refine rg ?_|refine xc ?_|refine nl ?_|refine rt ?_
 all_goals refine r1 ⟨?_,rfl⟩
 all_goals first
  | rw [decide_eq_false (fun h:lo ≤ n∧n ≤ hi=>by omega)]
  | (congr 1;exact decide_eq_decide.2 ⟨fun h=>by omega,fun h=>by omega⟩)
theorem Rtable12_tr (s:Value) (t:List Int) (k:Int):Tr Tryz.prog 98 [s,I k] [vw s (Is t)] [] fun v D=>v = .bool (tbB t k)∧D = []:=by
 refine Tr.enter env _ Tryz.func98 (by kernel_rfl) rfl Tryz.ntmps98 rfl (by repeat (first | exact has00 | refine has01 ?_)) fun w0=>?_
 refine TC.leni (l:=t) fun htl=>?_
 repeat' first|(refine wo ?_;first|refine oa ?_)|refine sq ?_|refine rg ?_|refine xc ?_|refine nl ?_|refine bk ?_
 refine TC.loop (ι:=Nat) (fun i=>[(6,I i),(5,.bool ((t.take i).any wSome))]) (fun _=>[]) (fun i=>i ≤ t.length∧(t.take i).any wBad = false) (fun i=>t.length - i) 0 [0,1] ⟨Nat.zero_le _,rfl⟩ ?_ (hf:=by exact fitA)
 rintro i ⟨hi,hb⟩
 by_cases hlt:i < t.length
 ·have e1:=any_take (p:=wBad) hlt
  have e2:=any_take (p:=wSome) hlt
  rw [hb,Bool.false_or] at e1
  have w1:wBad (t.getD i 0) = !decide (0 ≤ t.getD i 0∧t.getD i 0 ≤ 16777215):=rfl
  have w2:wSome (t.getD i 0) = decide (0 < t.getD i 0):=rfl
  have hm:t.getD i 0 ∈ t:=mem_getD.2 ⟨i,hlt,rfl⟩
  have hany:wBad (t.getD i 0) = true→t.any wBad = true:=fun h=>List.any_eq_true.2 ⟨_,hm,h⟩
  generalize hx:t.getD i 0 = x at *
  by_cases hx2:0 ≤ x∧x ≤ 16777215
  ·rw [decide_eq_true hx2,Bool.not_true] at w1
   rw [w1] at e1
   generalize (t.take i).any wSome = sm at *
   cases sm
   ·rw [Bool.false_or,w2] at e2
    repeat' first|(refine gca ?_;first|(refine ca (Rwithin12_tr x 0 16777215) ?_;rintro _ _ ⟨rfl,rfl⟩;rw [decide_eq_true hx2]))|refine lie hx ?_|(refine wo ?_;first|(refine ao ?_;first|refine aw ?_|refine oa ?_)|refine oa ?_|refine lnm ?_|refine ixmn ?_|refine gy ?_)|(refine gc ?_;first|refine cf ?_|(refine ci (fun hB=>?_) (fun hB=>?_) <;> try (exfalso;omega)))|refine sq ?_|refine rg ?_|refine xc ?_|refine nl ?_|refine sk ?_|refine bk ?_|refine xb ?_
    exact lp (i + 1) ⟨hlt,e1⟩ (hs:=by rw [e2];(repeat (refine Sub.cons rfl (by first | rfl | go_num) ?_));exact Sub.nil) (hf:=by exact fitA)
   ·rw [Bool.true_or] at e2
    repeat' first|(refine gca ?_;first|(refine ca (Rwithin12_tr x 0 16777215) ?_;rintro _ _ ⟨rfl,rfl⟩;rw [decide_eq_true hx2]))|refine lie hx ?_|(refine wo ?_;first|(refine ao ?_;first|refine aw ?_|refine oa ?_)|refine oa ?_|refine lnm ?_|refine ixmn ?_|refine gn ?_)|(refine gc ?_;first|refine cf ?_|(refine ci (fun hB=>?_) (fun hB=>?_) <;> try (exfalso;omega)))|refine sq ?_|refine rg ?_|refine xc ?_|refine nl ?_|refine sk ?_|refine bk ?_|refine xb ?_
    exact lp (i + 1) ⟨hlt,e1⟩ (hs:=by rw [e2];(repeat (refine Sub.cons rfl (by first | rfl | go_num) ?_));exact Sub.nil) (hf:=by exact fitA)
  ·rw [decide_eq_false hx2,Bool.not_false] at w1
   repeat' first|(refine gca ?_;first|(refine ca (Rwithin12_tr x 0 16777215) ?_;rintro _ _ ⟨rfl,rfl⟩;rw [decide_eq_false hx2]))|refine lie hx ?_|(refine wo ?_;first|(refine ao ?_;first|refine oa ?_)|refine oa ?_|refine lnm ?_|refine ixmn ?_)|(refine gc ?_;first|refine ct ?_|(refine ci (fun hB=>?_) (fun hB=>?_) <;> try (exfalso;omega)))|refine sq ?_|refine rg ?_|refine xc ?_|refine nl ?_|refine sk ?_|refine bk ?_|refine rt ?_
   refine r1 ⟨?_,rfl⟩
   unfold tbB
   rw [hany w1];rfl
 ·obtain rfl:i = t.length:=by omega
  rw [List.take_length] at hb ⊢
  unfold tbB
  rw [hb]
  cases t.any wSome
  ·repeat' first|(refine wo ?_;first|(refine ao ?_;first|refine oa ?_)|refine oa ?_|refine lnm ?_|refine gn ?_)|(refine gc ?_;first|(refine ci (fun hB=>?_) (fun hB=>?_) <;> try (exfalso;omega)))|refine sq ?_|refine rg ?_|refine xc ?_|refine nl ?_|refine xe ?_|refine rt ?_
   exact r1 ⟨rfl,rfl⟩
  ·repeat' first|(refine wo ?_;first|(refine ao ?_;first|refine oa ?_)|refine oa ?_|refine lnm ?_|refine gy ?_)|(refine gc ?_;first|(refine ci (fun hB=>?_) (fun hB=>?_) <;> try (exfalso;omega)))|refine sq ?_|refine rg ?_|refine xc ?_|refine nl ?_|refine xe ?_|refine rt ?_
   exact r1 ⟨rfl,rfl⟩
theorem RMCheck_tr (m:MfS) (tv:Value) (hv:tv.oneCell' = true):Tr Tryz.prog 58 [.agg #[I m.size,I m.sym,I m.k,I m.seed,tv]] [vw tv (Is m.t)] [] fun v D=>v = I (mfE m)∧D = []:=by
 have hE:mfE m = if (0 ≤ m.size∧m.size ≤ 4294967295) then if (1 ≤ m.sym∧m.sym ≤ 65535) then if (1 ≤ m.k∧m.k ≤ 65536) then if m.seed < 0 then 2 else if 10000 < (m.t.length:Int) then 2 else if tbB m.t m.k = true then 0 else 2 else 2 else 2 else 2:=by
  have hlong:=fun h=>mt_long (t:=m.t) (k:=m.k) h
  have hshort:=fun h=>mt_tb (t:=m.t) (k:=m.k) h
  unfold mfE
  by_cases h1:(0 ≤ m.size∧m.size ≤ 4294967295)
  ·rw [if_pos h1]
   by_cases h2:(1 ≤ m.sym∧m.sym ≤ 65535)
   ·rw [if_pos h2]
    by_cases h3:(1 ≤ m.k∧m.k ≤ 65536)
    ·rw [if_pos h3]
     by_cases h4:m.seed < 0
     ·rw [if_pos h4,if_neg fun g=>by obtain ⟨_,_,_,g,_⟩:=g;omega]
     ·rw [if_neg h4]
      by_cases h5:10000 < (m.t.length:Int)
      ·rw [if_pos h5,if_neg fun g=>by have:=g.2.2.2.2;rw [hlong h5] at this;cases this]
      ·rw [if_neg h5]
       by_cases h6:tbB m.t m.k = true
       ·rw [if_pos h6,if_pos ⟨h1,h2,h3,by omega,by rw [hshort (by omega)];exact h6⟩]
       ·rw [if_neg h6,if_neg fun g=>h6 (by have:=g.2.2.2.2;rw [hshort (by omega)] at this;exact this)]
    ·rw [if_neg h3,if_neg fun g=>h3 g.2.2.1]
   ·rw [if_neg h2,if_neg fun g=>h2 g.2.1]
  ·rw [if_neg h1,if_neg fun g=>h1 g.1]
 rw [hE]
 clear hE
 obtain ⟨size,sym,k,seed,t⟩:=m
 dsimp only
 have htl:=Is_len t
 by_cases h1:(0 ≤ size∧size ≤ 4294967295)
 rotate_left
 ·rw [if_neg h1]
  refine Tr.enter env _ Tryz.func58 (by kernel_rfl) rfl Tryz.ntmps58 rfl (by repeat (first | exact has00 | refine has01 ?_)) fun w0=>?_
  repeat' first|(refine gca ?_;first|(refine ca (Rwithin12_tr size 0 4294967295) ?_;rintro _ _ ⟨rfl,rfl⟩;rw [decide_eq_false h1])|(refine ca (Rwithin12_tr sym 1 65535) ?_;rintro _ _ ⟨rfl,rfl⟩;rw [decide_eq_false h2])|(refine ca (Rwithin12_tr k 1 65536) ?_;rintro _ _ ⟨rfl,rfl⟩;rw [decide_eq_false h3])|(refine ca (Rtable12_tr tv t k) ?_;rintro _ _ ⟨rfl,rfl⟩;rw [h6]))|refine bx fun b=>?_|refine lda ?_|(refine wo ?_;first|refine oa ?_|refine ld ?_|refine gn ?_)|(refine gc ?_;first|refine ct ?_)|refine sq ?_|refine rg ?_|refine xc ?_|refine nl ?_|refine rt ?_
  all_goals first | (exfalso;omega) | exact r1 ⟨rfl,rfl⟩
 rw [if_pos h1]
 by_cases h2:(1 ≤ sym∧sym ≤ 65535)
 rotate_left
 ·rw [if_neg h2]
  refine Tr.enter env _ Tryz.func58 (by kernel_rfl) rfl Tryz.ntmps58 rfl (by repeat (first | exact has00 | refine has01 ?_)) fun w0=>?_
  repeat' first|(refine gca ?_;first|(refine ca (Rwithin12_tr size 0 4294967295) ?_;rintro _ _ ⟨rfl,rfl⟩;rw [decide_eq_true h1])|(refine ca (Rwithin12_tr sym 1 65535) ?_;rintro _ _ ⟨rfl,rfl⟩;rw [decide_eq_false h2])|(refine ca (Rwithin12_tr k 1 65536) ?_;rintro _ _ ⟨rfl,rfl⟩;rw [decide_eq_false h3])|(refine ca (Rtable12_tr tv t k) ?_;rintro _ _ ⟨rfl,rfl⟩;rw [h6]))|refine bx fun b=>?_|refine lda ?_|(refine wo ?_;first|refine oa ?_|refine ld ?_|refine gy ?_|refine gn ?_)|(refine gc ?_;first|refine ct ?_)|refine sq ?_|refine rg ?_|refine xc ?_|refine nl ?_|refine rt ?_
  all_goals first | (exfalso;omega) | exact r1 ⟨rfl,rfl⟩
 rw [if_pos h2]
 by_cases h3:(1 ≤ k∧k ≤ 65536)
 rotate_left
 ·rw [if_neg h3]
  refine Tr.enter env _ Tryz.func58 (by kernel_rfl) rfl Tryz.ntmps58 rfl (by repeat (first | exact has00 | refine has01 ?_)) fun w0=>?_
  repeat' first|(refine gca ?_;first|(refine ca (Rwithin12_tr size 0 4294967295) ?_;rintro _ _ ⟨rfl,rfl⟩;rw [decide_eq_true h1])|(refine ca (Rwithin12_tr sym 1 65535) ?_;rintro _ _ ⟨rfl,rfl⟩;rw [decide_eq_true h2])|(refine ca (Rwithin12_tr k 1 65536) ?_;rintro _ _ ⟨rfl,rfl⟩;rw [decide_eq_false h3])|(refine ca (Rtable12_tr tv t k) ?_;rintro _ _ ⟨rfl,rfl⟩;rw [h6]))|refine bx fun b=>?_|refine lda ?_|(refine wo ?_;first|refine oa ?_|refine ld ?_|refine gy ?_|refine gn ?_)|(refine gc ?_;first|refine ct ?_)|refine sq ?_|refine rg ?_|refine xc ?_|refine nl ?_|refine rt ?_
  all_goals first | (exfalso;omega) | exact r1 ⟨rfl,rfl⟩
 rw [if_pos h3]
 by_cases h4:seed < 0
 ·rw [if_pos h4]
  refine Tr.enter env _ Tryz.func58 (by kernel_rfl) rfl Tryz.ntmps58 rfl (by repeat (first | exact has00 | refine has01 ?_)) fun w0=>?_
  repeat' first|(refine gca ?_;first|(refine ca (Rwithin12_tr size 0 4294967295) ?_;rintro _ _ ⟨rfl,rfl⟩;rw [decide_eq_true h1])|(refine ca (Rwithin12_tr sym 1 65535) ?_;rintro _ _ ⟨rfl,rfl⟩;rw [decide_eq_true h2])|(refine ca (Rwithin12_tr k 1 65536) ?_;rintro _ _ ⟨rfl,rfl⟩;rw [decide_eq_true h3])|(refine ca (Rtable12_tr tv t k) ?_;rintro _ _ ⟨rfl,rfl⟩;rw [h6]))|refine bx fun b=>?_|refine lda ?_|(refine wo ?_;first|(refine ao ?_;first|refine oa ?_)|refine oa ?_|refine ld ?_|refine gy ?_|refine gn ?_|(refine gsi (fun hB=>?_) (fun hB=>?_) <;> try (exfalso;omega)))|(refine gc ?_;first|refine ct ?_)|refine sq ?_|refine rg ?_|refine xc ?_|refine nl ?_|refine rt ?_
  all_goals first | (exfalso;omega) | exact r1 ⟨rfl,rfl⟩
 rw [if_neg h4]
 by_cases h5:10000 < (t.length:Int)
 ·rw [if_pos h5]
  refine Tr.enter env _ Tryz.func58 (by kernel_rfl) rfl Tryz.ntmps58 rfl (by repeat (first | exact has00 | refine has01 ?_)) fun w0=>?_
  repeat' first|(refine gca ?_;first|(refine ca (Rwithin12_tr size 0 4294967295) ?_;rintro _ _ ⟨rfl,rfl⟩;rw [decide_eq_true h1])|(refine ca (Rwithin12_tr sym 1 65535) ?_;rintro _ _ ⟨rfl,rfl⟩;rw [decide_eq_true h2])|(refine ca (Rwithin12_tr k 1 65536) ?_;rintro _ _ ⟨rfl,rfl⟩;rw [decide_eq_true h3])|(refine ca (Rtable12_tr tv t k) ?_;rintro _ _ ⟨rfl,rfl⟩;rw [h6]))|refine bx fun b=>?_|refine lda ?_|(refine wo ?_;first|(refine ao ?_;first|refine oa ?_)|refine oa ?_|refine ld ?_|refine lnm ?_|refine gy ?_|refine gn ?_|(refine gsi (fun hB=>?_) (fun hB=>?_) <;> try (exfalso;omega)))|(refine gc ?_;first|refine ct ?_)|refine sq ?_|refine rg ?_|refine xc ?_|refine nl ?_|refine rt ?_
  all_goals first | (exfalso;omega) | exact r1 ⟨rfl,rfl⟩
 rw [if_neg h5]
 by_cases h6:tbB t k = true
 rotate_left
 ·rw [if_neg h6]
  replace h6:tbB t k = false:=by simpa using h6
  refine Tr.enter env _ Tryz.func58 (by kernel_rfl) rfl Tryz.ntmps58 rfl (by repeat (first | exact has00 | refine has01 ?_)) fun w0=>?_
  repeat' first|(refine gca ?_;first|(refine ca (Rwithin12_tr size 0 4294967295) ?_;rintro _ _ ⟨rfl,rfl⟩;rw [decide_eq_true h1])|(refine ca (Rwithin12_tr sym 1 65535) ?_;rintro _ _ ⟨rfl,rfl⟩;rw [decide_eq_true h2])|(refine ca (Rwithin12_tr k 1 65536) ?_;rintro _ _ ⟨rfl,rfl⟩;rw [decide_eq_true h3])|(refine ca (Rtable12_tr tv t k) ?_;rintro _ _ ⟨rfl,rfl⟩;rw [h6]))|refine bx fun b=>?_|refine lda ?_|(refine wo ?_;first|(refine ao ?_;first|refine oa ?_)|refine oa ?_|refine ld ?_|refine lnm ?_|refine gy ?_|(refine gsi (fun hB=>?_) (fun hB=>?_) <;> try (exfalso;omega)))|(refine gc ?_;first|refine ct ?_)|refine sq ?_|refine rg ?_|refine xc ?_|refine nl ?_|refine rt ?_
  all_goals first | (exfalso;omega) | exact r1 ⟨rfl,rfl⟩
 rw [if_pos h6]
 refine Tr.enter env _ Tryz.func58 (by kernel_rfl) rfl Tryz.ntmps58 rfl (by repeat (first | exact has00 | refine has01 ?_)) fun w0=>?_
 repeat' first|(refine gca ?_;first|(refine ca (Rwithin12_tr size 0 4294967295) ?_;rintro _ _ ⟨rfl,rfl⟩;rw [decide_eq_true h1])|(refine ca (Rwithin12_tr sym 1 65535) ?_;rintro _ _ ⟨rfl,rfl⟩;rw [decide_eq_true h2])|(refine ca (Rwithin12_tr k 1 65536) ?_;rintro _ _ ⟨rfl,rfl⟩;rw [decide_eq_true h3])|(refine ca (Rtable12_tr tv t k) ?_;rintro _ _ ⟨rfl,rfl⟩;rw [h6]))|refine bx fun b=>?_|refine lda ?_|(refine wo ?_;first|(refine ao ?_;first|refine oa ?_)|refine oa ?_|refine ld ?_|refine lnm ?_|refine gy ?_|(refine gsi (fun hB=>?_) (fun hB=>?_) <;> try (exfalso;omega)))|(refine gc ?_;first|refine cf ?_)|refine sq ?_|refine rg ?_|refine xc ?_|refine nl ?_|refine sk ?_|refine rt ?_
 all_goals first | (exfalso;omega) | exact r1 ⟨rfl,rfl⟩
theorem RBlocks_tr (m:MfS) (tv:Value) (hv:tv.oneCell' = true):Tr Tryz.prog 27 [.agg #[I m.size,I m.sym,I m.k,I m.seed,tv]] [vw tv (Is m.t)] [] fun v D=>v = I m.blocks∧D = []:=by
 have hC:=RMCheck_tr m tv hv
 refine Tr.enter env _ Tryz.func27 (by kernel_rfl) rfl Tryz.ntmps27 rfl (by repeat (first | exact has00 | refine has01 ?_)) fun w0=>?_
 by_cases h:m.ok
 ·rw [show mfE m = 0 from if_pos h] at hC
  have hf:=MfS.full_in h
  have hs:=h.1
  rw [show m.blocks = (m.size + m.full - 1) / m.full from if_pos h]
  unfold MfS.full at *
  obtain ⟨size,sym,k,seed,t⟩:=m
  dsimp only at *
  repeat' first|(refine gca ?_;first|(refine ca hC ?_;rintro _ _ ⟨rfl,rfl⟩))|refine bx fun b=>?_|refine lda ?_|(refine wo ?_;first|(refine ao ?_;first|refine aw ?_|refine oa ?_|refine adiv ?_)|refine oa ?_|refine ld ?_)|(refine gc ?_;first|refine cf ?_)|refine sq ?_|refine rg ?_|refine xc ?_|refine nl ?_|refine sk ?_|refine rt ?_
  exact r1 ⟨rfl,rfl⟩
 ·rw [show mfE m = 2 from if_neg h] at hC
  rw [show m.blocks = 0 from if_neg h]
  repeat' first|(refine gca ?_;first|(refine ca hC ?_;rintro _ _ ⟨rfl,rfl⟩))|refine bx fun b=>?_|refine lda ?_|(refine wo ?_;first|(refine ao ?_;first|refine oa ?_)|refine oa ?_)|(refine gc ?_;first|refine ct ?_)|refine sq ?_|refine rg ?_|refine xc ?_|refine nl ?_|refine rt ?_
  exact r1 ⟨rfl,rfl⟩
theorem RPart_tr (m:MfS) (tv:Value) (n:Int) (hv:tv.oneCell' = true) (hok:m.ok) (hn:0 ≤ n∧n < m.blocks):Tr Tryz.prog 135 [.agg #[I m.size,I m.sym,I m.k,I m.seed,tv],I n] [vw tv (Is m.t)] []
  fun v D=>v = .tuple #[I (n * m.full),I (minI m.full (m.size - n * m.full)),I 0]∧D = []:=by
 have hC:=RMCheck_tr m tv hv
 have hBl:=RBlocks_tr m tv hv
 rw [show mfE m = 0 from if_pos hok] at hC
 have hf:=MfS.full_in hok
 have hs:=hok.1
 have hb:=MfS.blocks_in hok
 have hpos:0 < m.size:=by
  refine Classical.byContradiction fun hz=>?_
  have hz0:m.size = 0:=by omega
  have:m.blocks = 0:=by
   unfold MfS.blocks
   rw [if_pos hok,hz0,Int.ediv_eq_zero_of_lt (by omega) (by omega)]
  omega
 obtain ⟨_,_,hb2⟩:=hb
 have hb3:=(hb2 hpos).1
 have hnf:0 ≤ n * m.full∧n * m.full < m.size:=by
  refine ⟨Int.mul_nonneg hn.1 (by omega),Int.lt_of_le_of_lt (Int.mul_le_mul_of_nonneg_right (show n ≤ m.blocks - 1 by omega) (by omega)) hb3⟩
 have ea:n * m.k * m.sym = n * m.full:=by unfold MfS.full;rw [Int.mul_assoc]
 have hnk:0 ≤ n * m.k∧n * m.k ≤ n * m.full:=by
  have hk:=hok.2.2.1
  have hy:=hok.2.1
  have h0:=Int.mul_nonneg hn.1 (show 0 ≤ m.k by omega)
  refine ⟨h0,?_⟩
  rw [← ea]
  have:=Int.mul_le_mul_of_nonneg_left (show 1 ≤ m.sym by omega) h0
  omega
 have ef:m.k * m.sym = m.full:=rfl
 generalize m.blocks = bl at *
 generalize m.full = f at *
 obtain ⟨size,sym,k,seed,t⟩:=m
 dsimp only at *
 refine Tr.enter env _ Tryz.func135 (by kernel_rfl) rfl Tryz.ntmps135 rfl (by repeat (first | exact has00 | refine has01 ?_)) fun w0=>?_
 repeat' first|(refine gca ?_;first|(refine ca hC ?_;rintro _ _ ⟨rfl,rfl⟩)|(refine ca hBl ?_;rintro _ _ ⟨rfl,rfl⟩))|refine bx fun b=>?_|refine lda ?_|(refine aw (m:=n * f) ?_ (h:=by rw [← ea];rfl))|(refine wo ?_;first|(refine ao ?_;first|refine aw ?_|refine oa ?_)|refine oa ?_|refine ld ?_|refine gy ?_|(refine gsi (fun hB=>?_) (fun hB=>?_) <;> try (exfalso;omega)))|(refine gc ?_;first|refine cf ?_|(refine ci (fun hB=>?_) (fun hB=>?_) <;> try (exfalso;omega)))|refine sq ?_|refine rg ?_|refine xc ?_|refine nl ?_|refine sk ?_|refine bk ?_|refine xb ?_
 refine rs (id:=6) (fun w=>w.heap[b]? = some (.cells [I size,I sym,I k,I seed,tv].toArray TMf (0,0))) ?_ (fun w hw=>pt_at memA hw)
 refine tka 0 ?_
 refine tka 1 ?_
 refine tkl 2 (cs:=[I size,I sym,I k,I seed,tv]) (fun w h=>h) ?_
 refine tka 3 ?_
 refine tkl 4 (cs:=[I size,I sym,I k,I seed,tv]) (fun w h=>h) ?_
 refine tk 5 (v:=I f) (hi:=rfl) (fun w h=>by rw [← ef];exact R_wrap (R_auto (E:=env) rfl) (by omega)) ?_
 refine tka 6 ?_
 refine tkl 7 (cs:=[I size,I sym,I k,I seed,tv]) (fun w h=>h) ?_
 refine tka 8 ?_
 refine tkw 9 (size - n * f) ?_
 refine tk 10 (v:=I (minI f (size - n * f))) (hi:=rfl) (fun w h=>by exact R_min2 rfl rfl) ?_
 refine tka 11 ?_
 refine tka 12 ?_
 refine tka 13 ?_
 refine t0 ?_
 repeat' first|refine xc ?_|refine rt ?_
 exact r3 ⟨rfl,rfl⟩
theorem Rput12_tr (b:Value) (l:List Int) (w:Nat) (n:Int) (hb:b.oneCell' = true) (hw:w ≤ 8) (hn:0 ≤ n) (hl:l.length ≤ 1099511627776):Tr Tryz.prog 59 [b,I w,I n] [] [own TyB b (By l)] fun v D=>v.oneCell' = true∧D = [own TyB v (By (l ++ beB w n))]:=by
 have hbl:=beB_len w n
 refine Tr.enter env _ Tryz.func59 (by kernel_rfl) rfl Tryz.ntmps59 rfl (by repeat (first | exact has00 | refine has01 ?_)) fun w0=>?_
 repeat' first|(refine wo ?_;first|(refine ao ?_;first|refine aw ?_)|refine oa ?_)|refine sq ?_|refine rg ?_|refine xc ?_|refine nl ?_|refine bk ?_
 refine TC.loop (ι:=Nat × Value) (fun g=>[(7,I ((w:Int) - 1 - g.1)),(0,g.2)]) (fun g=>[own TyB g.2 (By (l ++ (beB w n).take g.1))]) (fun g=>g.1 ≤ w∧g.2.oneCell' = true) (fun g=>w - g.1) (0,b) [1,2] ⟨Nat.zero_le _,hb⟩ ?_ (hs:=by dsimp only;rw [show (w:Int) - 1 - ((0:Nat):Int) = w - 1 by omega];(repeat (refine Sub.cons rfl (by first | rfl | go_num) ?_));exact Sub.nil) (hf:=by dsimp only;rw [List.take_zero,List.append_nil];exact fitA)
 rintro ⟨j,o⟩ ⟨hj,ho⟩
 dsimp only at hj ho ⊢
 by_cases hlt:j < w
 ·have e1:=beB_take (n:=n) hlt
  have e2:((beB w n).take j).length ≤ 8:=by rw [List.length_take];omega
  generalize (beB w n).take j = T at *
  have e3:(w:Int) - 1 - ((j + 1:Nat):Int) = (w:Int) - 1 - j - 1:=by omega
  repeat' first|refine shr ?_|refine u8m ?_|(refine slbz fun v1 hv1=>?_)|(refine apb (l:=l ++ T) fun v3 h3=>?_)|(refine wo ?_;first|(refine ao ?_;first|refine aw ?_|refine oa ?_)|refine ucv ?_|refine oa ?_)|(refine gc ?_;first|(refine ci (fun hB=>?_) (fun hB=>?_) <;> try (exfalso;omega)))|refine sq ?_|refine rg ?_|refine xc ?_|refine nl ?_|refine sk ?_|refine bk ?_|refine xb ?_
  exact lp (j + 1,v3) ⟨hlt,h3⟩ (by dsimp only;omega) (hs:=by dsimp only;rw [e3];(repeat (refine Sub.cons rfl (by first | rfl | go_num) ?_));exact Sub.nil) (hf:=by dsimp only;rw [e1,← List.append_assoc];exact fitA)
 ·obtain rfl:j = w:=by omega
  rw [List.take_of_length_le (by omega)]
  repeat' first|(refine wo ?_;first|(refine ao ?_;first|refine oa ?_)|refine oa ?_)|(refine gc ?_;first|(refine ci (fun hB=>?_) (fun hB=>?_) <;> try (exfalso;omega)))|refine sq ?_|refine rg ?_|refine xc ?_|refine nl ?_|refine xe ?_|refine rt ?_
  exact r1 ⟨ho,rfl⟩
set_option maxHeartbeats 2000000 in
theorem RMPut_tr (m:MfS) (tv:Value) (hv:tv.oneCell' = true) (hsd:m.seed ≤ 9223372036854775807):Tr Tryz.prog 26 [.agg #[I m.size,I m.sym,I m.k,I m.seed,tv]] [vw tv (Is m.t)] []
  fun v D=>∃ o,v = tup2 o (I (mfE m))∧o.oneCell' = true∧D = [own TyB o (By (if m.ok then m.bytes else []))]:=by
 have hC:=RMCheck_tr m tv hv
 refine Tr.enter env _ Tryz.func26 (by kernel_rfl) rfl Tryz.ntmps26 rfl (by repeat (first | exact has00 | refine has01 ?_)) fun w0=>?_
 refine TC.leni (v:=tv) (l:=m.t) fun htl=>?_
 by_cases h:m.ok
 rotate_left
 ·rw [show mfE m = 2 from if_neg h] at hC ⊢
  rw [if_neg h]
  repeat' first|(refine gca ?_;first|(refine ca hC ?_;rintro _ _ ⟨rfl,rfl⟩))|refine bx fun b=>?_|refine lda ?_|(refine wo ?_;first|(refine ao ?_;first|refine oa ?_)|refine oa ?_)|(refine gc ?_;first|refine ct ?_)|refine sq ?_|refine rg ?_|refine xc ?_|refine nl ?_|refine rt ?_
  refine TX.im (own_nil TyB _) ?_
  exact r2 ⟨nS,rfl,rfl,rfl⟩
 rw [show mfE m = 0 from if_pos h] at hC ⊢
 rw [if_pos h]
 obtain ⟨h1,h2,h3,h4,h5⟩:=id h
 have hsol:=mtB_sol h3 h5
 have hws:∀ x ∈ m.t,0 ≤ x∧x ≤ 16777215:=(solE_zero hsol.1).2.2.1
 have htl2:=hsol.2
 obtain ⟨size,sym,k,seed,t⟩:=m
 dsimp only at *
 have P1:=Rput12_tr nS [] 4 size rfl (by decide) (by omega) (by simp)
 have P2:=fun u hu=>Rput12_tr u ([] ++ beB 4 size) 2 sym hu (by decide) (by omega) (by simp [beB_len])
 have P3:=fun u hu=>Rput12_tr u ([] ++ beB 4 size ++ beB 2 sym) 4 k hu (by decide) (by omega) (by simp [beB_len])
 have P4:=fun u hu=>Rput12_tr u ([] ++ beB 4 size ++ beB 2 sym ++ beB 4 k) 8 seed hu (by decide) (by omega) (by simp [beB_len])
 have P5:=fun u hu=>Rput12_tr u ([] ++ beB 4 size ++ beB 2 sym ++ beB 4 k ++ beB 8 seed) 2 t.length hu (by decide) (by omega) (by simp [beB_len])
 have hlen:(headB ⟨size,sym,k,seed,t⟩ 5).length = 20:=by simp [headB,beB_len]
 have hbt:MfS.bytes ⟨size,sym,k,seed,t⟩ = headB ⟨size,sym,k,seed,t⟩ 5 ++ wB t t.length:=rfl
 rw [hbt]
 repeat' first|(refine gca ?_;first|(refine ca hC ?_;rintro _ _ ⟨rfl,rfl⟩))|refine bx fun b=>?_|refine lda ?_|(refine wo ?_;first|(refine ao ?_;first|refine oa ?_)|refine oa ?_)|(refine gc ?_;first|refine cf ?_)|refine sq ?_|refine rg ?_|refine xc ?_|refine nl ?_|refine sk ?_
 refine TC.im (own_nil TyB _) ?_
 refine rs (fun w=>w.heap[b]? = some (.cells [I size,I sym,I k,I seed,tv].toArray TMf (0,0))∧Sl w tv (Is t)) ?_ (fun w hw=>⟨pt_at memA hw,has_sl hw hasA⟩)
 refine tka 0 ?_
 refine tkl 1 (cs:=[I size,I sym,I k,I seed,tv]) (fun w h=>h.1) ?_
 refine tka 3 ?_
 refine tkl 4 (cs:=[I size,I sym,I k,I seed,tv]) (fun w h=>h.1) ?_
 refine tka 6 ?_
 refine tkl 7 (cs:=[I size,I sym,I k,I seed,tv]) (fun w h=>h.1) ?_
 refine tka 9 ?_
 refine tkl 10 (cs:=[I size,I sym,I k,I seed,tv]) (fun w h=>h.1) ?_
 refine tka 12 ?_
 refine tkl 13 (cs:=[I size,I sym,I k,I seed,tv]) (fun w h=>h.1) ?_
 refine tk 14 (v:=I t.length) (hi:=rfl) (fun w h=>by rw [show (t.length:Int) = ((Is t).length:Int) by rw [Is_len]];exact R_len (E:=env) rfl rfl h.2) ?_
 refine t1 2 ?_
 refine ca P1 ?_
 rintro u1 _ ⟨hu1,rfl⟩
 refine nl ?_
 refine te (fun w hw=>⟨pt_at memA hw,has_sl hw hasA⟩) ?_
 refine t1 5 ?_
 refine ca (P2 u1 hu1) ?_
 rintro u2 _ ⟨hu2,rfl⟩
 refine nl ?_
 refine te (fun w hw=>⟨pt_at memA hw,has_sl hw hasA⟩) ?_
 refine t1 8 ?_
 refine ca (P3 u2 hu2) ?_
 rintro u3 _ ⟨hu3,rfl⟩
 refine nl ?_
 refine te (fun w hw=>⟨pt_at memA hw,has_sl hw hasA⟩) ?_
 refine t1 11 ?_
 refine ca (P4 u3 hu3) ?_
 rintro u4 _ ⟨hu4,rfl⟩
 refine nl ?_
 refine te (fun w hw=>⟨pt_at memA hw,has_sl hw hasA⟩) ?_
 refine t1 15 ?_
 refine ca (P5 u4 hu4) ?_
 rintro u5 _ ⟨hu5,rfl⟩
 refine nl ?_
 refine te (fun w hw=>⟨pt_at memA hw,has_sl hw hasA⟩) ?_
 refine tka 16 ?_
 refine t0 ?_
 skip
 have hH:headB ⟨size,sym,k,seed,t⟩ 5 = [] ++ beB 4 size ++ beB 2 sym ++ beB 4 k ++ beB 8 seed ++ beB 2 t.length:=rfl
 rw [← hH]
 generalize headB ⟨size,sym,k,seed,t⟩ 5 = H at *
 repeat' first|(refine wo ?_;first|refine oa ?_)|refine sq ?_|refine rg ?_|refine xc ?_|refine nl ?_|refine bk ?_
 refine TC.loop (ι:=Nat × Value) (fun g=>[(5,I g.1),(4,g.2)]) (fun g=>[own TyB g.2 (By (H ++ wB t g.1))]) (fun g=>g.1 ≤ t.length∧g.2.oneCell' = true) (fun g=>t.length - g.1) (0,u5) [1] ⟨Nat.zero_le _,hu5⟩ ?_ (hf:=by dsimp only;rw [show H ++ wB t 0 = H from List.append_nil H];exact fitA)
 rintro ⟨j,bv⟩ ⟨hj,hbv⟩
 dsimp only at hj hbv ⊢
 have hwl:=wB_len t j hj
 by_cases hlt:j < t.length
 ·have hx:=hws _ (mem_getD.2 ⟨j,hlt,rfl⟩)
  have hP:=Rput12_tr bv (H ++ wB t j) 4 (t.getD j 0) hbv (by decide) hx.1 (by rw [List.length_append,hlen,hwl];omega)
  rw [List.append_assoc,← wB_succ hlt] at hP
  repeat' first|(refine gca ?_;first|(refine ca hP ?_;rintro bv2 _ ⟨hbv2,rfl⟩))|(refine wo ?_;first|(refine ao ?_;first|refine aw ?_|refine oa ?_)|refine oa ?_|refine ld ?_|refine lnm ?_|refine ixmn ?_|refine li ?_)|(refine gc ?_;first|(refine ci (fun hB=>?_) (fun hB=>?_) <;> try (exfalso;omega)))|refine sq ?_|refine rg ?_|refine xc ?_|refine nl ?_|refine sk ?_|refine bk ?_|refine xb ?_
  exact lp (j + 1,bv2) ⟨hlt,hbv2⟩
 ·obtain rfl:j = t.length:=by omega
  repeat' first|(refine wo ?_;first|(refine ao ?_;first|refine oa ?_)|refine oa ?_|refine ld ?_|refine lnm ?_)|(refine gc ?_;first|(refine ci (fun hB=>?_) (fun hB=>?_) <;> try (exfalso;omega)))|refine sq ?_|refine rg ?_|refine xc ?_|refine nl ?_|refine xe ?_|refine rt ?_
  exact r2 ⟨bv,rfl,hbv,rfl⟩
end Go.Art
namespace Go.Art
open Go Go.Proofs Go.RowKit
section
variable {P:Program} {E:Env P} {n:Sh} {X:Cx} {s:List K} {fr:Fr} {A A':List Ch} {ops:Array Oper} {rest:List Oper} {d:Nat} {ty t t':TypeId} {pos:String} {after:Array Edge} {x y:Operand} {v u z:Value} {by_:Nat} {xs:List Value} {w:World}
theorem R_copy0 {e:TypeId} {o o2:Option Addr} {m c c2:Nat} (ht:lk E.und t = some (.slice e)) (he:lk E.inf e = some (z,1,by_)) (hx:ev fr x = some (.slice o m c)) (hy:ev fr y = some (.slice o2 0 c2)) :
  OpV P n fr (.call ⟨.builtin .copy,#[x,y],#[t,t']⟩) ty w (I 0) w:=⟨fun a ha _ _ _ _=>by
 obtain ⟨inf,hi,_,hsz,_⟩:=E.info he
 have hl:∀ b:Addr,(loadCells b 0).run P w = .ok #[] w:=fun b=>run_loadCells_list (P:=P) w b [] (by intro j v h;cases h)
 simp only [execOp,resolve]
 simp only [List.map_toArray,List.map_cons,List.map_nil,ha.ev hx,ha.ev hy]
 cases o <;> cases o2 <;> simp [invoke,builtin,Builtin.copy_,run_underlying (P:=P) (E.un ht),Builtin.lenOf,Builtin.firstCells,sizeOf,typeInfo,hi,hsz,hl,storeCells,goInt]⟩
theorem cpf {e:TypeId} {cs:List Value} (kk:TO E n X s ops rest ((d,I cs.length) :: fr) (own e v (cs ++ xs.drop cs.length) :: A')) (hx:ev fr x = some v:=by rfl) (hy:ev fr y = some u:=by rfl) (hm:Tk (own e v xs) A A':=by exact tkA) (hu:Has A' (vw u cs):=by exact hasA) (hk:cs.length ≤ xs.length:=by omega)
  (h1:∀ c ∈ cs,c.oneCell' = true) (ht:lk E.und t = some (.slice e):=by rfl) (he:lk E.inf e = some (z,1,by_):=by rfl) (hd:Nat.blt d n.n = true:=by rfl) :
  TO E n X s ops (⟨some d,.call ⟨.builtin .copy,#[x,y],#[t,t']⟩,ty,pos,after,none⟩ :: rest) fr A:=⟨fun w hw=>by
 have h2:=hw.im hm
 have h3:OwnO w e v xs:=h2.mem (List.Mem.head _)
 have h4:Sl w u cs:=has_sl (Sat.cons.1 h2.sat).2.2 hu
 obtain ⟨o,c,e1,g1,g2,g3⟩:=h4
 subst e1
 cases cs with
 | nil=>
  obtain ⟨o',c',e2,_⟩:=h3.sl
  subst e2
  exact (TO.val (fun _ _=>R_copy0 ht he hx hy) (A:=A) ⟨fun w' hw'=>kk.run w' (hw'.im hm)⟩ hd).run w hw
 | cons a l=>
  obtain ⟨ad,e2,_⟩:=g3 0 _ rfl
  subst e2
  refine SO_copyO hd ht he h3 (Tl.zero h3.sl) (by omega) (by simp) hx hy (fun j u hj=>?_) h1 fun w' hU hO=>kk.run w' (h2.set hU (fun b hb=>.inl (by show v.ownBlock = some b;simpa using hb)) (show OwnO w' e v _ from by simpa using hO) ?_ (fun _ h=>h))
  ·obtain ⟨ad2,e3,h5⟩:=g3 j u hj
   cases e3;exact h5
  ·rintro b (hb | hb | hb);exact .inl hb;exact hb.elim;exact hb.elim⟩
end
end Go.Art
namespace Go.Art
open Go Go.Proofs Go.RowKit
attribute [local irreducible] Fit pt own ro vw mpc lpt vels rels mow lrc dfr
attribute [local irreducible] lmp lme mit velg relg
def padL (m:List Int) (n:Nat):List Int:=m ++ List.replicate (n - m.length) 0
theorem padL_len {m:List Int} {n:Nat} (h:m.length ≤ n):(padL m n).length = n:=by unfold padL;simp;omega
theorem psized_tr (m:Int):Tr Tryz.prog 152 [I m] [] [] fun v D=>v = .bool (decide (0 ≤ m) && decide (m ≤ 65535))∧D = []:=by
 by_cases h:0 ≤ m
 ·rw [decide_eq_true h]
  refine Tr.enter env _ Tryz.func152 (by kernel_rfl) rfl Tryz.ntmps152 rfl (by repeat (first | exact has00 | refine has01 ?_)) fun w0=>?_
  repeat' first|(refine wo ?_;first|(refine ao ?_;first|refine oa ?_)|refine oa ?_|refine gy ?_|(refine gsi (fun hB=>?_) (fun hB=>?_) <;> try (exfalso;omega)))|refine sq ?_|refine rg ?_|refine xc ?_|refine nl ?_|refine rt ?_
  exact r1 ⟨rfl,rfl⟩
 ·rw [decide_eq_false h]
  refine Tr.enter env _ Tryz.func152 (by kernel_rfl) rfl Tryz.ntmps152 rfl (by repeat (first | exact has00 | refine has01 ?_)) fun w0=>?_
  repeat' first|(refine wo ?_;first|(refine ao ?_;first|refine oa ?_)|refine oa ?_|refine gn ?_|(refine gsi (fun hB=>?_) (fun hB=>?_) <;> try (exfalso;omega)))|refine sq ?_|refine rg ?_|refine xc ?_|refine nl ?_|refine rt ?_
  exact r1 ⟨rfl,rfl⟩
theorem Pad_tr (b:Value) (m:List Int) (n:Nat) (hm:m.length ≤ n) (hn:n ≤ 65535):Tr Tryz.prog 125 [b,I n] [vw b (By m)] [] fun v D=>∃ o,v = tup2 o (I 0)∧o.oneCell' = true∧D = [own TyB o (By (padL m n))]:=by
 have hml:=By_len m
 refine Tr.enter env _ Tryz.func125 (by kernel_rfl) rfl Tryz.ntmps125 rfl (by repeat (first | exact has00 | refine has01 ?_)) fun w0=>?_
 repeat' first|(refine gca ?_;first|(refine ca (psized_tr n) ?_;rintro _ _ ⟨rfl,rfl⟩;rw [show (decide (0 ≤ (n:Int)) && decide ((n:Int) ≤ 65535)) = true from by rw [decide_eq_true (Int.natCast_nonneg n),decide_eq_true (by omega)];rfl]))|refine ln (xs:=By m) ?_|(refine wo ?_;first|(refine ao ?_;first|refine oa ?_)|refine oa ?_)|(refine gc ?_;first|refine cf ?_|(refine ci (fun hB=>?_) (fun hB=>?_) <;> try (exfalso;omega)))|refine sq ?_|refine rg ?_|refine xc ?_|refine nl ?_|refine sk ?_|refine bk ?_|refine xb ?_
 refine mkb fun o=>?_
 rw [Int.toNat_natCast]
 refine TO.one (v:=o) (xs:=By (List.replicate n 0)) fun ho=>?_
 have hrl:(By (List.replicate n 0)).length = n:=by rw [By_len,List.length_replicate]
 repeat' first|refine cpf (xs:=By (List.replicate n 0)) (cs:=By m) ?_ (h1:=By_one _)|(refine wo ?_;first|refine oa ?_)|refine sq ?_|refine rg ?_|refine xc ?_|refine nl ?_|refine rt ?_
 have e:By m ++ (By (List.replicate n 0)).drop (By m).length = By (padL m n):=by
  unfold padL By
  rw [List.map_append,← List.map_drop,List.length_map,List.drop_replicate]
 rw [e]
 repeat' first|(refine wo ?_;first|(refine ao ?_;first|refine aw ?_|refine aw6 ?_|refine oa ?_|refine adiv ?_|refine amod ?_|refine shr1 ?_|refine shr ?_|refine umod ?_|refine isl ?_|refine ipe ?_|refine ipn ?_|refine ibe ?_)|refine acw ?_|refine ucv ?_|refine anw ?_|refine oa ?_|refine ld ?_|refine ldl ?_|refine lnm ?_|refine ixmn ?_|refine ixm ?_|refine li ?_|refine lb ?_|refine lv ?_|refine ln ?_|refine ixn ?_|refine ix ?_|refine le ?_|refine sr ?_|refine soi ?_|refine sob ?_|refine scm ?_|refine sclm ?_|refine schm ?_|refine gy ?_|refine gn ?_|refine gnn ?_|refine gu ?_|(refine gsi (fun hB=>?_) (fun hB=>?_) <;> try (exfalso;omega))|(refine gsn (fun hB=>?_) (fun hB=>?_) <;> try (exfalso;omega))|(refine gs (fun hB=>?_) (fun hB=>?_) <;> try (exfalso;omega)))|(refine gc ?_;first|refine ct ?_|refine cf ?_|(refine ci (fun hB=>?_) (fun hB=>?_) <;> try (exfalso;omega))|(refine cn (fun hB=>?_) (fun hB=>?_) <;> try (exfalso;omega))|(refine cb (fun hB=>?_) (fun hB=>?_) <;> try (exfalso;omega)))|refine sq ?_|refine rg ?_|refine xc ?_|refine nl ?_|refine sk ?_|refine bk ?_|refine xe ?_|refine rt ?_|refine xb ?_
 exact r2 ⟨o,rfl,ho,rfl⟩
abbrev TSz:TypeId:=133
theorem padded_tr (b:Value) (m:List Int) (k:Int) (n:Nat) (hm:m.length ≤ n) (hn:n ≤ 65535):Tr Tryz.prog 87 [.agg #[I k,I n],b] [vw b (By m)] [] fun v D=>v.oneCell' = true∧D = [own TyB v (By (padL m n))]:=by
 refine Tr.enter env _ Tryz.func87 (by kernel_rfl) rfl Tryz.ntmps87 rfl (by repeat (first | exact has00 | refine has01 ?_)) fun w0=>?_
 repeat' first|(refine gca ?_;first|(refine ca (Pad_tr b m n hm hn) ?_;rintro _ _ ⟨o,rfl,ho,rfl⟩))|refine bx fun p=>?_|(refine wo ?_;first|refine oa ?_|refine ld ?_)|refine sq ?_|refine rg ?_|refine xc ?_|refine nl ?_|refine rt ?_
 exact r1 ⟨ho,rfl⟩
end Go.Art
namespace Go.Art
open Go Go.Proofs Go.RowKit
attribute [local irreducible] Fit pt own ro vw mpc lpt vels rels mow lrc dfr
attribute [local irreducible] lmp lme mit velg relg
abbrev TB:TypeId:=25
theorem Chunk_tr (b:Value) (S:Int) (hS:1 ≤ S) (hb:b.oneCell' = true):Tr Tryz.prog 86 [b,I S] [] [] fun v D=>∃ c1 c2,v = .func (.func 124) #[] #[ptr c1,ptr c2]∧D = [pt c1 [b] TB,pt c2 [I S] 3]:=by
 refine Tr.enter env _ Tryz.func86 (by kernel_rfl) rfl Tryz.ntmps86 rfl (by repeat (first | exact has00 | refine has01 ?_)) fun w0=>?_
 repeat' first|refine bx1 fun c=>?_|(refine wo ?_;first|(refine ao ?_;first|refine oa ?_)|refine oa ?_|refine ld ?_)|(refine gc ?_;first|(refine ci (fun hB=>?_) (fun hB=>?_) <;> try (exfalso;omega)))|refine sq ?_|refine rg ?_|refine xc ?_|refine nl ?_|refine sk ?_|refine rt ?_
 rename_i c1
 exact r1 ⟨c1,c,rfl,rfl⟩
def chP (m:List Int) (S i:Nat):List Int:=padL ((m.drop (i * S)).take S) S
def chL (m:List Int) (S j:Nat):List (List Int):=(List.range j).map (chP m S)
theorem chL_succ (m:List Int) (S j:Nat):chL m S (j + 1) = chL m S j ++ [chP m S j]:=by unfold chL;rw [List.range_succ,List.map_append];rfl
theorem chL_len (m:List Int) (S j:Nat):(chL m S j).length = j:=by unfold chL;simp
structure CkG where
 j:Nat
 at_:Nat
 o:Value
 hs:List Value
abbrev ckJ (p8 p9 k S:Nat) (m:List Int) (j:Nat) (o:Value) (hs:List Value):List Ch:=[pt p8 [I k,I S] TSz,pt p9 [o] 63,own TyV o hs,relg y8 hs (chL m S j)]
theorem Chunk1_tr (l Dm c1 c2 p8 p9 k S:Nat) (rec:Loop) (b:Value) (m:List Int) (hS:1 ≤ S∧S ≤ 65535) (hm:m.length ≤ 1099511627776)
  (hy:∀ (j:Nat) (o:Value) (hs:List Value) (h:Value),hs.length = j→o.oneCell' = true→j * S < m.length→Ty Tryz.prog l [h] [vw h (By ((m.drop (j * S)).take S))] ([lrc l rec .ready none,dfr Dm,pt p8 [I k,I S] TSz,pt p9 [o] 63,own TyV o hs,relg y8 hs (chL m S j)])
   fun ok B=>ok = true∧∃ o' hs',hs'.length = j + 1∧o'.oneCell' = true∧B = [lrc l rec .ready none,dfr Dm,pt p8 [I k,I S] TSz,pt p9 [o'] 63,own TyV o' hs',relg y8 hs' (chL m S (j + 1))]) :
  Tr Tryz.prog 124 [yv l,ptr c1,ptr c2] [lpt c1 [b] TB,lpt c2 [I S] 3,vw b (By m)] [lrc l rec .ready none,dfr Dm,pt p8 [I k,I S] TSz,pt p9 [nS] 63,own TyV nS [],relg y8 [] (chL m S 0)]
   fun _ B=>∃ j o hs,m.length ≤ j * S∧(j = 0∨(j - 1) * S < m.length)∧hs.length = j∧o.oneCell' = true∧B = [lrc l rec .ready none,dfr Dm,pt p8 [I k,I S] TSz,pt p9 [o] 63,own TyV o hs,relg y8 hs (chL m S j)]:=by
 have hml:=By_len m
 refine Tr.enter env _ Tryz.func124 (by kernel_rfl) rfl Tryz.ntmps124 rfl (by repeat (first | exact has00 | refine has01 ?_)) fun w0=>?_
 repeat' first|(refine wo ?_;first|refine oa ?_)|refine sq ?_|refine rg ?_|refine xc ?_|refine nl ?_|refine bk ?_
 refine TC.loop (ι:=CkG) (fun g=>[(4,I g.at_)]) (fun g=>[lrc l rec .ready none,dfr Dm,pt p8 [I k,I S] TSz,pt p9 [g.o] 63,own TyV g.o g.hs,relg y8 g.hs (chL m S g.j)]) (fun g=>g.at_ = g.j * S∧(g.j = 0∨(g.j - 1) * S < m.length)∧g.hs.length = g.j∧g.o.oneCell' = true) (fun g=>m.length - g.at_) ⟨0,0,nS,[]⟩ [0,1,2] ⟨by simp,.inl rfl,rfl,rfl⟩ ?_ (hf:=by dsimp only;exact fitA)
 rintro ⟨j,at_,o,hs⟩ ⟨ha,hp,hl,ho⟩
 dsimp only at ha hp hl ho ⊢
 by_cases hlt:at_ < m.length
 ·repeat' first|refine ln (xs:=By m) ?_|(refine wo ?_;first|(refine ao ?_;first|refine oa ?_)|refine oa ?_|refine ldl ?_)|(refine gc ?_;first|(refine ci (fun hB=>?_) (fun hB=>?_) <;> try (exfalso;omega)))|refine sq ?_|refine rg ?_|refine xc ?_|refine nl ?_|refine sk ?_|refine bk ?_
  have hmi:minI (S:Int) ((m.length - at_:Nat):Int) = ((min S (m.length - at_):Nat):Int):=by unfold minI;split <;> omega
  have hpc:((By m).take (at_ + min S (m.length - at_))).drop at_ = By ((m.drop (j * S)).take S):=by
   rw [← ha];unfold By;rw [← List.map_take,← List.map_drop,List.drop_take,Nat.add_sub_cancel_left,Nat.min_def]
   split
   ·rfl
   ·rw [List.take_of_length_le (by simp),List.take_of_length_le (by simp;omega)]
  have he1:1 ≤ min S (m.length - at_)∧at_ + min S (m.length - at_) ≤ m.length∧min S (m.length - at_) ≤ S:=by omega
  generalize min S (m.length - at_) = e at *
  refine TC.fact (p:=Tl b b m.length 0) (fun w hw=>by have:=Tl.zero (has_sl hw (v:=b) (xs:=By m) hasA);rwa [hml] at this) fun tz=>?_
  have tl:=tz.next (m:=at_) (by omega)
  rw [Nat.sub_zero,Nat.zero_add] at tl
  refine rs (fun w=>w.heap[c1]? = some (.cells [b].toArray TB (0,0))∧w.heap[c2]? = some (.cells [I S].toArray 3 (0,0))) ?_ (fun w hw=>⟨lpt_at memA hw,lpt_at memA hw⟩)
  refine tkl 0 (cs:=[I S]) (fun w h=>h.2) ?_
  refine tkl 1 (cs:=[b]) (fun w h=>h.1) ?_
  refine tka 2 ?_
  refine t1 3 ?_
  refine scl (xs:=By m) ?_
  rw [hml,Int.toNat_natCast]
  refine nl ?_
  refine te (fun w hw=>⟨lpt_at memA hw,lpt_at memA hw⟩) ?_
  refine t1 4 ?_
  refine lnt (xs:=By m) hml tl ?_
  refine nl ?_
  refine te (fun w hw=>⟨lpt_at memA hw,lpt_at memA hw⟩) ?_
  refine t1 5 ?_
  refine mn2 ?_
  rw [hmi]
  refine nl ?_
  refine te (fun w hw=>⟨lpt_at memA hw,lpt_at memA hw⟩) ?_
  refine tka 6 ?_
  refine t0 ?_
  refine xc ?_
  repeat' first|refine sl3 (xs:=By m) ?_|(refine wo ?_;first|(refine ao ?_;first|refine aw ?_)|refine oa ?_|refine ldl ?_)|refine sq ?_|refine rg ?_
  rw [show ((at_:Int) + (e:Int)).toNat = at_ + e by omega,Int.toNat_natCast]
  refine cy (hy j o hs (slCl b at_ (at_ + e)) hl ho (by omega)) ?_ (hp:=has1 (by rw [← hpc];exact has_cl hasA (by omega) (by omega)) has0)
  rintro _ _ ⟨rfl,o',hs',hl',ho',rfl⟩
  repeat' first|(refine wo ?_;first|(refine ao ?_;first|refine aw ?_)|refine oa ?_|refine ldl ?_)|(refine gc ?_;first|refine cf ?_)|refine rg ?_|refine xc ?_|refine nl ?_|refine sk ?_|refine xb ?_
  rw [show ((at_:Int) + (S:Int)) = ((at_ + S:Nat):Int) by omega]
  exact lp ⟨j + 1,at_ + S,o',hs'⟩ ⟨by dsimp only;rw [ha,Nat.add_mul,Nat.one_mul],by dsimp only;right;rw [Nat.add_sub_cancel];omega,hl',ho'⟩ (by dsimp only;omega) (hs:=by dsimp only;(repeat (refine Sub.cons rfl (by first | rfl | go_num) ?_));exact Sub.nil) (hf:=by dsimp only;exact fitA)
 ·repeat' first|refine ln (xs:=By m) ?_|(refine wo ?_;first|(refine ao ?_;first|refine oa ?_)|refine oa ?_|refine ldl ?_)|(refine gc ?_;first|(refine ci (fun hB=>?_) (fun hB=>?_) <;> try (exfalso;omega)))|refine sq ?_|refine rg ?_|refine xc ?_|refine nl ?_|refine xe ?_
  exact e0 ⟨j,o,hs,by omega,hp,hl,ho,rfl⟩
end Go.Art
namespace Go.Art
open Go Go.Proofs Go.RowKit
attribute [local irreducible] Fit pt own ro vw mpc lpt vels rels mow lrc dfr
attribute [local irreducible] lmp lme mit velg relg
theorem chP_nil {m:List Int} {S j:Nat} (h:m.length ≤ j * S):chP m S j = padL [] S:=by unfold chP;rw [List.drop_eq_nil_of_le h,List.take_nil]
structure CuG where
 j:Nat
 o:Value
 hs:List Value
abbrev TBB:TypeId:=63
theorem Cut_tr (b:Value) (m:List Int) (k S:Nat) (hk:1 ≤ k∧k ≤ 65536) (hS:1 ≤ S∧S ≤ 65535) (hm:(m.length:Int) ≤ (k:Int) * (S:Int)):Tr Tryz.prog 52 [b,I k,I S] [vw b (By m)] []
  fun v D=>∃ o hs,v = tup2 o (I 0)∧o.oneCell' = true∧hs.length = k∧D = [own TyV o hs,relg y8 hs (chL m S k)]:=by
 have hml:=By_len m
 have hp:0 ≤ (k:Int) * (S:Int)∧(k:Int) * (S:Int) ≤ 4294901760:=by
  constructor
  ·exact Int.mul_nonneg (by omega) (by omega)
  ·have:k * S ≤ 65536 * 65535:=Nat.mul_le_mul hk.2 hS.2
   rw [← Int.natCast_mul];omega
 have hmn:m.length ≤ k * S:=by rw [← Int.natCast_mul] at hm;omega
 refine Tr.enterM env _ Tryz.func52 (by kernel_rfl) rfl Tryz.ntmps52 rfl (by (repeat (first | exact has00 | refine has01 ?_));first | done | fail) fun w0=>?_
 refine TC.one (v:=b) (xs:=By m) fun h1b=>?_
 repeat' first|(refine gca ?_;first|(refine ca (may_tr _ _) ?_;rintro _ _ ⟨rfl,rfl⟩;rw [decide_eq_true (show (1 ≤ (k:Int)∧(k:Int) ≤ 65536)∧1 ≤ (S:Int)∧(S:Int) ≤ 65535 by omega)])|(refine ca (Chunk_tr b S (by omega) h1b) ?_;rintro _ _ ⟨c1,c2,rfl,rfl⟩))|refine bdz ?_|refine al fun p=>?_|refine srz ?_|refine lda ?_|refine ln (xs:=By m) ?_|(refine wo ?_;first|(refine ao ?_;first|refine aw ?_|refine oa ?_)|refine oa ?_)|(refine gc ?_;first|refine cf ?_|(refine ci (fun hB=>?_) (fun hB=>?_) <;> try (exfalso;omega)))|refine sq ?_|refine rg ?_|refine xc ?_|refine nl ?_|refine sk ?_|refine bk ?_|refine xb ?_
 rename_i p8
 refine TC.im (B:=[pt c1 [b] TB,pt c2 [I S] 3,pt p [nS] TBB,pt p8 [I k,I S] TSz,vw b (By m)]) (Im.refl _) ?_
 refine TC.im (relg_nil (g:=y8) _) ?_
 refine TC.im (own_nil TyV _) ?_
 refine TC.range [lpt c1 [b] TB,lpt c2 [I S] 3,vw b (By m)] [pt p8 [I k,I S] TSz,pt p [nS] TBB,own TyV nS [],relg y8 [] (chL m S 0)]
  (fun l rec Dm pend B'=>pend = none∧∃ j o hs,m.length ≤ j * S∧j ≤ k∧hs.length = j∧o.oneCell' = true∧B' = [dfr Dm,pt p8 [I k,I S] TSz,pt p [o] TBB,own TyV o hs,relg y8 hs (chL m S j)]) ?_ ?_
 ·intro rec l Dm hrec
  refine (Chunk1_tr l Dm c1 c2 p8 p k S rec b m hS (by omega) ?_).mono ?_
  ·intro j o hs h hhl ho hj
   have hjk:j < k:=Nat.lt_of_mul_lt_mul_right (Nat.lt_of_lt_of_le hj hmn)
   refine Ty.intro env hrec (by (repeat (first | exact has00 | refine has01 ?_));first | done | fail) fun w1=>?_
   repeat' first|refine xbeg ?_|(refine wo ?_;first|refine oa ?_)|refine rg ?_|refine nl ?_|refine bk ?_
   refine rs (fun _=>True) ?_ (fun _ _=>trivial)
   refine t3 0 1 2 ?_ ?_ ?_
   ·refine ld ?_
    refine nl ?_
    refine te (fun _ _=>trivial) ?_
    refine t2 1 2 ?_ ?_
    ·refine lda (cs:=[I k,I S]) (vs:=[I k,I S]) ?_
     refine nl ?_
     refine te (fun _ _=>trivial) ?_
     refine t1 2 ?_
     refine oa ?_
     refine nl ?_
     refine te (fun _ _=>trivial) ?_
     refine t1 3 ?_
     refine ca (padded_tr h ((m.drop (j * S)).take S) k S (by rw [List.length_take];omega) (by omega)) ?_
     rintro c _ ⟨hc1,rfl⟩
     refine nl ?_
     refine te (fun _ _=>trivial) ?_
     refine t1 4 ?_
     refine sli (vs:=[c]) (fun v1=>?_) (h1:=one_cons hc1 one_nil)
     refine nl ?_
     refine te (fun _ _=>trivial) ?_
     refine t1 5 ?_
     refine ap (xs:=hs) (news:=[c]) (fun o2=>?_) (h1:=one_cons hc1 one_nil)
     refine TO.one (v:=o2) (xs:=hs ++ [c]) fun ho2=>?_
     refine nl ?_
     refine te (fun _ _=>trivial) ?_
     refine t1 6 ?_
     refine sr ?_
     refine nl ?_
     refine te (fun _ _=>trivial) ?_
     refine t0 ?_
     refine TX.im (snoc_own (g:=y8) (e:=TyB) (hs:=hs) (ls:=chL m S j) (v:=c) (l:=chP m S j) (by rw [hhl,chL_len]) fitA) ?_
     rw [← chL_succ]
     repeat' first|refine xb ?_
     exact yn ⟨rfl,o2,hs ++ [c],by simp [hhl],ho2,rfl⟩
    ·refine oa ?_
     refine nl ?_
     refine te (fun _ _=>trivial) ?_
     refine t1 1 ?_
     refine lda (cs:=[I k,I S]) (vs:=[I k,I S]) ?_
     refine nl ?_
     refine te (fun _ _=>trivial) ?_
     refine t1 3 ?_
     refine ca (padded_tr h ((m.drop (j * S)).take S) k S (by rw [List.length_take];omega) (by omega)) ?_
     rintro c _ ⟨hc1,rfl⟩
     refine nl ?_
     refine te (fun _ _=>trivial) ?_
     refine t1 4 ?_
     refine sli (vs:=[c]) (fun v1=>?_) (h1:=one_cons hc1 one_nil)
     refine nl ?_
     refine te (fun _ _=>trivial) ?_
     refine t1 5 ?_
     refine ap (xs:=hs) (news:=[c]) (fun o2=>?_) (h1:=one_cons hc1 one_nil)
     refine TO.one (v:=o2) (xs:=hs ++ [c]) fun ho2=>?_
     refine nl ?_
     refine te (fun _ _=>trivial) ?_
     refine t1 6 ?_
     refine sr ?_
     refine nl ?_
     refine te (fun _ _=>trivial) ?_
     refine t0 ?_
     refine TX.im (snoc_own (g:=y8) (e:=TyB) (hs:=hs) (ls:=chL m S j) (v:=c) (l:=chP m S j) (by rw [hhl,chL_len]) fitA) ?_
     rw [← chL_succ]
     repeat' first|refine xb ?_
     exact yn ⟨rfl,o2,hs ++ [c],by simp [hhl],ho2,rfl⟩
   ·refine lda (cs:=[I k,I S]) (vs:=[I k,I S]) ?_
    refine nl ?_
    refine te (fun _ _=>trivial) ?_
    refine t2 0 2 ?_ ?_
    ·refine ld ?_
     refine nl ?_
     refine te (fun _ _=>trivial) ?_
     refine t1 2 ?_
     refine oa ?_
     refine nl ?_
     refine te (fun _ _=>trivial) ?_
     refine t1 3 ?_
     refine ca (padded_tr h ((m.drop (j * S)).take S) k S (by rw [List.length_take];omega) (by omega)) ?_
     rintro c _ ⟨hc1,rfl⟩
     refine nl ?_
     refine te (fun _ _=>trivial) ?_
     refine t1 4 ?_
     refine sli (vs:=[c]) (fun v1=>?_) (h1:=one_cons hc1 one_nil)
     refine nl ?_
     refine te (fun _ _=>trivial) ?_
     refine t1 5 ?_
     refine ap (xs:=hs) (news:=[c]) (fun o2=>?_) (h1:=one_cons hc1 one_nil)
     refine TO.one (v:=o2) (xs:=hs ++ [c]) fun ho2=>?_
     refine nl ?_
     refine te (fun _ _=>trivial) ?_
     refine t1 6 ?_
     refine sr ?_
     refine nl ?_
     refine te (fun _ _=>trivial) ?_
     refine t0 ?_
     refine TX.im (snoc_own (g:=y8) (e:=TyB) (hs:=hs) (ls:=chL m S j) (v:=c) (l:=chP m S j) (by rw [hhl,chL_len]) fitA) ?_
     rw [← chL_succ]
     repeat' first|refine xb ?_
     exact yn ⟨rfl,o2,hs ++ [c],by simp [hhl],ho2,rfl⟩
    ·refine oa ?_
     refine nl ?_
     refine te (fun _ _=>trivial) ?_
     refine t2 0 3 ?_ ?_
     ·refine ld ?_
      refine nl ?_
      refine te (fun _ _=>trivial) ?_
      refine t1 3 ?_
      refine ca (padded_tr h ((m.drop (j * S)).take S) k S (by rw [List.length_take];omega) (by omega)) ?_
      rintro c _ ⟨hc1,rfl⟩
      refine nl ?_
      refine te (fun _ _=>trivial) ?_
      refine t1 4 ?_
      refine sli (vs:=[c]) (fun v1=>?_) (h1:=one_cons hc1 one_nil)
      refine nl ?_
      refine te (fun _ _=>trivial) ?_
      refine t1 5 ?_
      refine ap (xs:=hs) (news:=[c]) (fun o2=>?_) (h1:=one_cons hc1 one_nil)
      refine TO.one (v:=o2) (xs:=hs ++ [c]) fun ho2=>?_
      refine nl ?_
      refine te (fun _ _=>trivial) ?_
      refine t1 6 ?_
      refine sr ?_
      refine nl ?_
      refine te (fun _ _=>trivial) ?_
      refine t0 ?_
      refine TX.im (snoc_own (g:=y8) (e:=TyB) (hs:=hs) (ls:=chL m S j) (v:=c) (l:=chP m S j) (by rw [hhl,chL_len]) fitA) ?_
      rw [← chL_succ]
      repeat' first|refine xb ?_
      exact yn ⟨rfl,o2,hs ++ [c],by simp [hhl],ho2,rfl⟩
     ·refine ca (padded_tr h ((m.drop (j * S)).take S) k S (by rw [List.length_take];omega) (by omega)) ?_
      rintro c _ ⟨hc1,rfl⟩
      refine nl ?_
      refine te (fun _ _=>trivial) ?_
      refine t2 0 4 ?_ ?_
      ·refine ld ?_
       refine nl ?_
       refine te (fun _ _=>trivial) ?_
       refine t1 4 ?_
       refine sli (vs:=[c]) (fun v1=>?_) (h1:=one_cons hc1 one_nil)
       refine nl ?_
       refine te (fun _ _=>trivial) ?_
       refine t1 5 ?_
       refine ap (xs:=hs) (news:=[c]) (fun o2=>?_) (h1:=one_cons hc1 one_nil)
       refine TO.one (v:=o2) (xs:=hs ++ [c]) fun ho2=>?_
       refine nl ?_
       refine te (fun _ _=>trivial) ?_
       refine t1 6 ?_
       refine sr ?_
       refine nl ?_
       refine te (fun _ _=>trivial) ?_
       refine t0 ?_
       refine TX.im (snoc_own (g:=y8) (e:=TyB) (hs:=hs) (ls:=chL m S j) (v:=c) (l:=chP m S j) (by rw [hhl,chL_len]) fitA) ?_
       rw [← chL_succ]
       repeat' first|refine xb ?_
       exact yn ⟨rfl,o2,hs ++ [c],by simp [hhl],ho2,rfl⟩
      ·refine sli (vs:=[c]) (fun v1=>?_) (h1:=one_cons hc1 one_nil)
       refine nl ?_
       refine te (fun _ _=>trivial) ?_
       refine t1 0 ?_
       refine ld ?_
       refine nl ?_
       refine te (fun _ _=>trivial) ?_
       refine t1 5 ?_
       refine ap (xs:=hs) (news:=[c]) (fun o2=>?_) (h1:=one_cons hc1 one_nil)
       refine TO.one (v:=o2) (xs:=hs ++ [c]) fun ho2=>?_
       refine nl ?_
       refine te (fun _ _=>trivial) ?_
       refine t1 6 ?_
       refine sr ?_
       refine nl ?_
       refine te (fun _ _=>trivial) ?_
       refine t0 ?_
       refine TX.im (snoc_own (g:=y8) (e:=TyB) (hs:=hs) (ls:=chL m S j) (v:=c) (l:=chP m S j) (by rw [hhl,chL_len]) fitA) ?_
       rw [← chL_succ]
       repeat' first|refine xb ?_
       exact yn ⟨rfl,o2,hs ++ [c],by simp [hhl],ho2,rfl⟩
   ·refine oa ?_
    refine nl ?_
    refine te (fun _ _=>trivial) ?_
    refine t2 0 1 ?_ ?_
    ·refine ld ?_
     refine nl ?_
     refine te (fun _ _=>trivial) ?_
     refine t1 1 ?_
     refine lda (cs:=[I k,I S]) (vs:=[I k,I S]) ?_
     refine nl ?_
     refine te (fun _ _=>trivial) ?_
     refine t1 3 ?_
     refine ca (padded_tr h ((m.drop (j * S)).take S) k S (by rw [List.length_take];omega) (by omega)) ?_
     rintro c _ ⟨hc1,rfl⟩
     refine nl ?_
     refine te (fun _ _=>trivial) ?_
     refine t1 4 ?_
     refine sli (vs:=[c]) (fun v1=>?_) (h1:=one_cons hc1 one_nil)
     refine nl ?_
     refine te (fun _ _=>trivial) ?_
     refine t1 5 ?_
     refine ap (xs:=hs) (news:=[c]) (fun o2=>?_) (h1:=one_cons hc1 one_nil)
     refine TO.one (v:=o2) (xs:=hs ++ [c]) fun ho2=>?_
     refine nl ?_
     refine te (fun _ _=>trivial) ?_
     refine t1 6 ?_
     refine sr ?_
     refine nl ?_
     refine te (fun _ _=>trivial) ?_
     refine t0 ?_
     refine TX.im (snoc_own (g:=y8) (e:=TyB) (hs:=hs) (ls:=chL m S j) (v:=c) (l:=chP m S j) (by rw [hhl,chL_len]) fitA) ?_
     rw [← chL_succ]
     repeat' first|refine xb ?_
     exact yn ⟨rfl,o2,hs ++ [c],by simp [hhl],ho2,rfl⟩
    ·refine lda (cs:=[I k,I S]) (vs:=[I k,I S]) ?_
     refine nl ?_
     refine te (fun _ _=>trivial) ?_
     refine t2 0 3 ?_ ?_
     ·refine ld ?_
      refine nl ?_
      refine te (fun _ _=>trivial) ?_
      refine t1 3 ?_
      refine ca (padded_tr h ((m.drop (j * S)).take S) k S (by rw [List.length_take];omega) (by omega)) ?_
      rintro c _ ⟨hc1,rfl⟩
      refine nl ?_
      refine te (fun _ _=>trivial) ?_
      refine t1 4 ?_
      refine sli (vs:=[c]) (fun v1=>?_) (h1:=one_cons hc1 one_nil)
      refine nl ?_
      refine te (fun _ _=>trivial) ?_
      refine t1 5 ?_
      refine ap (xs:=hs) (news:=[c]) (fun o2=>?_) (h1:=one_cons hc1 one_nil)
      refine TO.one (v:=o2) (xs:=hs ++ [c]) fun ho2=>?_
      refine nl ?_
      refine te (fun _ _=>trivial) ?_
      refine t1 6 ?_
      refine sr ?_
      refine nl ?_
      refine te (fun _ _=>trivial) ?_
      refine t0 ?_
      refine TX.im (snoc_own (g:=y8) (e:=TyB) (hs:=hs) (ls:=chL m S j) (v:=c) (l:=chP m S j) (by rw [hhl,chL_len]) fitA) ?_
      rw [← chL_succ]
      repeat' first|refine xb ?_
      exact yn ⟨rfl,o2,hs ++ [c],by simp [hhl],ho2,rfl⟩
     ·refine ca (padded_tr h ((m.drop (j * S)).take S) k S (by rw [List.length_take];omega) (by omega)) ?_
      rintro c _ ⟨hc1,rfl⟩
      refine nl ?_
      refine te (fun _ _=>trivial) ?_
      refine t2 0 4 ?_ ?_
      ·refine ld ?_
       refine nl ?_
       refine te (fun _ _=>trivial) ?_
       refine t1 4 ?_
       refine sli (vs:=[c]) (fun v1=>?_) (h1:=one_cons hc1 one_nil)
       refine nl ?_
       refine te (fun _ _=>trivial) ?_
       refine t1 5 ?_
       refine ap (xs:=hs) (news:=[c]) (fun o2=>?_) (h1:=one_cons hc1 one_nil)
       refine TO.one (v:=o2) (xs:=hs ++ [c]) fun ho2=>?_
       refine nl ?_
       refine te (fun _ _=>trivial) ?_
       refine t1 6 ?_
       refine sr ?_
       refine nl ?_
       refine te (fun _ _=>trivial) ?_
       refine t0 ?_
       refine TX.im (snoc_own (g:=y8) (e:=TyB) (hs:=hs) (ls:=chL m S j) (v:=c) (l:=chP m S j) (by rw [hhl,chL_len]) fitA) ?_
       rw [← chL_succ]
       repeat' first|refine xb ?_
       exact yn ⟨rfl,o2,hs ++ [c],by simp [hhl],ho2,rfl⟩
      ·refine sli (vs:=[c]) (fun v1=>?_) (h1:=one_cons hc1 one_nil)
       refine nl ?_
       refine te (fun _ _=>trivial) ?_
       refine t1 0 ?_
       refine ld ?_
       refine nl ?_
       refine te (fun _ _=>trivial) ?_
       refine t1 5 ?_
       refine ap (xs:=hs) (news:=[c]) (fun o2=>?_) (h1:=one_cons hc1 one_nil)
       refine TO.one (v:=o2) (xs:=hs ++ [c]) fun ho2=>?_
       refine nl ?_
       refine te (fun _ _=>trivial) ?_
       refine t1 6 ?_
       refine sr ?_
       refine nl ?_
       refine te (fun _ _=>trivial) ?_
       refine t0 ?_
       refine TX.im (snoc_own (g:=y8) (e:=TyB) (hs:=hs) (ls:=chL m S j) (v:=c) (l:=chP m S j) (by rw [hhl,chL_len]) fitA) ?_
       rw [← chL_succ]
       repeat' first|refine xb ?_
       exact yn ⟨rfl,o2,hs ++ [c],by simp [hhl],ho2,rfl⟩
  ·rintro v B ⟨j,o,hs,g1,g2,g3,g4,rfl⟩
   refine ⟨.ready,none,_,rfl,by decide,rfl,j,o,hs,g1,?_,g3,g4,rfl⟩
   rcases g2 with rfl | g2
   ·omega
   ·have:=Nat.lt_of_mul_lt_mul_right (Nat.lt_of_lt_of_le g2 hmn)
    omega
 ·rintro l rec Dm pend B' ⟨rfl,j,o,hs,g1,g2,g3,g4,rfl⟩
  show TX env _ _ _ _ _ _
  repeat' first|refine sq ?_|refine xc ?_|refine bk ?_|refine xb ?_
  refine TC.loop (ι:=CuG) (fun _=>[]) (fun g=>[pt p [g.o] TBB,own TyV g.o g.hs,relg y8 g.hs (chL m S g.j)]) (fun g=>(g.j ≤ k∧m.length ≤ g.j * S)∧g.hs.length = g.j∧g.o.oneCell' = true) (fun g=>k - g.j) ⟨j,o,hs⟩ [0,1,2,6,7,8,9] ⟨⟨g2,g1⟩,g3,g4⟩ ?_ (hf:=by dsimp only;exact fitA)
  clear g1 g2 g3 g4 o hs j
  rintro ⟨j,o,hs⟩ ⟨⟨g1,g0⟩,hhl,ho⟩
  dsimp only at g1 g0 hhl ho ⊢
  have hpz:=chP_nil g0
  have g9:m.length ≤ (j + 1) * S:=Nat.le_trans g0 (Nat.mul_le_mul_right _ (by omega))
  by_cases hi:j < k
  ·repeat' first|refine ln (xs:=hs) ?_|(refine wo ?_;first|(refine ao ?_;first|refine oa ?_)|refine oa ?_|refine ld ?_)|(refine gc ?_;first|(refine ci (fun hB=>?_) (fun hB=>?_) <;> try (exfalso;omega)))|refine sq ?_|refine rg ?_|refine xc ?_|refine nl ?_|refine sk ?_|refine bk ?_
   refine rs (fun w=>w.heap[p8]? = some (.cells [I k,I S].toArray TSz (0,0))) ?_ (fun w hw=>pt_at memA hw)
   refine tk 1 (v:=.agg #[I k,I S]) (hi:=rfl) (fun w h=>by exact R_loadA (E:=env) (cs:=[I k,I S]) (vs:=[I k,I S]) rfl rfl rfl rfl h rfl rfl) ?_
   refine t2 0 2 ?_ ?_
   ·refine ld ?_
    refine nl ?_
    refine te (fun w hw=>pt_at memA hw) ?_
    refine t1 2 ?_
    refine ca (padded_tr nS [] k S (by simp) (by omega)) ?_
    rintro c _ ⟨hc1,rfl⟩
    refine nl ?_
    refine te (fun w hw=>pt_at memA hw) ?_
    refine t1 3 ?_
    refine sli (vs:=[c]) (fun v1=>?_) (h1:=one_cons hc1 one_nil)
    refine nl ?_
    refine te (fun w hw=>pt_at memA hw) ?_
    refine t1 4 ?_
    refine ap (xs:=hs) (news:=[c]) (fun o2=>?_) (h1:=one_cons hc1 one_nil)
    refine TO.one (v:=o2) (xs:=hs ++ [c]) fun ho2=>?_
    refine nl ?_
    refine te (fun w hw=>pt_at memA hw) ?_
    refine t1 5 ?_
    refine sr ?_
    refine nl ?_
    refine te (fun w hw=>pt_at memA hw) ?_
    refine t0 ?_
    refine TX.im (snoc_own (g:=y8) (e:=TyB) (hs:=hs) (ls:=chL m S j) (v:=c) (l:=chP m S j) (by rw [hhl,chL_len]) (by rw [hpz];exact fitA)) ?_
    rw [← chL_succ]
    repeat' first|refine xb ?_
    exact lp ⟨j + 1,o2,hs ++ [c]⟩ ⟨⟨by dsimp only;omega,g9⟩,by dsimp only;simp [hhl],ho2⟩ (by dsimp only;omega) (hs:=by (repeat (refine Sub.cons rfl (by first | rfl | go_num) ?_));exact Sub.nil) (hf:=by dsimp only;exact fitA)
   ·refine ca (padded_tr nS [] k S (by simp) (by omega)) ?_
    rintro c _ ⟨hc1,rfl⟩
    refine nl ?_
    refine te (fun w hw=>pt_at memA hw) ?_
    refine t2 0 3 ?_ ?_
    ·refine ld ?_
     refine nl ?_
     refine te (fun w hw=>pt_at memA hw) ?_
     refine t1 3 ?_
     refine sli (vs:=[c]) (fun v1=>?_) (h1:=one_cons hc1 one_nil)
     refine nl ?_
     refine te (fun w hw=>pt_at memA hw) ?_
     refine t1 4 ?_
     refine ap (xs:=hs) (news:=[c]) (fun o2=>?_) (h1:=one_cons hc1 one_nil)
     refine TO.one (v:=o2) (xs:=hs ++ [c]) fun ho2=>?_
     refine nl ?_
     refine te (fun w hw=>pt_at memA hw) ?_
     refine t1 5 ?_
     refine sr ?_
     refine nl ?_
     refine te (fun w hw=>pt_at memA hw) ?_
     refine t0 ?_
     refine TX.im (snoc_own (g:=y8) (e:=TyB) (hs:=hs) (ls:=chL m S j) (v:=c) (l:=chP m S j) (by rw [hhl,chL_len]) (by rw [hpz];exact fitA)) ?_
     rw [← chL_succ]
     repeat' first|refine xb ?_
     exact lp ⟨j + 1,o2,hs ++ [c]⟩ ⟨⟨by dsimp only;omega,g9⟩,by dsimp only;simp [hhl],ho2⟩ (by dsimp only;omega) (hs:=by (repeat (refine Sub.cons rfl (by first | rfl | go_num) ?_));exact Sub.nil) (hf:=by dsimp only;exact fitA)
    ·refine sli (vs:=[c]) (fun v1=>?_) (h1:=one_cons hc1 one_nil)
     refine nl ?_
     refine te (fun w hw=>pt_at memA hw) ?_
     refine t1 0 ?_
     refine ld ?_
     refine nl ?_
     refine te (fun w hw=>pt_at memA hw) ?_
     refine t1 4 ?_
     refine ap (xs:=hs) (news:=[c]) (fun o2=>?_) (h1:=one_cons hc1 one_nil)
     refine TO.one (v:=o2) (xs:=hs ++ [c]) fun ho2=>?_
     refine nl ?_
     refine te (fun w hw=>pt_at memA hw) ?_
     refine t1 5 ?_
     refine sr ?_
     refine nl ?_
     refine te (fun w hw=>pt_at memA hw) ?_
     refine t0 ?_
     refine TX.im (snoc_own (g:=y8) (e:=TyB) (hs:=hs) (ls:=chL m S j) (v:=c) (l:=chP m S j) (by rw [hhl,chL_len]) (by rw [hpz];exact fitA)) ?_
     rw [← chL_succ]
     repeat' first|refine xb ?_
     exact lp ⟨j + 1,o2,hs ++ [c]⟩ ⟨⟨by dsimp only;omega,g9⟩,by dsimp only;simp [hhl],ho2⟩ (by dsimp only;omega) (hs:=by (repeat (refine Sub.cons rfl (by first | rfl | go_num) ?_));exact Sub.nil) (hf:=by dsimp only;exact fitA)
  ·obtain rfl:j = k:=by omega
   repeat' first|refine ln (xs:=hs) ?_|(refine wo ?_;first|(refine ao ?_;first|refine oa ?_)|refine oa ?_|refine ld ?_)|(refine gc ?_;first|(refine ci (fun hB=>?_) (fun hB=>?_) <;> try (exfalso;omega)))|refine sq ?_|refine rg ?_|refine xc ?_|refine nl ?_|refine xe ?_|refine rt ?_
   exact m2 ⟨o,hs,rfl,ho,hhl,rfl⟩
end Go.Art
namespace Go.Art
open Go Go.Proofs Go.RowKit
attribute [local irreducible] Fit pt own ro vw mpc lpt vels rels mow lrc dfr
attribute [local irreducible] lmp lme mit velg relg
def MfS.piece (m:MfS) (d:List Int) (n:Int):List Int:=(d.drop (n * m.full).toNat).take (minI m.full (m.size - n * m.full)).toNat
def MfS.syms (m:MfS) (d:List Int) (n:Int):List (List Int):=chL (m.piece d n) m.sym.toNat m.k.toNat
theorem Symbols_tr (m:MfS) (tv dv:Value) (d:List Int) (n:Int) (hv:tv.oneCell' = true) (hok:m.ok) (hd:(d.length:Int) = m.size) (hn:0 ≤ n∧n < m.blocks) :
  Tr Tryz.prog 23 [.agg #[I m.size,I m.sym,I m.k,I m.seed,tv],dv,I n] [vw tv (Is m.t),vw dv (By d)] []
   fun v D=>∃ o hs,v = tup2 o (I 0)∧o.oneCell' = true∧hs.length = m.k.toNat∧D = [own TyV o hs,relg y8 hs (m.syms d n)]:=by
 have hC:=MCheck_tr m tv hv
 have hP:=Part_tr m tv n hv
 have hdl:=By_len d
 have h0:mfE m = 0:=if_pos hok
 have hpart:m.part n = ((n * m.full,minI m.full (m.size - n * m.full)),0):=by rw [MfS.part,if_pos hok,if_pos (by omega)]
 rw [hpart] at hP
 rw [h0] at hC
 have hf:=MfS.full_in hok
 have hbi:=MfS.blocks_in hok
 have hfe:m.full = m.k * m.sym:=rfl
 unfold MfS.syms MfS.piece
 have hF:0 ≤ n * m.full∧n * m.full < m.size:=by
  constructor
  ·exact Int.mul_nonneg hn.1 (by omega)
  ·have h2:0 < m.size:=by
    rcases Int.lt_or_le 0 m.size with h | h
    ·exact h
    ·exfalso
     have:m.size = 0:=by have:=hok.1;omega
     have hb:m.blocks = 0:=by
      rw [MfS.blocks,if_pos hok,this]
      exact Int.ediv_eq_zero_of_lt (by omega) (by omega)
     omega
   have h3:n * m.full ≤ (m.blocks - 1) * m.full:=Int.mul_le_mul_of_nonneg_right (by omega) (by omega)
   have:=(hbi.2.2 h2).1
   omega
 generalize n * m.full = F at *
 have hmz:=minI_le m.full (m.size - F)
 generalize minI m.full (m.size - F) = Z at *
 obtain ⟨g1,g2,g3,_⟩:=hok
 clear hpart hbi h0
 obtain ⟨size,sym,k,seed,t⟩:=m
 dsimp only at *
 obtain ⟨K,rfl⟩ : ∃ K:Nat,k = K:=⟨k.toNat,by omega⟩
 obtain ⟨S,rfl⟩ : ∃ S:Nat,sym = S:=⟨sym.toNat,by omega⟩
 rw [Int.toNat_natCast,Int.toNat_natCast]
 have hpc:((By d).take (F + Z).toNat).drop F.toNat = By ((d.drop F.toNat).take Z.toNat):=by
  unfold By;rw [← List.map_take,← List.map_drop,List.drop_take];congr 2;omega
 refine Tr.enter env _ Tryz.func23 (by kernel_rfl) rfl Tryz.ntmps23 rfl (by repeat (first | exact has00 | refine has01 ?_)) fun w0=>?_
 repeat' first|(refine gca ?_;first|(refine ca hC ?_;rintro _ _ ⟨rfl,rfl⟩)|(refine ca hP ?_;rintro _ _ ⟨rfl,rfl⟩))|refine bx fun p=>?_|refine lda ?_|refine ln (xs:=By d) ?_|(refine wo ?_;first|(refine ao ?_;first|refine oa ?_)|refine oa ?_|refine ld ?_|refine gy ?_)|(refine gc ?_;first|refine cf ?_|(refine cn (fun hB=>?_) (fun hB=>?_) <;> try (exfalso;omega)))|refine sq ?_|refine rg ?_|refine xc ?_|refine nl ?_|refine sk ?_
 refine rs (fun w=>w.heap[p]? = some (.cells [I size,I S,I K,I seed,tv].toArray TMf (0,0))) ?_ (fun w hw=>pt_at memA hw)
 refine tka 0 ?_
 refine tka 1 ?_
 refine tka 2 ?_
 refine tka 3 ?_
 refine tk 4 (v:=I (F + Z)) (hi:=rfl) (fun w h=>by exact R_add64 rfl rfl (by omega)) ?_
 refine tka 6 ?_
 refine tkl 7 (cs:=[I size,I S,I K,I seed,tv]) (fun w h=>h) ?_
 refine tka 8 ?_
 refine tkl 9 (cs:=[I size,I S,I K,I seed,tv]) (fun w h=>h) ?_
 refine t1 5 ?_
 refine sc (xs:=By d) ?_
 refine nl ?_
 refine te (fun w hw=>pt_at memA hw) ?_
 refine t1 10 ?_
 refine ca (Cut_tr _ ((d.drop F.toNat).take Z.toNat) K S (by omega) (by omega) (by rw [List.length_take];omega)) ?_ (hp:=has1 (by rw [← hpc];exact has_sub hasA (by omega) (by omega)) has0)
 rintro _ _ ⟨o,hs,rfl,ho,hhl,rfl⟩
 refine nl ?_
 refine te (fun w hw=>pt_at memA hw) ?_
 refine tka 11 ?_
 refine tka 12 ?_
 refine tka 13 ?_
 refine tka 14 ?_
 refine t0 ?_
 repeat' first|refine xc ?_|refine rt ?_
 exact r2 ⟨o,hs,rfl,ho,hhl,rfl⟩
end Go.Art
namespace Go.Art
open Go Go.RowKit
theorem wpIn_scope {F:Fence} {n:Nat} {P:Program} {Q:Exit→Act→World→Prop} {a:Act} {w:World} {c:Code} (h:c.wpIn F n P (Exit.noGoto Q) a w):(Code.scope c).wpIn F n P Q a w:=by
 intro b k cs hro hb hr
 have h0:(lone (b.atR a (.code (.scope c) :: k)) cs w).fenced P F:=fenced_calm hb hr rfl
 have s1:step P (lone (b.atR a (.code (.scope c) :: k)) cs w) = .next (lone (b.atR a (.code c :: .inScope c :: k)) cs w):=step_lone_go (by simp [stepG,stepG.exec,Frame.atR])
 have s2:∀ (a:Act) (w:World),step P (lone (b.atR a (.inScope c :: k)) cs w) = .next (lone (b.atR a k) cs w):=fun a w=>step_lone_go (by simp [stepG,stepG.exec,Frame.atR])
 obtain ⟨e,a₁,w₁,hq,harr⟩:=h b (.inScope c :: k) cs hro hb hr
 have hx:∀ id',exitTo id' (.inScope c :: k) = exitTo id' k:=fun id'=>by simp [exitTo]
 cases e with
 | normal=>exact ⟨.normal,a₁,w₁,hq,.head h0 s1 (StepsIn.trans harr (.one (fenced_calm hb hr rfl) (s2 a₁ w₁)))⟩
 | exit id'=>
  exact ⟨.exit id',a₁,w₁,hq,fun k' hk=>.head h0 s1 (harr.1 k' (by rw [hx];exact hk)),
    fun hr' hk=>let ⟨k₁,h1,h2⟩:=harr.2 hr' (by rw [hx];exact hk);⟨k₁,h1,.head h0 s1 h2⟩⟩
 | goto l=>exact hq.elim
 | ret=>exact ⟨_,a₁,w₁,hq,.of_steps (.one h0 s1) harr⟩
 | panic ch=>exact ⟨_,a₁,w₁,hq,.of_steps (.one h0 s1) harr⟩
 | outgrown=>exact ⟨_,a₁,w₁,hq,.of_steps (.one h0 s1) harr⟩
section
variable {P:Program} {E:Env P} {n:Sh} {X:Cx} {s:List K} {fr:Fr} {A:List Ch} {c:Code} {e:Exit}
theorem scp (h:TC E n ⟨Exit.noGoto (den P n.r X.Q s),X.w0,X.A0⟩ [] c fr A):TC E n X s (.scope c) fr A:=
 ⟨fun w hw=>⟨fun a ha=>wpIn_scope ((h.run w ⟨hw.sat,hw.mv⟩).run a ha)⟩⟩
theorem scx (he:∀ Q a w,Exit.noGoto Q e a w = Q e a w) (h:TX E n X s e fr A):TX E n ⟨Exit.noGoto (den P n.r X.Q s),X.w0,X.A0⟩ [] e fr A:=
 ⟨fun w hw=>⟨fun a ha=>(he _ a w).mpr ((h.run w ⟨hw.sat,hw.mv⟩).run a ha)⟩⟩
theorem lbl {l:Nat} (h:TX E n X s .normal fr A):TC E n X s (.label l) fr A:=⟨fun w hw=>⟨fun a ha=>wpIn_label ((h.run w hw).run a ha)⟩⟩
end
end Go.Art
namespace Go.Art
open Go Go.Proofs Go.RowKit
def turnA (n b i:Nat):Nat:=(b + i) % n
def turnG (d:List Bool) (b:Nat):Nat→Nat→Option Nat
 | 0,_=>none
 | r + 1,i=>if d.getD (turnA d.length b i) false then turnG d b r (i + 1) else some (turnA d.length b i)
def turnB (n:Nat) (last:Int):Nat:=if last < 0∨(n:Int) ≤ last then n else (last + 1).toNat
def turnO (d:List Bool) (last:Int):Option Nat:=turnG d (turnB d.length last) d.length 0
def turnV:Option Nat→Value
 | none=>tup2 (I 0) (.bool false)
 | some a=>tup2 (I a) (.bool true)
attribute [local irreducible] Fit pt own ro vw mpc lpt vels rels mow lrc dfr
attribute [local irreducible] lmp lme mit velg relg
theorem Turn_tr (v:Value) (d:List Bool) (last:Int) (hl : -9223372036854775808 ≤ last∧last ≤ 9223372036854775807) (hdl:d.length ≤ 1099511627776):Tr Tryz.prog 62 [v,I last] [vw v (Bo d)] []
  fun w D=>w = turnV (turnO d last)∧D = []:=by
 have hbl:=Bo_len d
 refine Tr.enter env _ Tryz.func62 (by kernel_rfl) rfl Tryz.ntmps62 rfl (by repeat (first | exact has00 | refine has01 ?_)) fun w0=>?_
 repeat' first|(refine wo ?_;first|refine oa ?_)|refine sq ?_|refine rg ?_|refine xc ?_|refine nl ?_
 refine scp ?_
 refine sq ?_
 refine rg ?_
 refine oa ?_
 refine ln (xs:=Bo d) ?_
 rw [hbl]
 refine oa ?_
 refine nl ?_
 refine xc ?_
 refine sq_cutY (ι:=Int) (fun x=>x + 1 = turnB d.length last) (fun x=>[(0,v),(1,I x),(4,I 0),(5,.bool false),(6,I d.length)]) (fun _=>[vw v (Bo d)]) ?_ (fun b' kb=>?_)
 rotate_left
 ·repeat' first|(refine wo ?_;first|(refine ao ?_;first|refine aw ?_|refine oa ?_)|refine oa ?_|refine gy ?_|refine gn ?_|(refine gsi (fun hB=>?_) (fun hB=>?_) <;> try (exfalso;omega)))|(refine gc ?_;first|refine ct ?_|(refine ci (fun hB=>?_) (fun hB=>?_) <;> try (exfalso;omega)))|refine sq ?_|refine rg ?_|refine xc ?_|refine nl ?_|refine sk ?_
  ·exact kb ((d.length:Int) - 1) (by unfold turnB;rw [if_pos (by omega)];omega) _ _ (by (repeat (refine Sub.cons rfl (by first | rfl | go_num) ?_));exact Sub.nil) fitA
  ·exact kb ((d.length:Int) - 1) (by unfold turnB;rw [if_pos (by omega)];omega) _ _ (by (repeat (refine Sub.cons rfl (by first | rfl | go_num) ?_));exact Sub.nil) fitA
  ·exact kb last (by unfold turnB;rw [if_neg (by omega)];omega) _ _ (by (repeat (refine Sub.cons rfl (by first | rfl | go_num) ?_));exact Sub.nil) fitA
 intro x hx
 have hbb:turnB d.length last ≤ d.length:=by unfold turnB;split <;> omega
 unfold turnO
 generalize turnB d.length last = bb at *
 repeat' first|refine lbl ?_|(refine wo ?_;first|refine oa ?_)|refine sq ?_|refine rg ?_|refine xc ?_|refine nl ?_|refine bk ?_
 refine TC.loop (ι:=Nat) (fun i=>[(20,I i),(5,.bool false)]) (fun _=>[]) (fun i=>i ≤ d.length∧turnG d bb d.length 0 = turnG d bb (d.length - i) i) (fun i=>d.length - i) 0 [0,1,6,19] ⟨Nat.zero_le _,rfl⟩ ?_ (hf:=by exact fitA)
 rintro i ⟨hi,hg⟩
 rw [hg]
 by_cases hlt:i < d.length
 ·have hm:0 ≤ (x + 1 + (i:Int)) % (d.length:Int)∧(x + 1 + (i:Int)) % (d.length:Int) < (d.length:Int):=⟨Int.emod_nonneg _ (by omega),Int.emod_lt_of_pos _ (by omega)⟩
  have he:(x + 1 + (i:Int)) % (d.length:Int) = ((turnA d.length bb i:Nat):Int):=by unfold turnA;rw [hx,← Int.natCast_add,← Int.natCast_emod]
  have hs:turnG d bb (d.length - i) i = if d.getD (turnA d.length bb i) false then turnG d bb (d.length - (i + 1)) (i + 1) else some (turnA d.length bb i):=by
   rw [show d.length - i = (d.length - (i + 1)) + 1 by omega,turnG]
  have hal:turnA d.length bb i < d.length:=by omega
  generalize turnA d.length bb i = a at *
  cases hd:d.getD a false
  ·rw [hs,if_neg (by rw [hd];decide)]
   repeat' first|(refine lbo (l:=d) ?_;rw [he,Int.toNat_natCast,hd])|(refine wo ?_;first|(refine ao ?_;first|refine aw ?_|refine oa ?_|refine amod ?_)|refine oa ?_|refine ixm ?_)|(refine gc ?_;first|refine ct ?_|refine cf ?_|(refine ci (fun hB=>?_) (fun hB=>?_) <;> try (exfalso;omega)))|refine sq ?_|refine rg ?_|refine xc ?_|refine nl ?_|refine sk ?_|refine bk ?_|refine xe ?_|refine rt ?_
   refine scx (fun _ _ _=>rfl) ?_
   exact r2 ⟨rfl,rfl⟩
  ·rw [hs,if_pos hd]
   repeat' first|(refine lbo (l:=d) ?_;rw [he,Int.toNat_natCast,hd])|(refine wo ?_;first|(refine ao ?_;first|refine aw ?_|refine oa ?_|refine amod ?_)|refine oa ?_|refine ixm ?_)|(refine gc ?_;first|refine cf ?_|(refine ci (fun hB=>?_) (fun hB=>?_) <;> try (exfalso;omega)))|refine sq ?_|refine rg ?_|refine xc ?_|refine nl ?_|refine sk ?_|refine bk ?_|refine xb ?_
   exact lp (i + 1) ⟨by omega,rfl⟩ (by omega) (hs:=by (repeat (refine Sub.cons rfl (by first | rfl | go_num) ?_));exact Sub.nil) (hf:=by exact fitA)
 ·obtain rfl:i = d.length:=by omega
  rw [show d.length - d.length = 0 by omega]
  repeat' first|(refine wo ?_;first|(refine ao ?_;first|refine oa ?_)|refine oa ?_)|(refine gc ?_;first|refine ct ?_|(refine ci (fun hB=>?_) (fun hB=>?_) <;> try (exfalso;omega)))|refine sq ?_|refine rg ?_|refine xc ?_|refine nl ?_|refine xe ?_|refine rt ?_
  refine scx (fun _ _ _=>rfl) ?_
  exact r2 ⟨rfl,rfl⟩
end Go.Art
namespace Go.Art
open Go Go.Proofs Go.RowKit Go.Conc
def WTo (F:Fence) (m:Nat) (P:Program) (ops:Array Oper) (Q:Exit→Act→World→Prop) (l:List Nat) (a:Act) (w:World):Prop:=
 ∀ (b:Frame) (k:List Item) (cs:List Frame),b.roundOf = F.round→F.fn b.fn→F.room (cs.length + 1 + m) →
  ∃ e a' w',Q e a' w'∧ArrivesIn (Machine.fenced P F) P (lone (b.atR a (.inRegion ops l :: k)) cs w) b k cs e a' w'
section
variable {F:Fence} {m:Nat} {P:Program} {ops:Array Oper} {Q:Exit→Act→World→Prop} {a:Act} {w w':World} {i:Nat} {rest l:List Nat} {o:Oper} {v u z:Value} {id:Nat} {c cap s r:Nat} {buf:Array Value}
theorem WTo.region (h:WTo F m P ops Q (List.range ops.size) a w):(Code.region id ops false).wpIn F m P Q a w:=
 fun b k cs hro hb hr=>let ⟨e,a',w',q,r⟩:=h b k cs hro hb hr;⟨e,a',w',q,.of_steps (.one (fenced_calm hb hr rfl) stepR_region) r⟩
theorem WTo.nil (h:Q .normal a w):WTo F m P ops Q [] a w:=fun b k cs _ hb hr=>⟨.normal,a,w,h,.one (fenced_calm hb hr rfl) stepR_region_end⟩
theorem WTo.val (hf:F.round = none) (ho:ops[i]? = some o) (hw:Region.wanted o (yielded ops a.tmps) = true) (hab:o.about P w a.eval = none) (hr':(o.semAt F.round a.eval).run P w = .ok (.value v) w')
  (h:WTo F m P ops Q rest (a.put o.dst v) w'):WTo F m P ops Q (i :: rest) a w:=by
 intro b k cs hro hb hr
 have h0:(lone (b.atR a (.inRegion ops (i :: rest) :: k)) cs w).fenced P F:=fenced_oper hb hr ho (fun f hf=>by rw [hab] at hf;cases hf)
 have hg:=stepGR_op (P:=P) (b:=b) (k:=k) (cs:=cs) (w:=w) (rest:=rest) ho hw
 rw [hro] at hg
 have hfin:∀ v,(b.atR a (.inRegion ops (i :: rest) :: k)).finish v = b.atR (a.put o.dst v) (.inRegion ops rest :: k):=by
  intro v;rw [Frame.finish_atR,ho];rfl
 obtain ⟨e,a',w'',hq,harr⟩:=h b k cs hro hb hr
 refine ⟨e,a',w'',hq,.of_steps (.one h0 (step_lone_go ?_)) harr⟩
 rw [hg,← hfin];simp [stepG.apply,hr']
theorem WTo.comm {cases_:Array CommCase} {bl:Bool} {sh:CommShape} (ho:ops[i]? = some o) (hw:Region.wanted o (yielded ops a.tmps) = true) (hab:o.about P w a.eval = none) (hr':(o.semAt F.round a.eval).run P w = .ok (.comm cases_ bl sh) w)
  (hst:∀ (fr:Frame) (cs:List Frame) (es:Array Event),stepG P true (G fr cs) w = .comm (G fr cs) cases_ bl sh w es→step P (solo (G fr cs) w) = .next (solo (G (fr.finish v) cs) w'))
  (h:WTo F m P ops Q rest (a.put o.dst v) w'):WTo F m P ops Q (i :: rest) a w:=by
 intro b k cs hro hb hr
 have h0:(lone (b.atR a (.inRegion ops (i :: rest) :: k)) cs w).fenced P F:=fenced_oper hb hr ho (fun f hf=>by rw [hab] at hf;cases hf)
 have hg:=stepGR_op (P:=P) (b:=b) (k:=k) (cs:=cs) (w:=w) (rest:=rest) ho hw
 rw [hro] at hg
 have hfin:∀ v,(b.atR a (.inRegion ops (i :: rest) :: k)).finish v = b.atR (a.put o.dst v) (.inRegion ops rest :: k):=by
  intro v;rw [Frame.finish_atR,ho];rfl
 obtain ⟨e,a',w'',hq,harr⟩:=h b k cs hro hb hr
 have h1:∃ es,stepG P true (G (b.atR a (.inRegion ops (i :: rest) :: k)) cs) w = .comm (G (b.atR a (.inRegion ops (i :: rest) :: k)) cs) cases_ bl sh w es:=by
  show ∃ es,stepG P true { frame:=b.atR a (.inRegion ops (i :: rest) :: k),callers:=cs,status:=.running,dying:=none } w = .comm { frame:=b.atR a (.inRegion ops (i :: rest) :: k),callers:=cs,status:=.running,dying:=none } cases_ bl sh w es
  rw [hg]
  simp only [stepG.apply,Sem.runT_eq,hr']
  exact ⟨_,rfl⟩
 obtain ⟨es,h1⟩:=h1
 have h2:=hst _ _ _ h1
 rw [hfin] at h2
 exact ⟨e,a',w'',hq,.of_steps (.one h0 h2) harr⟩
end
theorem upd_setChan (w:World) (c cap:Nat) (buf:Array Value) (cl:Bool) (s r:Nat) (tm:Bool):Upd w (w.setChan c cap buf cl s r tm) [c]:=
 ⟨rfl,rfl,rfl,by simp [World.setChan],fun k _ hk=>by
  simp only [World.setChan]
  rw [Array.getElem?_setIfInBounds_ne (by simp at hk;omega)]⟩
def chp (c cap:Nat) (buf:List Value):Ch where
 wr:=fun x=>x = c
 rd:=fun _=>False
 bd:=fun _=>False
 P:=fun w=>∃ s r,w.heap[c]? = some (.chan cap buf.toArray false s r false)
 loc:=fun ⟨s,r,h⟩ hb=>⟨s,r,(hb c (.inl rfl)).trans h⟩
 lt:=fun ⟨s,r,h⟩ hb=>by rcases hb with rfl | hb | hb;exact lt_of_heap h;exact hb.elim;exact hb.elim
instance (c cap:Nat) (buf:List Value):NoB (chp c cap buf):=⟨fun _ h=>h⟩
abbrev chv (c:Nat):Value:=.chan (some c)
structure TM {P:Program} (E:Env P) (n:Sh) (X:Cx) (s:List K) (ops:Array Oper) (l:List Nat) (fr:Fr) (A:List Ch):Prop where
 run:∀ w,St X A w→∀ a,Holds n a fr→WTo (FF n.r) 0 P ops (den P n.r X.Q s) l a w
section
variable {P:Program} {E:Env P} {n:Sh} {X:Cx} {s:List K} {fr:Fr} {A A':List Ch} {ops:Array Oper} {rest is:List Nat} {d i:Nat} {o:Op} {ty t el:TypeId} {pos:String} {after:Array Edge} {v u z:Value} {x y:Operand} {c cap sz by_:Nat} {buf:List Value}
theorem tmr {id:Nat} {l:List Oper} (k:TM E n X s l.toArray is fr A) (hl:List.range l.length = is:=by rfl):TC E n X s (.region id l.toArray false) fr A:=
 ⟨fun w hw=>⟨fun a ha=>WTo.region (by subst hl;simpa using k.run w hw a ha)⟩⟩
theorem tm0 (k:TX E n X s .normal fr A):TM E n X s ops [] fr A:=⟨fun w hw a ha=>WTo.nil ((k.run w hw).run a ha)⟩
theorem tmv (hv:∀ w,Sat A w→OpV P n fr o ty w v w) (k:TM E n X s ops rest ((d,v) :: fr) A) (hi:ops[i]? = some ⟨some d,o,ty,pos,after,none⟩:=by rfl) (hrd:n.r = none:=by rfl) (hd:Nat.blt d n.n = true:=by rfl)
  (hab:∀ w ρ,(⟨some d,o,ty,pos,after,none⟩ : Oper).about P w ρ = none:=by exact fun _ _=>rfl):TM E n X s ops (i :: rest) fr A:=
 ⟨fun w hw a ha=>WTo.val (w':=w) (v:=v) (by simp [FF,hrd]) hi rfl (hab _ _) (by simpa [FF,hrd,Oper.semAt_none] using (hv w hw.sat).run a ha _ _ _ _) (k.run w hw _ (ha.put hd v))⟩
theorem tma (k:TM E n X s ops rest ((d,v) :: fr) A) (hi:ops[i]? = some ⟨some d,o,ty,pos,after,none⟩:=by rfl) (hv:evOp E fr o = some v:=by rfl) (hrd:n.r = none:=by rfl) (hd:Nat.blt d n.n = true:=by rfl)
  (hab:∀ w ρ,(⟨some d,o,ty,pos,after,none⟩ : Oper).about P w ρ = none:=by exact fun _ _=>rfl):TM E n X s ops (i :: rest) fr A:=tmv (fun _ _=>R_auto hv) k hi hrd hd hab
theorem tml {b j:Nat} {cs:List Value} {T:TypeId} {dt:TypeDesc} (k:TM E n X s ops rest ((d,v) :: fr) A) (hi:ops[i]? = some ⟨some d,.load t x,ty,pos,after,none⟩:=by rfl) (hx:ev fr x = some (.pointer (some ⟨b,j,none⟩)):=by rfl) (hm:pt b cs T ∈ A:=by exact memA)
  (hj:cs[j]? = some v:=by rfl) (ht:lk E.und t = some dt:=by rfl) (hg:aggB dt = false:=by rfl) (hrd:n.r = none:=by rfl) (hd:Nat.blt d n.n = true:=by rfl):TM E n X s ops (i :: rest) fr A:=
 tmv (fun w hw=>R_load ht hg hx (blk_cell (pt_at hm hw) (by simpa using hj))) k hi hrd hd
theorem tms (k:TM E n X s ops rest fr (chp c cap (buf ++ [u]) :: A')) (hi:ops[i]? = some ⟨none,.send x y,ty,pos,after,none⟩:=by rfl) (hx:ev fr x = some (chv c):=by rfl) (hy:ev fr y = some u:=by rfl) (hm:Tk (chp c cap buf) A A':=by exact tkA) (hroom:buf.length < cap:=by first | omega | decide) (hrd:n.r = none:=by rfl) :
  TM E n X s ops (i :: rest) fr A:=⟨fun w hw a ha=>by
 have h1:=hw.im hm
 obtain ⟨s0,r0,hc⟩ : ∃ s r,w.heap[c]? = some (.chan cap buf.toArray false s r false):=h1.mem (List.Mem.head _)
 have hlt:=lt_of_heap hc
 refine WTo.comm (v:=undef) (w':=w.setChan c cap (buf.toArray.push u) false (s0 + 1) r0 false) hi rfl rfl ?_ (fun fr cs es h=>step_lone_send_room (z':=.tuple #[]) h hc (by simpa using hroom)) ?_
 ·simp [FF,hrd,Oper.semAt_none,execOp,ha.ev hx,ha.ev hy,scase]
 ·refine k.run _ (h1.set (upd_setChan w _ _ _ _ _ _ _) (fun b hb=>.inl (by show b = c;simpa using hb)) ⟨s0 + 1,r0,by rw [heap_setChan _ _ _ _ _ _ _ _ hlt];simp⟩ (fun b hb=>by rcases hb with h | h | h;exact .inl h;exact h.elim;exact h.elim) (fun _ h=>h)) _ ha⟩
theorem tmsr (k:TM E n X s ops rest ((d,.tuple #[I 0,.bool true,u]) :: fr) (chp c cap buf :: A')) (hi:ops[i]? = some ⟨some d,.select #[⟨x,none,el⟩] false,ty,pos,after,none⟩:=by rfl) (hx:ev fr x = some (chv c):=by rfl) (hm:Tk (chp c cap (u :: buf)) A A':=by exact tkA)
  (ht:lk E.inf el = some (z,sz,by_):=by rfl) (hrd:n.r = none:=by rfl) (hd:Nat.blt d n.n = true:=by rfl):TM E n X s ops (i :: rest) fr A:=⟨fun w hw a ha=>by
 have h1:=hw.im hm
 obtain ⟨s0,r0,hc⟩ : ∃ s r,w.heap[c]? = some (.chan cap (u :: buf).toArray false s r false):=h1.mem (List.Mem.head _)
 have hlt:=lt_of_heap hc
 obtain ⟨inf,hi',hz,_,_⟩:=E.info ht
 refine WTo.comm (v:=.tuple #[I 0,.bool true,u]) (w':=w.setChan c cap ((u :: buf).toArray.extract 1 (u :: buf).toArray.size) false s0 (r0 + 1) false) hi rfl rfl ?_ (fun fr cs es h=>by simpa [goInt] using step_lone_select_recv_buf (z:=z) h hc (by simp)) ?_
 ·simp [FF,hrd,Oper.semAt_none,execOp,ha.ev hx,rcase,zeroValue,typeInfo,hi',hz]
 ·refine k.run _ (h1.set (upd_setChan w _ _ _ _ _ _ _) (fun b hb=>.inl (by show b = c;simpa using hb)) ⟨s0,r0 + 1,by rw [heap_setChan _ _ _ _ _ _ _ _ hlt];simp⟩ (fun b hb=>by rcases hb with h | h | h;exact .inl h;exact h.elim;exact h.elim) (fun _ h=>h)) _ (ha.put hd _)⟩
theorem tmsd (k:TM E n X s ops rest ((d,.tuple #[I (-1),.bool false,z]) :: fr) A) (hi:ops[i]? = some ⟨some d,.select #[⟨x,none,el⟩] false,ty,pos,after,none⟩:=by rfl) (hx:ev fr x = some (chv c):=by rfl) (hm:Tk (chp c cap []) A A':=by exact tkA)
  (ht:lk E.inf el = some (z,sz,by_):=by rfl) (hrd:n.r = none:=by rfl) (hd:Nat.blt d n.n = true:=by rfl):TM E n X s ops (i :: rest) fr A:=⟨fun w hw a ha=>by
 have h1:=hw.im hm
 obtain ⟨s0,r0,hc⟩ : ∃ s r,w.heap[c]? = some (.chan cap #[] false s r false):=h1.mem (List.Mem.head _)
 obtain ⟨inf,hi',hz,_,_⟩:=E.info ht
 refine WTo.comm (v:=.tuple #[I (-1),.bool false,z]) (w':=w) hi rfl rfl ?_ (fun fr cs es h=>by simpa [goInt] using step_lone_select_default (z:=z) h hc) (k.run w hw _ (ha.put hd _))
 simp [FF,hrd,Oper.semAt_none,execOp,ha.ev hx,rcase,zeroValue,typeInfo,hi',hz]⟩
theorem mkc {opsO:Array Oper} {restO:List Oper} {k1:IntKind} {m:Int} {kd:ChanDir} {bt:Nat} (k:∀ c,TO E n X s opsO restO ((d,chv c) :: fr) (chp c m.toNat [] :: A)) (hx:ev fr x = some (.int k1 m):=by rfl) (ht:lk E.und t = some (.chan kd el):=by rfl) (he:lk E.inf el = some (z,sz,bt):=by rfl)
  (h0:0 ≤ m∧m ≤ 1000000∧bt * m ≤ 1000000:=by decide) (hd:Nat.blt d n.n = true:=by rfl):TO E n X s opsO (⟨some d,.makeChan t x,ty,pos,after,none⟩ :: restO) fr A:=⟨fun w hw=>by
 refine SO_v hd (w':=w.alloc (.chan m.toNat #[] false 0 0 false)) (v:=chv w.heap.size) ⟨fun a ha _ _ _ _=>?_⟩ ((k _).run _ (hw.new (Upd.alloc w _) ⟨0,0,by simpa using heap_alloc_new w _⟩ (by rintro y (h | h | h);(have:y = w.heap.size:=h);omega;exact h.elim;exact h.elim) (by simp [chp])))
 obtain ⟨inf,hi,_,_,hb⟩:=E.info he
 have hmx:¬ (m < 0∨9223372036854775807 < m∨281474976710544 < (bt:Int) * m):=by omega
 simp only [execOp,ha.ev hx]
 simp [Instr.makeChan,asInt,asIntOf,run_underlying (P:=P) (E.un ht),typeInfo,hi,hb,newObj,Sem.run]
 exact fun h=>absurd h hmx⟩
end
end Go.Art
namespace Go.Art
open Go Go.Proofs Go.RowKit
def pc:List (Value × Value)→List Value
 | []=>[]
 | p :: r=>p.1 :: p.2 :: pc r
theorem pc_len (L:List (Value × Value)):(pc L).length = 2 * L.length:=by induction L with | nil=>rfl | cons p r ih=>simp [pc,ih];omega
theorem pc_app (L M:List (Value × Value)):pc (L ++ M) = pc L ++ pc M:=by induction L with | nil=>rfl | cons p r ih=>simp [pc,ih]
theorem pc_get0:∀ (L:List (Value × Value)) (i:Nat) (p:Value × Value),L[i]? = some p→(pc L)[2 * i]? = some p.1
 | [],i,p,h=>by simp at h
 | q :: r,0,p,h=>by simp at h;subst h;rfl
 | q :: r,i + 1,p,h=>by
  have:=pc_get0 r i p (by simpa using h)
  rw [show 2 * (i + 1) = 2 * i + 1 + 1 by omega];simpa [pc] using this
theorem pc_get1:∀ (L:List (Value × Value)) (i:Nat) (p:Value × Value),L[i]? = some p→(pc L)[2 * i + 1]? = some p.2
 | [],i,p,h=>by simp at h
 | q :: r,0,p,h=>by simp at h;subst h;rfl
 | q :: r,i + 1,p,h=>by
  have:=pc_get1 r i p (by simpa using h)
  rw [show 2 * (i + 1) + 1 = 2 * i + 1 + 1 + 1 by omega];simpa [pc] using this
theorem pc_set1:∀ (L:List (Value × Value)) (i:Nat) (p:Value × Value) (u:Value),L[i]? = some p→(pc L).set (2 * i + 1) u = pc (L.set i (p.1,u))
 | [],i,p,u,h=>by simp at h
 | q :: r,0,p,u,h=>by simp at h;subst h;rfl
 | q :: r,i + 1,p,u,h=>by
  have:=pc_set1 r i p u (by simpa using h)
  rw [show 2 * (i + 1) + 1 = 2 * i + 1 + 1 + 1 by omega];simp [pc,this]
def OwnW (w:World) (e:TypeId) (v:Value) (L:List (Value × Value)):Prop:=
 (v = .slice none 0 0∧L = []) ∨
 ∃ b cap cur,v = .slice (some ⟨b,0,none⟩) L.length cap∧w.heap[b]? = some (.cells cur e (0,0))∧L.length ≤ cap∧cap ≤ maxLen∧cur.size = cap * 2∧cur.toList.take (2 * L.length) = pc L
theorem OwnW.blt {w:World} {e:TypeId} {v:Value} {L:List (Value × Value)} (h:OwnW w e v L) {b:Nat} (hb:v.ownBlock = some b):b < w.heap.size:=by
 rcases h with ⟨rfl,rfl⟩ | ⟨b',cap,cur,rfl,h2,_⟩
 ·cases hb
 ·cases hb;exact lt_of_heap h2
theorem OwnW.keep {w w':World} {e:TypeId} {v:Value} {L:List (Value × Value)} (h:OwnW w e v L) (hb:∀ b,v.ownBlock = some b→w'.heap[b]? = w.heap[b]?):OwnW w' e v L:=by
 rcases h with h | ⟨b,cap,cur,rfl,h2,h3⟩
 ·exact .inl h
 ·exact .inr ⟨b,cap,cur,rfl,(hb b rfl).trans h2,h3⟩
def prs (e:TypeId) (v:Value) (L:List (Value × Value)):Ch where
 wr:=fun x=>v.ownBlock = some x
 rd:=fun _=>False
 bd:=fun _=>False
 P:=fun w=>OwnW w e v L
 loc:=fun h hb=>h.keep fun b h=>hb b (.inl h)
 lt:=fun h hb=>by rcases hb with hb | hb | hb;exact h.blt hb;exact hb.elim;exact hb.elim
instance (e:TypeId) (v:Value) (L:List (Value × Value)):NoB (prs e v L):=⟨fun _ h=>h⟩
theorem prs_nil (e:TypeId) (A:List Ch):Im A (prs e (.slice none 0 0) [] :: A):=by
 have h0:∀ b,¬ (prs e (.slice none 0 0) []).ft b:=by rintro b (h | h | h);cases h;exact h;exact h
 refine ⟨fun w hw=>Sat.cons.2 ⟨.inl ⟨rfl,rfl⟩,fun a _=>⟨fun b hb=>absurd (.inl hb) (h0 b),fun b _ hf=>h0 b hf⟩,hw⟩,fun b hb=>?_,fun b hb=>?_,fun b hb=>?_⟩
 ·obtain ⟨x,hx,hb⟩:=hb
  rcases List.mem_cons.1 hx with rfl | hx
  ·exact absurd (.inl hb) (h0 b)
  ·exact ⟨x,hx,hb⟩
 ·obtain ⟨x,hx,hb⟩:=hb
  rcases List.mem_cons.1 hx with rfl | hx
  ·exact absurd (.inr (.inl hb)) (h0 b)
  ·exact .inr ⟨x,hx,hb⟩
 ·obtain ⟨x,hx,hb⟩:=hb
  rcases List.mem_cons.1 hx with rfl | hx
  ·exact absurd hb (h0 b)
  ·exact ⟨x,hx,hb⟩
theorem two_set (f:Nat→Value) (p1 p2:Value):((Array.map f (Array.range 2)).setIfInBounds 0 p1).setIfInBounds 1 p2 = #[p1,p2]:=by
 have:Array.map f (Array.range 2) = #[f 0,f 1]:=by rw [← Array.toList_inj];simp [List.range,List.range.loop]
 rw [this];rfl
section
variable {P:Program} {E:Env P} {n:Sh} {X:Cx} {s:List K} {fr:Fr} {A A':List Ch} {ops:Array Oper} {rest:List Oper} {d:Nat} {ty t e:TypeId} {pos:String} {after:Array Edge} {v u z p1 p2:Value} {x y:Operand} {by_:Nat} {L:List (Value × Value)} {w:World}
theorem slp (k:∀ g,TO E n X s ops rest ((d,.slice (some ⟨g,0,none⟩) 1 1) :: fr) (prs e (.slice (some ⟨g,0,none⟩) 1 1) [(p1,p2)] :: A)) (hx:ev fr x = some (.agg #[p1,p2]):=by rfl) (ht:lk E.und t = some (.slice e):=by rfl) (he:lk E.inf e = some (z,2,by_):=by rfl) (hz:z.cells.size = 2:=by rfl) (hd:Nat.blt d n.n = true:=by rfl) :
  TO E n X s ops (⟨some d,.buildSlice t 1 #[(0,x)],ty,pos,after,none⟩ :: rest) fr A:=⟨fun w hw=>by
 obtain ⟨inf,hi,hiz,his,_⟩:=E.info he
 refine SO_v hd (w':=w.alloc (.cells #[p1,p2] e)) ⟨fun a ha _ _ _ _=>?_⟩ ((k _).run _ (hw.new (Upd.alloc w _) (.inr ⟨w.heap.size,1,_,rfl,heap_alloc_new w _,Nat.le_refl _,by unfold maxLen;omega,rfl,rfl⟩) (by rintro b (h | h | h);(have h:some w.heap.size = some b:=h);cases h;exact Nat.le_refl _;exact h.elim;exact h.elim) (fun _ h=>h)))
 simp only [execOp]
 show Sem.run P (do let v ← Instr.buildSlice t 1 ((#[(0,x)].map fun (p:Nat × Operand)=>(p.1,a.eval p.2)));pure (Next.value v)) w = _
 simp [Instr.buildSlice,run_underlying (P:=P) (E.un ht) w,sizeOf,typeInfo,hi,his,zeroValue,hiz,ha.ev hx,Instr.fill,Value.cells,newRow,newObj,Sem.run]
 exact congrArg (fun c=>w.alloc (Obj.cells c e)) (two_set _ _ _)⟩
theorem run_appendW (t':TypeId) (w:World) (ht:lk E.und t = some (.slice e)) (he:lk E.inf e = some (z,2,by_)) (hz:z.cells.size = 2) (hown:OwnW w e v L) {g:Nat} {cu:Array Value} (hg:w.heap[g]? = some (.cells cu e (0,0))) (hcu:cu.toList.take 2 = [p1,p2])
  (h1:p1.oneCell' = true∧p2.oneCell' = true) (hby:(L.length + 1) * by_ ≤ 140737488355328) (h63:L.length + 1 ≤ 4611686018427387903) :
  ∃ v' w',(Builtin.append_ #[t,t] t' #[v,.slice (some ⟨g,0,none⟩) 1 1]).run P w = .ok v' w'∧OwnW w' e v' (L ++ [(p1,p2)])∧Upd w w' v.ownBlock.toList∧∀ b,v'.ownBlock = some b→v.ownBlock = some b∨w.heap.size ≤ b:=by
 obtain ⟨inf,hi,hiz,his,hib⟩:=E.info he
 have ht':=E.un ht
 have hnews:∀ j c,[p1,p2][j]? = some c→w.cell? ((⟨g,0,none⟩ : Addr).add j) = some c:=fun j c hj=>by
  rw [Addr.add_lit,Nat.zero_add,cell_of_row w g j cu e (0,0) hg]
  rw [← hcu,List.getElem?_take] at hj
  split at hj
  ·simpa using hj
  ·cases hj
 have hl : [p1,p2].length = 1 * inf.size:=by rw [his];rfl
 have hone:∀ u ∈ [p1,p2],u.oneCell' = true:=by intro u hu;simp at hu;rcases hu with rfl | rfl;exact h1.1;exact h1.2
 subst hib
 have hupd:∀ (o:Obj) (S:List Nat),Upd w (w.drew.alloc o) S:=fun o S=>((Upd.drew w).trans (Upd.alloc w.drew o)).weak (by simp)
 have happ:pc (L ++ [(p1,p2)]) = pc L ++ [p1,p2]:=pc_app _ _
 have hpl:=pc_len L
 have grow:∀ (old:Nat),OwnW (w.drew.alloc (.cells ((pc L).toArray ++ [p1,p2].toArray ++ Builtin.zeroCells z.cells (grownCap w (L.length + 1) old e - (L.length + 1))) e)) e
   (.slice (some ⟨w.heap.size,0,none⟩) (L.length + 1) (grownCap w (L.length + 1) old e)) (L ++ [(p1,p2)]):=by
  intro old
  have hge:=grownCap_ge w (L.length + 1) old e
  refine .inr ⟨w.heap.size,grownCap w (L.length + 1) old e,_,by simp,heap_alloc_new w.drew _,by simpa using hge,grownCap_le_maxLen w _ old e (by unfold maxLen;omega),?_,?_⟩
  ·simp only [Array.size_append,List.size_toArray,size_zeroCells,hz,hpl,List.length_cons,List.length_nil];omega
  ·rw [happ]
   simp only [Array.toList_append]
   exact List.take_left' (by simp [hpl];omega)
 rcases hown with ⟨rfl,rfl⟩ | ⟨b,cap,cur,rfl,hb,h2,h3,h4,h5⟩
 ·have hr:=run_append_nil (P:=P) w t t' e inf z ht' hi hiz ⟨g,0,none⟩ 1 1 [p1,p2] hl hnews (by omega) (by omega) (by simp at hby;omega)
  have hg:=grow 0
  simp only [List.length_nil,Nat.zero_add,List.nil_append,pc,List.append_toArray] at hg
  exact ⟨_,_,hr,by simpa using hg,hupd _ _,fun b' hb'=>by cases hb';exact .inr (Nat.le_refl _)⟩
 ·by_cases hroom:L.length + 1 ≤ cap
  ·have hr:=run_append_room (P:=P) w t t' e inf ht' hi b L.length cap cur hb ⟨g,0,none⟩ 1 1 [p1,p2] hl hnews hone hroom (by rw [his,h4];simp;omega)
   refine ⟨_,_,hr,.inr ⟨b,cap,_,by simp,setRow_heap w b cur _ e _ hb,by simpa using hroom,h3,?_,?_⟩,Upd.setRow w b _,fun _ h=>.inl h⟩
   ·simp only [List.size_toArray,List.length_append,List.length_take,List.length_drop,Array.length_toList,his,List.length_cons,List.length_nil];omega
   ·rw [his,happ,show L.length * 2 = 2 * L.length by omega,h5]
    exact List.take_left' (by simp [hpl];omega)
  ·have hc:∀ j c,(pc L)[j]? = some c→w.cell? ((⟨b,0,none⟩ : Addr).add j) = some c:=fun j c hj=>by
    rw [Addr.add_lit,Nat.zero_add,cell_of_row w b j cur e (0,0) hb]
    rw [← h5,List.getElem?_take] at hj
    split at hj
    ·simpa using hj
    ·cases hj
   have hr:=run_append_grow (P:=P) w t t' e inf z ht' hi hiz ⟨b,0,none⟩ L.length cap (pc L) (by rw [his,hpl];omega) hc ⟨g,0,none⟩ 1 1 [p1,p2] hl hnews (by omega) (by omega) (growslice_fits (by omega) hby)
   exact ⟨_,_,hr,grow cap,hupd _ _,fun b' hb'=>by cases hb';exact .inr (Nat.le_refl _)⟩
theorem app {g:Nat} (k:∀ v',v'.oneCell' = true→TO E n X s ops rest ((d,v') :: fr) (prs e v' (L ++ [(p1,p2)]) :: A')) (hx:ev fr x = some v:=by rfl) (hy:ev fr y = some (.slice (some ⟨g,0,none⟩) 1 1):=by rfl) (hm:Tk (prs e v L) A A':=by exact tkA) (hu:prs e (.slice (some ⟨g,0,none⟩) 1 1) [(p1,p2)] ∈ A':=by exact memA)
  (h1:p1.oneCell' = true∧p2.oneCell' = true) (ht:lk E.und t = some (.slice e):=by rfl) (he:lk E.inf e = some (z,2,by_):=by rfl) (hz:z.cells.size = 2:=by rfl) (hby:(L.length + 1) * by_ ≤ 140737488355328:=by omega) (h63:L.length + 1 ≤ 4611686018427387903:=by omega) (hd:Nat.blt d n.n = true:=by rfl) :
  TO E n X s ops (⟨some d,.call ⟨.builtin .append,#[x,y],#[t,t]⟩,ty,pos,after,none⟩ :: rest) fr A:=⟨fun w hw=>by
 have h2:=hw.im hm
 have h3:OwnW w e v L:=h2.mem (List.Mem.head _)
 have h4:OwnW w e (.slice (some ⟨g,0,none⟩) 1 1) [(p1,p2)]:=h2.mem (List.Mem.tail _ hu)
 rcases h4 with ⟨h4,_⟩ | ⟨g',cap,cu,e1,hg,_,_,_,hcu⟩
 ·cases h4
 ·cases e1
  obtain ⟨v',w',hr,hO,hU,hW⟩:=run_appendW (P:=P) ty w ht he hz h3 hg hcu h1 hby h63
  refine SO_v hd (w':=w') (v:=v') ⟨fun a ha' _ _ _ _=>?_⟩ ((k v' ?_).run w' (h2.set hU (fun b hb=>.inl (by show v.ownBlock = some b;simpa using hb)) hO ?_ (fun _ h=>h)))
  ·simp only [execOp,resolve]
   simp [ha'.ev hx,ha'.ev hy,invoke,builtin,hr]
  ·rcases hO with ⟨rfl,_⟩ | ⟨_,_,_,rfl,_⟩ <;> rfl
  ·rintro b (hb' | hb' | hb')
   ·exact hW b hb'
   ·exact hb'.elim
   ·exact hb'.elim⟩
end
end Go.Art
namespace Go.Art.Sn
open Go Go.Proofs
def unds:List (Nat × TypeDesc):=[(1,.func #[] #[] false),
 (29,.func #[27,28] #[4] false),
 (30,.func #[] #[4] false),
 (31,.func #[24] #[24] false),
 (32,.func #[25] #[25] false),
 (36,.func #[24,25,3,3,3] #[33,34] false),
 (39,.func #[24,25,3,3,3] #[37,34] false),
 (40,.func #[24,24] #[4] false),
 (41,.func #[25,25] #[4] false),
 (42,.func #[22] #[] false),
 (43,.func #[25] #[] false),
 (44,.func #[33,37,46] #[4] false),
 (47,.func #[33,37] #[4] false),
 (48,.func #[] #[33] false),
 (49,.func #[33,51] #[4] false),
 (52,.func #[] #[3] false),
 (53,.func #[22] #[22] false),
 (55,.func #[24] #[25,34] false),
 (56,.func #[3,3,3] #[4] false),
 (57,.chan .both 25),
 (62,.func #[24] #[3] false),
 (65,.func #[24,25,3] #[63,34] false),
 (68,.func #[63,22,3,3] #[66,34] false),
 (69,.func #[3] #[25,34] false),
 (74,.func #[22,22] #[4] false),
 (75,.func #[46] #[3] false),
 (76,.func #[] #[63,34] false),
 (77,.func #[63,63] #[4] false),
 (78,.func #[25] #[63,34] false),
 (79,.func #[3,3] #[33] false),
 (80,.func #[] #[51] false),
 (81,.func #[33,51,51] #[4] false),
 (82,.func #[63,34,51] #[4] false),
 (83,.func #[24] #[34] false),
 (86,.func #[3] #[84,34] false),
 (91,.func #[] #[90] false),
 (92,.func #[3,3] #[34] false),
 (93,.func #[] #[25,34] false),
 (95,.func #[24,3] #[3,3,34] false),
 (96,.func #[25,3,3] #[63,34] false),
 (97,.func #[63] #[34] false),
 (103,.func #[22,3,3,3] #[101,34] false),
 (107,.func #[3] #[22,34] false),
 (108,.func #[63,22] #[25,34] false),
 (109,.func #[25,3,3] #[25] false),
 (110,.func #[3,3] #[3] false),
 (112,.func #[59,3] #[3,4] false),
 (113,.func #[51] #[] false),
 (114,.func #[3] #[] false),
 (115,.func #[] #[63] false),
 (117,.func #[25] #[51,34] false),
 (118,.func #[51] #[4] false),
 (119,.func #[] #[24] false),
 (120,.func #[51] #[25,34] false),
 (121,.func #[51,51] #[4] false),
 (122,.func #[22,3] #[4] false),
 (127,.func #[131] #[34] false),
 (128,.func #[3] #[4] false),
 (130,.func #[25] #[34] false),
 (131,.func #[] #[34] false),
 (134,.func #[138] #[] false),
 (135,.func #[138] #[] false),
 (136,.func #[25,3] #[135] false),
 (137,.func #[63,138] #[4] false),
 (138,.func #[25] #[4] false),
 (139,.func #[22,3] #[34] false),
 (141,.func #[22] #[99,34] false),
 (142,.func #[63,22,143] #[135] false),
 (144,.func #[25,25] #[34] false),
 (147,.func #[51] #[63] false),
 (150,.func #[63,22,3,3] #[148,34] false),
 (151,.func #[181,25] #[25,34] false),
 (153,.func #[25] #[152] false),
 (154,.func #[3] #[3] false),
 (158,.func #[] #[157] false),
 (160,.func #[4,3,159] #[] false),
 (161,.func #[3] #[25] false),
 (164,.func #[] #[163] false),
 (165,.func #[51] #[34] false),
 (167,.func #[25] #[3,25,4] false),
 (168,.func #[181,25] #[25] false),
 (169,.func #[22,128] #[4] false),
 (170,.func #[25,3] #[25,34] false),
 (171,.func #[63,138] #[3] false),
 (172,.func #[22] #[3] false),
 (174,.func #[99,3,175] #[22,34] false),
 (176,.func #[177,177,177] #[175] false),
 (178,.func #[25,25] #[] false),
 (184,.func #[3,4] #[25] false),
 (185,.func #[4,3] #[3] false),
 (187,.func #[181,25] #[186] false),
 (188,.func #[22,128] #[3] false),
 (191,.func #[99,3] #[34] false),
 (193,.func #[99,175] #[3,34] false),
 (194,.func #[175,3,3] #[22,34] false),
 (196,.func #[177] #[177] false),
 (203,.func #[22,3,3,3,3] #[22,34] false),
 (204,.func #[25,25] #[25,34] false),
 (205,.func #[217] #[181] true),
 (206,.func #[99] #[34] false),
 (207,.func #[3] #[3,34] false),
 (208,.func #[99,3,3] #[3,34] false),
 (209,.func #[211] #[22] false),
 (210,.func #[128] #[] false),
 (211,.func #[128] #[] false),
 (212,.func #[22] #[211] false),
 (213,.func #[99,3,214] #[22,34] false),
 (215,.func #[177,177,177] #[214] false),
 (216,.func #[186,3] #[186] false),
 (219,.func #[] #[218] false),
 (220,.func #[3] #[128] false),
 (221,.func #[3] #[3,4] false),
 (222,.func #[3,3] #[4] false),
 (225,.func #[3,3] #[] false),
 (226,.func #[22] #[4] false),
 (227,.func #[22,59,3] #[3] false),
 (228,.func #[22,3] #[3] false),
 (229,.func #[214,3,3] #[22,34] false),
 (230,.func #[99,3,3] #[3] false),
 (233,.func #[22,211] #[22] false),
 (234,.func #[22,3,3,3] #[] false),
 (235,.func #[145] #[3] false),
 (236,.func #[] #[177] false),
 (237,.func #[22,3,3] #[] false),
 (240,.func #[22,3,3] #[3,238] false),
 (241,.func #[22,3,3] #[4] false),
 (242,.func #[22,3,3,3] #[3] false),
 (243,.func #[22,3,3,3] #[3,4] false),
 (244,.func #[186] #[3] false),
 (245,.func #[177] #[3] false),
 (246,.func #[3] #[22] false),
 (248,.func #[3] #[145] false),
 (249,.func #[22,3,159] #[3] false),
 (250,.func #[22,3,3,3,159] #[3] false),
 (253,.func #[22,3,3,159] #[3,3] false),
 (254,.func #[] #[9] false),
 (262,.func #[272,272] #[4] false),
 (268,.func #[271] #[] false),
 (269,.func #[271] #[] false),
 (270,.func #[] #[269] false),
 (271,.func #[177] #[4] false)]
def infs:List (Nat × (Value × Nat × Nat)):=[(1,(.nilFunc,1,8)),
 (29,(.nilFunc,1,8)),
 (30,(.nilFunc,1,8)),
 (31,(.nilFunc,1,8)),
 (32,(.nilFunc,1,8)),
 (36,(.nilFunc,1,8)),
 (39,(.nilFunc,1,8)),
 (40,(.nilFunc,1,8)),
 (41,(.nilFunc,1,8)),
 (42,(.nilFunc,1,8)),
 (43,(.nilFunc,1,8)),
 (44,(.nilFunc,1,8)),
 (47,(.nilFunc,1,8)),
 (48,(.nilFunc,1,8)),
 (49,(.nilFunc,1,8)),
 (52,(.nilFunc,1,8)),
 (53,(.nilFunc,1,8)),
 (55,(.nilFunc,1,8)),
 (56,(.nilFunc,1,8)),
 (57,(.chan none,1,8)),
 (62,(.nilFunc,1,8)),
 (65,(.nilFunc,1,8)),
 (68,(.nilFunc,1,8)),
 (69,(.nilFunc,1,8)),
 (74,(.nilFunc,1,8)),
 (75,(.nilFunc,1,8)),
 (76,(.nilFunc,1,8)),
 (77,(.nilFunc,1,8)),
 (78,(.nilFunc,1,8)),
 (79,(.nilFunc,1,8)),
 (80,(.nilFunc,1,8)),
 (81,(.nilFunc,1,8)),
 (82,(.nilFunc,1,8)),
 (83,(.nilFunc,1,8)),
 (86,(.nilFunc,1,8)),
 (91,(.nilFunc,1,8)),
 (92,(.nilFunc,1,8)),
 (93,(.nilFunc,1,8)),
 (95,(.nilFunc,1,8)),
 (96,(.nilFunc,1,8)),
 (97,(.nilFunc,1,8)),
 (103,(.nilFunc,1,8)),
 (107,(.nilFunc,1,8)),
 (108,(.nilFunc,1,8)),
 (109,(.nilFunc,1,8)),
 (110,(.nilFunc,1,8)),
 (112,(.nilFunc,1,8)),
 (113,(.nilFunc,1,8)),
 (114,(.nilFunc,1,8)),
 (115,(.nilFunc,1,8)),
 (117,(.nilFunc,1,8)),
 (118,(.nilFunc,1,8)),
 (119,(.nilFunc,1,8)),
 (120,(.nilFunc,1,8)),
 (121,(.nilFunc,1,8)),
 (122,(.nilFunc,1,8)),
 (127,(.nilFunc,1,8)),
 (128,(.nilFunc,1,8)),
 (130,(.nilFunc,1,8)),
 (131,(.nilFunc,1,8)),
 (134,(.nilFunc,1,8)),
 (135,(.nilFunc,1,8)),
 (136,(.nilFunc,1,8)),
 (137,(.nilFunc,1,8)),
 (138,(.nilFunc,1,8)),
 (139,(.nilFunc,1,8)),
 (141,(.nilFunc,1,8)),
 (142,(.nilFunc,1,8)),
 (144,(.nilFunc,1,8)),
 (147,(.nilFunc,1,8)),
 (150,(.nilFunc,1,8)),
 (151,(.nilFunc,1,8)),
 (153,(.nilFunc,1,8)),
 (154,(.nilFunc,1,8)),
 (158,(.nilFunc,1,8)),
 (160,(.nilFunc,1,8)),
 (161,(.nilFunc,1,8)),
 (164,(.nilFunc,1,8)),
 (165,(.nilFunc,1,8)),
 (167,(.nilFunc,1,8)),
 (168,(.nilFunc,1,8)),
 (169,(.nilFunc,1,8)),
 (170,(.nilFunc,1,8)),
 (171,(.nilFunc,1,8)),
 (172,(.nilFunc,1,8)),
 (174,(.nilFunc,1,8)),
 (176,(.nilFunc,1,8)),
 (178,(.nilFunc,1,8)),
 (184,(.nilFunc,1,8)),
 (185,(.nilFunc,1,8)),
 (187,(.nilFunc,1,8)),
 (188,(.nilFunc,1,8)),
 (191,(.nilFunc,1,8)),
 (193,(.nilFunc,1,8)),
 (194,(.nilFunc,1,8)),
 (196,(.nilFunc,1,8)),
 (203,(.nilFunc,1,8)),
 (204,(.nilFunc,1,8)),
 (205,(.nilFunc,1,8)),
 (206,(.nilFunc,1,8)),
 (207,(.nilFunc,1,8)),
 (208,(.nilFunc,1,8)),
 (209,(.nilFunc,1,8)),
 (210,(.nilFunc,1,8)),
 (211,(.nilFunc,1,8)),
 (212,(.nilFunc,1,8)),
 (213,(.nilFunc,1,8)),
 (215,(.nilFunc,1,8)),
 (216,(.nilFunc,1,8)),
 (219,(.nilFunc,1,8)),
 (220,(.nilFunc,1,8)),
 (221,(.nilFunc,1,8)),
 (222,(.nilFunc,1,8)),
 (225,(.nilFunc,1,8)),
 (226,(.nilFunc,1,8)),
 (227,(.nilFunc,1,8)),
 (228,(.nilFunc,1,8)),
 (229,(.nilFunc,1,8)),
 (230,(.nilFunc,1,8)),
 (233,(.nilFunc,1,8)),
 (234,(.nilFunc,1,8)),
 (235,(.nilFunc,1,8)),
 (236,(.nilFunc,1,8)),
 (237,(.nilFunc,1,8)),
 (240,(.nilFunc,1,8)),
 (241,(.nilFunc,1,8)),
 (242,(.nilFunc,1,8)),
 (243,(.nilFunc,1,8)),
 (244,(.nilFunc,1,8)),
 (245,(.nilFunc,1,8)),
 (246,(.nilFunc,1,8)),
 (248,(.nilFunc,1,8)),
 (249,(.nilFunc,1,8)),
 (250,(.nilFunc,1,8)),
 (253,(.nilFunc,1,8)),
 (254,(.nilFunc,1,8)),
 (262,(.nilFunc,1,8)),
 (268,(.nilFunc,1,8)),
 (269,(.nilFunc,1,8)),
 (270,(.nilFunc,1,8)),
 (271,(.nilFunc,1,8))]
theorem unds_ok:unds.map (fun p=>Tryz.prog.underlying p.1) = unds.map (fun p=>some p.2):=by kernel_rfl
theorem infs_ok:infs.map (fun p=>(Tryz.prog.info? p.1).map (fun i=>(i.zero,i.size,i.bytes))) = infs.map (fun p=>some (some p.2.1,p.2.2.1,p.2.2.2)):=by kernel_rfl
def env:Env Tryz.prog where
 und:=unds ++ tyUnd
 und_ok:=fun p hp=>by rcases List.mem_append.1 hp with h | h;exact of_map_eq unds_ok p h;exact of_map_eq tyUnd_ok p h
 inf:=infs ++ tyInf
 inf_ok:=fun p hp=>by rcases List.mem_append.1 hp with h | h;exact of_map_eq infs_ok p h;exact of_map_eq tyInf_ok p h
 mixed:=follows_mixed
end Go.Art.Sn
