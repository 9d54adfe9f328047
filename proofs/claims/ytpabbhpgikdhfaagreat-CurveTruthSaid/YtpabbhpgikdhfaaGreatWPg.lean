/- Texts put together: Yt Yu Yv Yw Yx Yy Ib Ic Id Ie StopO Vi Vj Vk Gp Ga Vl Rr Zj Vn Vp Vq Vs If Ig Ih Ii Ij. Conditions: none. -/
import Derived.Test.YtpabbhpgikdhfaaGreatWPf
set_option linter.unusedSimpArgs false
set_option linter.unusedVariables false
namespace Go.Art
open Go Go.Proofs Go.RowKit
theorem Tr.post {P:Program} {f:FuncId} {args:List Value} {pre A:List Ch} {R R':Value→List Ch→Prop} (h:Tr P f args pre A R) (k:∀ v D,R v D→∃ D',R' v D'∧Im D D'∧∀ c ∈ D',∀ b,¬ c.bd b):Tr P f args pre A R':=by
 refine ⟨fun w hw=>(h.run w hw).mono fun v w' ⟨B,hR,hS,hM,_⟩=>?_,h.lent⟩
 obtain ⟨D',hR',hI,hB'⟩:=k v B hR
 refine ⟨D',hR',hI.sat w' hS,⟨hM.os,hM.tape,hM.output,hM.size,hM.block,fun b hb=>hM.wr b (hI.wr b hb),fun b hb=>?_⟩,hB'⟩
 rcases hI.rd b hb with h1 | h1
 ·rcases hM.wr b h1 with h2 | h2
  ·exact .inl h2
  ·exact .inr (.inr h2)
 ·exact hM.rd b h1
structure ShC where
 bq:Nat
 bp:Nat
 bl:Nat
 pw:Nat
 l1:Value
 l2:Value
structure ShG where
 a0:Value
 h0:List HV
 i0:Nat
 a1:Value
 h1:List HV
 i1:Nat
structure ShOk (c:ShC) (g:ShG):Prop where
 a0:g.a0.oneCell' = true
 a1:g.a1.oneCell' = true
 h0:g.h0.length = g.i0 + 1
 h1:g.h1.length = g.i1 + 1
 i0:g.i0 ≤ 12
 i1:g.i1 ≤ 12
 l1:c.l1.oneCell' = true
 l2:c.l2.oneCell' = true
theorem chs_mk (n:Nat):mkRat (n:Int) 1 = (n:Rat):=by rw [Rat.mkRat_eq_div];push_cast;grind
attribute [local irreducible] Fit pt own ro vw mpc lpt vels rels mow lrc dfr
attribute [local irreducible] lmp lme mit velg relg bnd owl dfrl gow
abbrev powV (pw:Nat):Value:=.func (.func 214) #[] #[ptr pw]
abbrev shV (c:ShC):Value:=.func (.func 215) #[] #[ptr c.bq,ptr c.bp,ptr c.bl]
abbrev shP (c:ShC) (p:Rat) (v:HV) (g:ShG):List Ch:=[pt c.bq [powV c.pw] TPf,pt c.bp (rrow p v) TRt,pt c.bl (rrow (1 - p) (c.l1,c.l2)) TRt,own T64 c.l1 (Us (dg (1 - p).num.natAbs)),own T64 c.l2 (Us (dg (1 - p).den)),pt c.pw [g.a0,g.a1] TPw,oww TRt 3 g.a0 (g.i0 + 1) (rcs (pows p g.i0) g.h0),ofr g.h0 (pows p g.i0),oww TRt 3 g.a1 (g.i1 + 1) (rcs (pows (1 - p) g.i1) g.h1),ofr g.h1 (pows (1 - p) g.i1)]
def shB (c:ShC) (p:Rat) (v:HV) (g:ShG):Ch:=bnd (shP c p v g)
theorem shP_nb (c:ShC) (p:Rat) (v:HV) (g:ShG):∀ x ∈ shP c p v g,∀ b,¬ x.bd b:=by repeat (first | exact nb0 | refine nb1 ?_)
instance (c:ShC) (p:Rat) (v:HV) (g:ShG):NoB (shB c p v g):=⟨bnd_nob (shP_nb c p v g)⟩
structure PwB (p:Rat):Prop where
 hp:∀ j,j ≤ 13→FB (p ^ j) 8589934592
 hl:∀ j,j ≤ 13→FB ((1 - p) ^ j) 8589934592
 hcp:∀ m s,m ≤ 12→s ≤ m→FB ((chs m s:Rat) * p ^ s) 8589934592
theorem share0_tr (c:ShC) (p:Rat) (v:HV) (g:ShG) (hv1:v.1.oneCell' = true) (hv2:v.2.oneCell' = true) (ho:ShOk c g) (hB:PwB p) (many so:Nat) (hm:many ≤ 12) (hs:so ≤ many) :
  Tr Tryz.prog 215 [I many,I so,ptr c.bq,ptr c.bp,ptr c.bl] [vw v.1 (Us (dg p.num.natAbs)),vw v.2 (Us (dg p.den))] (shP c p v g) fun u D=>∃ g' vn vd,u = rv (shar p many so) vn vd∧vn.oneCell' = true∧vd.oneCell' = true∧ShOk c g'∧D = own T64 vn (Us (dg (shar p many so).num.natAbs)) :: own T64 vd (Us (dg (shar p many so).den)) :: shP c p v g':=by
 obtain ⟨o1,o2,o3,o4,o5,o6,o7,o8⟩:=ho
 have hC:=Choose_tr many so (by omega) hs
 have hcl:=chs_len many so
 have hI:=fun o=>IMake_tr false o (dg (chs many so)) (Dg_dg _) (by omega)
 have hR:=fun o dv=>FMake_tr ((chs many so:Nat):Int) o dv [1] (Dg.one (by decide)) (by unfold dz;rw [Int.natAbs_natCast];omega) (by decide) (by decide)
 have hsg:∀ n:Nat,sg false n = (n:Int):=fun n=>rfl
 simp only [nv_dg,hsg] at hI
 unfold IR at hI
 unfold dz iv at hR
 rw [show nv [1] = 1 from rfl,chs_mk] at hR
 simp only [Int.natAbs_natCast] at hI hR
 have hn:decide (((chs many so:Nat):Int) < 0) = false:=decide_eq_false (by omega)
 rw [hn] at hI hR
 unfold eNat at hC
 unfold FQ2 at hR
 have hP0:=fun b=>power_tr (fun a=>[a,b]) 0 so (hole0 b) (by decide) p v.1 v.2 hv1 hv2 c.pw g.i0 g.a0 g.h0 o1 o3 (by omega) o5 hB.hp
 have hP1:=fun b=>power_tr (fun a=>[b,a]) 1 (many - so) (hole1 b) (by decide) (1 - p) c.l1 c.l2 o7 o8 c.pw g.i1 g.a1 g.h1 o2 o4 (by omega) o6 hB.hl
 have hF1:FB (chs many so:Rat) 8589934592:=by
  have:=hB.hcp many so hm hs
  have e:=FB_nat (a:=chs many so) (E:=1) (B:=1) (by decide) (Nat.lt_of_le_of_lt (chs_le many so) (Nat.lt_of_le_of_lt (Nat.pow_le_pow_right (by decide) (show many ≤ 63 by omega)) (by decide))) (by decide)
  rw [show ((chs many so:Nat):Rat) / ((1:Nat):Rat) = (chs many so:Rat) by rw [show ((1:Nat):Rat) = 1 from rfl];grind] at e
  exact e.le (by decide)
 have hMul:=fun lv v1 v2 v3 v4 v5 v6=>FMul3_tr (chs many so:Rat) (p ^ so) ((1 - p) ^ (many - so)) lv v1 v2 v3 v4 v5 v6 hF1 (hB.hp so (by omega)) (hB.hl (many - so) (by omega)) (hB.hcp many so hm hs)
 have hms:(many:Int) - so = ((many - so:Nat):Int):=by omega
 rw [show (chs many so:Rat) * p ^ so * (1 - p) ^ (many - so) = shar p many so from rfl] at hMul
 have hpg:=fun (hs:List HV) (i:Nat) (hl:hs.length = i + 1) (hi:so ≤ i) (F:List Ch) (h:ofr hs (pows p i) ∈ F)=>has_fr (i:=so) (has_ofr (by rw [pows_len];exact hl) h) (by rw [pows_len];exact hl) (by rw [pows_len];omega)
 have hlg:=fun (hs:List HV) (i:Nat) (hl:hs.length = i + 1) (hi:many - so ≤ i) (F:List Ch) (h:ofr hs (pows (1 - p) i) ∈ F)=>has_fr (i:=many - so) (has_ofr (by rw [pows_len];exact hl) h) (by rw [pows_len];exact hl) (by rw [pows_len];omega)
 have hpe:=fun i (hi:so ≤ i)=>pows_get (p:=p) hi
 have hle:=fun i (hi:many - so ≤ i)=>pows_get (p:=1 - p) hi
 unfold FQ2 at hMul
 clear hF1 hB hn hsg
 obtain ⟨v1,v2⟩:=v
 dsimp only at hv1 hv2 hP0 hP1
 generalize (chs many so:Rat) = qc at *
 generalize dg (chs many so) = lc at *
 generalize shar p many so = q at *
 refine Tr.enter env _ Tryz.func215 (by kernel_rfl) rfl Tryz.ntmps215 rfl (by repeat (first | exact has00 | refine has01 ?_)) fun w0=>?_
 repeat' first|(refine gca ?_;first|(refine ca hC ?_;rintro _ _ ⟨o1,rfl,ho1,rfl⟩)|(refine ca (hI o1) ?_;rintro _ _ ⟨o5,rfl,ho5,rfl⟩)|(refine ca (hR o5 o6) ?_;rintro _ _ ⟨n1,d1,rfl,hn1,hd1,rfl⟩))|refine al fun c10=>?_|refine slu [1] (fun o6 ho6=>?_)|refine srz ?_|(refine wo ?_;first|refine oa ?_)|refine sq ?_|refine rg ?_|refine xc ?_|refine nl ?_
 rename_i c7
 refine rs (fun w'=>w'.heap[c10]? = some (.cells (rrow qc (n1,d1)).toArray TRt (0,0))∧w'.heap[c.bq]? = some (.cells [powV c.pw].toArray TPf (0,0))∧w'.heap[c.bp]? = some (.cells (rrow p (v1,v2)).toArray TRt (0,0))∧w'.heap[c.bl]? = some (.cells (rrow (1 - p) (c.l1,c.l2)).toArray TRt (0,0))) ?_ (fun w' hw=>⟨pt_at memA hw,pt_at memA hw,pt_at memA hw,pt_at memA hw⟩)
 refine tk 0 (v:=.agg (rrow qc (n1,d1)).toArray) (fun w' h=>R_loadA (E:=env) (vs:=rrow qc (n1,d1)) rfl rfl rfl rfl h.1 rfl rfl) ?_
 refine tkl 1 (cs:=[powV c.pw]) (fun w' h=>h.2.1) ?_
 refine tka 2 ?_
 refine tk 3 (v:=.agg (rrow p (v1,v2)).toArray) (fun w' h=>R_loadA (E:=env) (vs:=rrow p (v1,v2)) rfl rfl rfl rfl h.2.2.1 rfl rfl) ?_
 refine tkl 5 (cs:=[powV c.pw]) (fun w' h=>h.2.1) ?_
 refine tka 6 ?_
 refine tka 7 ?_
 refine tkw 8 ((many - so:Nat):Int) ?_
 refine tk 9 (v:=.agg (rrow (1 - p) (c.l1,c.l2)).toArray) (fun w' h=>R_loadA (E:=env) (vs:=rrow (1 - p) (c.l1,c.l2)) rfl rfl rfl rfl h.2.2.2 rfl rfl) ?_
 refine t2 4 16 ?_ ?_
 ·refine cav (cap:=#[ptr c.pw]) (vs:=[I ((0:Nat):Int),I so,rv p v1 v2]) (hP0 g.a1) ?_
  rintro _ _ ⟨i0',a0',h0',rfl,q1,q2,q3,q4,rfl⟩
  refine nl ?_
  refine te (fun w' hw=>⟨pt_at memA hw,pt_at memA hw,pt_at memA hw,pt_at memA hw⟩) ?_
  refine t2 10 16 ?_ ?_
  ·refine cav (cap:=#[ptr c.pw]) (vs:=[I ((1:Nat):Int),I ((many - so:Nat):Int),rv (1 - p) c.l1 c.l2]) (hP1 a0') ?_
   rintro _ _ ⟨i1',a1',h1',rfl,r1',r2',r3',r4',rfl⟩
   refine nl ?_
   refine te (fun w' hw=>⟨pt_at memA hw,pt_at memA hw,pt_at memA hw,pt_at memA hw⟩) ?_
   refine t2 11 16 ?_ ?_
   ·refine slws (sz:=3) (xs:=rrow qc (n1,d1) ++ rrow (p ^ so) (h0'.getD so nS2) ++ rrow ((1 - p) ^ (many - so)) (h1'.getD (many - so) nS2)) fun g2=>?_
    refine nl ?_
    refine te (fun w' hw=>⟨pt_at memA hw,pt_at memA hw,pt_at memA hw,pt_at memA hw⟩) ?_
    refine t2 12 16 ?_ ?_
    ·refine ca (hMul _ n1 d1 (h0'.getD so nS2).1 (h0'.getD so nS2).2 (h1'.getD (many - so) nS2).1 (h1'.getD (many - so) nS2).2) ?_ (hp:=has1 (has_oww memA) (has1 hasA (has1 hasA (has1 (by rw [← hpe i0' q3];exact (hpg h0' i0' q2 q3 _ memA).1) (has1 (by rw [← hpe i0' q3];exact (hpg h0' i0' q2 q3 _ memA).2) (has1 (by rw [← hle i1' r3'];exact (hlg h1' i1' r2' r3' _ memA).1) (has1 (by rw [← hle i1' r3'];exact (hlg h1' i1' r2' r3' _ memA).2) has0)))))))
     rintro _ _ ⟨n3,d3,rfl,hn3,hd3,rfl⟩
     refine nl ?_
     refine te (fun w' hw=>⟨pt_at memA hw,pt_at memA hw,pt_at memA hw,pt_at memA hw⟩) ?_
     refine tka 13 ?_
     refine tka 14 ?_
     refine tka 15 ?_
     refine t1 16 ?_
     refine al fun c12=>?_
     refine nl ?_
     refine te (fun w' hw=>⟨pt_at memA hw,pt_at memA hw,pt_at memA hw,pt_at memA hw⟩) ?_
     refine t1 17 ?_
     refine srz ?_
     refine nl ?_
     refine te (fun w' hw=>⟨pt_at memA hw,pt_at memA hw,pt_at memA hw,pt_at memA hw⟩) ?_
     refine tka 18 ?_
     refine t0 ?_
     repeat' first|refine lda (cs:=rrow q (n3,d3)) ?_|refine srz ?_ (hj:=Nat.le_of_ble_eq_true rfl)|refine sq ?_|refine rg ?_|refine xc ?_|refine nl ?_|refine rt ?_
     exact rca1 (b:=c7) (cs:=rrow q (n3,d3)) (vs:=rrow q (n3,d3)) (T:=TRt) ⟨⟨a0',h0',i0',a1',h1',i1'⟩,n3,d3,rfl,hn3,hd3,⟨q1,r1',q2,r2',q4,r4',o7,o8⟩,rfl⟩
    ·refine al fun c12=>?_
     refine nl ?_
     refine te (fun w' hw=>⟨pt_at memA hw,pt_at memA hw,pt_at memA hw,pt_at memA hw⟩) ?_
     refine t1 12 ?_
     refine ca (hMul _ n1 d1 (h0'.getD so nS2).1 (h0'.getD so nS2).2 (h1'.getD (many - so) nS2).1 (h1'.getD (many - so) nS2).2) ?_ (hp:=has1 (has_oww memA) (has1 hasA (has1 hasA (has1 (by rw [← hpe i0' q3];exact (hpg h0' i0' q2 q3 _ memA).1) (has1 (by rw [← hpe i0' q3];exact (hpg h0' i0' q2 q3 _ memA).2) (has1 (by rw [← hle i1' r3'];exact (hlg h1' i1' r2' r3' _ memA).1) (has1 (by rw [← hle i1' r3'];exact (hlg h1' i1' r2' r3' _ memA).2) has0)))))))
     rintro _ _ ⟨n3,d3,rfl,hn3,hd3,rfl⟩
     refine nl ?_
     refine te (fun w' hw=>⟨pt_at memA hw,pt_at memA hw,pt_at memA hw,pt_at memA hw⟩) ?_
     refine tka 13 ?_
     refine tka 14 ?_
     refine tka 15 ?_
     refine t1 17 ?_
     refine srz ?_
     refine nl ?_
     refine te (fun w' hw=>⟨pt_at memA hw,pt_at memA hw,pt_at memA hw,pt_at memA hw⟩) ?_
     refine tka 18 ?_
     refine t0 ?_
     repeat' first|refine lda (cs:=rrow q (n3,d3)) ?_|refine srz ?_ (hj:=Nat.le_of_ble_eq_true rfl)|refine sq ?_|refine rg ?_|refine xc ?_|refine nl ?_|refine rt ?_
     exact rca1 (b:=c7) (cs:=rrow q (n3,d3)) (vs:=rrow q (n3,d3)) (T:=TRt) ⟨⟨a0',h0',i0',a1',h1',i1'⟩,n3,d3,rfl,hn3,hd3,⟨q1,r1',q2,r2',q4,r4',o7,o8⟩,rfl⟩
   ·refine al fun c12=>?_
    refine nl ?_
    refine te (fun w' hw=>⟨pt_at memA hw,pt_at memA hw,pt_at memA hw,pt_at memA hw⟩) ?_
    refine t1 11 ?_
    refine slws (sz:=3) (xs:=rrow qc (n1,d1) ++ rrow (p ^ so) (h0'.getD so nS2) ++ rrow ((1 - p) ^ (many - so)) (h1'.getD (many - so) nS2)) fun g2=>?_
    refine nl ?_
    refine te (fun w' hw=>⟨pt_at memA hw,pt_at memA hw,pt_at memA hw,pt_at memA hw⟩) ?_
    refine t1 12 ?_
    refine ca (hMul _ n1 d1 (h0'.getD so nS2).1 (h0'.getD so nS2).2 (h1'.getD (many - so) nS2).1 (h1'.getD (many - so) nS2).2) ?_ (hp:=has1 (has_oww memA) (has1 hasA (has1 hasA (has1 (by rw [← hpe i0' q3];exact (hpg h0' i0' q2 q3 _ memA).1) (has1 (by rw [← hpe i0' q3];exact (hpg h0' i0' q2 q3 _ memA).2) (has1 (by rw [← hle i1' r3'];exact (hlg h1' i1' r2' r3' _ memA).1) (has1 (by rw [← hle i1' r3'];exact (hlg h1' i1' r2' r3' _ memA).2) has0)))))))
    rintro _ _ ⟨n3,d3,rfl,hn3,hd3,rfl⟩
    refine nl ?_
    refine te (fun w' hw=>⟨pt_at memA hw,pt_at memA hw,pt_at memA hw,pt_at memA hw⟩) ?_
    refine tka 13 ?_
    refine tka 14 ?_
    refine tka 15 ?_
    refine t1 17 ?_
    refine srz ?_
    refine nl ?_
    refine te (fun w' hw=>⟨pt_at memA hw,pt_at memA hw,pt_at memA hw,pt_at memA hw⟩) ?_
    refine tka 18 ?_
    refine t0 ?_
    repeat' first|refine lda (cs:=rrow q (n3,d3)) ?_|refine srz ?_ (hj:=Nat.le_of_ble_eq_true rfl)|refine sq ?_|refine rg ?_|refine xc ?_|refine nl ?_|refine rt ?_
    exact rca1 (b:=c7) (cs:=rrow q (n3,d3)) (vs:=rrow q (n3,d3)) (T:=TRt) ⟨⟨a0',h0',i0',a1',h1',i1'⟩,n3,d3,rfl,hn3,hd3,⟨q1,r1',q2,r2',q4,r4',o7,o8⟩,rfl⟩
  ·refine al fun c12=>?_
   refine nl ?_
   refine te (fun w' hw=>⟨pt_at memA hw,pt_at memA hw,pt_at memA hw,pt_at memA hw⟩) ?_
   refine t1 10 ?_
   refine cav (cap:=#[ptr c.pw]) (vs:=[I ((1:Nat):Int),I ((many - so:Nat):Int),rv (1 - p) c.l1 c.l2]) (hP1 a0') ?_
   rintro _ _ ⟨i1',a1',h1',rfl,r1',r2',r3',r4',rfl⟩
   refine nl ?_
   refine te (fun w' hw=>⟨pt_at memA hw,pt_at memA hw,pt_at memA hw,pt_at memA hw⟩) ?_
   refine t1 11 ?_
   refine slws (sz:=3) (xs:=rrow qc (n1,d1) ++ rrow (p ^ so) (h0'.getD so nS2) ++ rrow ((1 - p) ^ (many - so)) (h1'.getD (many - so) nS2)) fun g2=>?_
   refine nl ?_
   refine te (fun w' hw=>⟨pt_at memA hw,pt_at memA hw,pt_at memA hw,pt_at memA hw⟩) ?_
   refine t1 12 ?_
   refine ca (hMul _ n1 d1 (h0'.getD so nS2).1 (h0'.getD so nS2).2 (h1'.getD (many - so) nS2).1 (h1'.getD (many - so) nS2).2) ?_ (hp:=has1 (has_oww memA) (has1 hasA (has1 hasA (has1 (by rw [← hpe i0' q3];exact (hpg h0' i0' q2 q3 _ memA).1) (has1 (by rw [← hpe i0' q3];exact (hpg h0' i0' q2 q3 _ memA).2) (has1 (by rw [← hle i1' r3'];exact (hlg h1' i1' r2' r3' _ memA).1) (has1 (by rw [← hle i1' r3'];exact (hlg h1' i1' r2' r3' _ memA).2) has0)))))))
   rintro _ _ ⟨n3,d3,rfl,hn3,hd3,rfl⟩
   refine nl ?_
   refine te (fun w' hw=>⟨pt_at memA hw,pt_at memA hw,pt_at memA hw,pt_at memA hw⟩) ?_
   refine tka 13 ?_
   refine tka 14 ?_
   refine tka 15 ?_
   refine t1 17 ?_
   refine srz ?_
   refine nl ?_
   refine te (fun w' hw=>⟨pt_at memA hw,pt_at memA hw,pt_at memA hw,pt_at memA hw⟩) ?_
   refine tka 18 ?_
   refine t0 ?_
   repeat' first|refine lda (cs:=rrow q (n3,d3)) ?_|refine srz ?_ (hj:=Nat.le_of_ble_eq_true rfl)|refine sq ?_|refine rg ?_|refine xc ?_|refine nl ?_|refine rt ?_
   exact rca1 (b:=c7) (cs:=rrow q (n3,d3)) (vs:=rrow q (n3,d3)) (T:=TRt) ⟨⟨a0',h0',i0',a1',h1',i1'⟩,n3,d3,rfl,hn3,hd3,⟨q1,r1',q2,r2',q4,r4',o7,o8⟩,rfl⟩
 ·refine al fun c12=>?_
  refine nl ?_
  refine te (fun w' hw=>⟨pt_at memA hw,pt_at memA hw,pt_at memA hw,pt_at memA hw⟩) ?_
  refine t1 4 ?_
  refine cav (cap:=#[ptr c.pw]) (vs:=[I ((0:Nat):Int),I so,rv p v1 v2]) (hP0 g.a1) ?_
  rintro _ _ ⟨i0',a0',h0',rfl,q1,q2,q3,q4,rfl⟩
  refine nl ?_
  refine te (fun w' hw=>⟨pt_at memA hw,pt_at memA hw,pt_at memA hw,pt_at memA hw⟩) ?_
  refine t1 10 ?_
  refine cav (cap:=#[ptr c.pw]) (vs:=[I ((1:Nat):Int),I ((many - so:Nat):Int),rv (1 - p) c.l1 c.l2]) (hP1 a0') ?_
  rintro _ _ ⟨i1',a1',h1',rfl,r1',r2',r3',r4',rfl⟩
  refine nl ?_
  refine te (fun w' hw=>⟨pt_at memA hw,pt_at memA hw,pt_at memA hw,pt_at memA hw⟩) ?_
  refine t1 11 ?_
  refine slws (sz:=3) (xs:=rrow qc (n1,d1) ++ rrow (p ^ so) (h0'.getD so nS2) ++ rrow ((1 - p) ^ (many - so)) (h1'.getD (many - so) nS2)) fun g2=>?_
  refine nl ?_
  refine te (fun w' hw=>⟨pt_at memA hw,pt_at memA hw,pt_at memA hw,pt_at memA hw⟩) ?_
  refine t1 12 ?_
  refine ca (hMul _ n1 d1 (h0'.getD so nS2).1 (h0'.getD so nS2).2 (h1'.getD (many - so) nS2).1 (h1'.getD (many - so) nS2).2) ?_ (hp:=has1 (has_oww memA) (has1 hasA (has1 hasA (has1 (by rw [← hpe i0' q3];exact (hpg h0' i0' q2 q3 _ memA).1) (has1 (by rw [← hpe i0' q3];exact (hpg h0' i0' q2 q3 _ memA).2) (has1 (by rw [← hle i1' r3'];exact (hlg h1' i1' r2' r3' _ memA).1) (has1 (by rw [← hle i1' r3'];exact (hlg h1' i1' r2' r3' _ memA).2) has0)))))))
  rintro _ _ ⟨n3,d3,rfl,hn3,hd3,rfl⟩
  refine nl ?_
  refine te (fun w' hw=>⟨pt_at memA hw,pt_at memA hw,pt_at memA hw,pt_at memA hw⟩) ?_
  refine tka 13 ?_
  refine tka 14 ?_
  refine tka 15 ?_
  refine t1 17 ?_
  refine srz ?_
  refine nl ?_
  refine te (fun w' hw=>⟨pt_at memA hw,pt_at memA hw,pt_at memA hw,pt_at memA hw⟩) ?_
  refine tka 18 ?_
  refine t0 ?_
  repeat' first|refine lda (cs:=rrow q (n3,d3)) ?_|refine srz ?_ (hj:=Nat.le_of_ble_eq_true rfl)|refine sq ?_|refine rg ?_|refine xc ?_|refine nl ?_|refine rt ?_
  exact rca1 (b:=c7) (cs:=rrow q (n3,d3)) (vs:=rrow q (n3,d3)) (T:=TRt) ⟨⟨a0',h0',i0',a1',h1',i1'⟩,n3,d3,rfl,hn3,hd3,⟨q1,r1',q2,r2',q4,r4',o7,o8⟩,rfl⟩
theorem share_tr (c:ShC) (p:Rat) (v:HV) (g:ShG) (hv1:v.1.oneCell' = true) (hv2:v.2.oneCell' = true) (ho:ShOk c g) (hB:PwB p) (many so:Nat) (hm:many ≤ 12) (hs:so ≤ many) :
  Tr Tryz.prog 215 [I many,I so,ptr c.bq,ptr c.bp,ptr c.bl] [vw v.1 (Us (dg p.num.natAbs)),vw v.2 (Us (dg p.den))] [shB c p v g] fun u D=>∃ g' vn vd,u = rv (shar p many so) vn vd∧vn.oneCell' = true∧vd.oneCell' = true∧ShOk c g'∧D = [own T64 vn (Us (dg (shar p many so).num.natAbs)),own T64 vd (Us (dg (shar p many so).den)),shB c p v g']:=by
 refine (TrB (share0_tr c p v g hv1 hv2 ho hB many so hm hs)).post ?_
 rintro u D ⟨D',⟨g',vn,vd,hu,h1,h2,h3,rfl⟩,rfl⟩
 refine ⟨_,⟨g',vn,vd,hu,h1,h2,h3,rfl⟩,?_,nb1 (nb1 (nb1 nb0))⟩
 have e1:=un_bnd (own T64 vn (Us (dg (shar p many so).num.natAbs)) :: own T64 vd (Us (dg (shar p many so).den)) :: shP c p v g') []
 rw [List.append_nil] at e1
 refine e1.trans (Im.cons _ (Im.cons _ ?_))
 have e2:=im_bnd (shP c p v g') []
 rw [List.append_nil] at e2
 exact e2
end Go.Art
namespace Go.Art
open Go Go.Proofs Go.RowKit
theorem nb1' {c:Ch} (h:∀ b,¬ c.bd b):∀ x ∈ [c],∀ b,¬ x.bd b:=fun x hx=>by rw [List.mem_singleton.1 hx];exact h
theorem one_mk1:mkRat ((1:Nat):Int) 1 = 1:=by rw [chs_mk];rfl
theorem ofr_one (q:Rat) (v1 v2:Value) {A F:List Ch} (hf:Fit A [own T64 v1 (Us (dg q.num.natAbs)),own T64 v2 (Us (dg q.den))] F):Im A (ofr [(v1,v2)] [q] :: F):=by
 refine Im.trans hf ?_
 show Im (own T64 v1 (Us (dg q.num.natAbs)) :: own T64 v2 (Us (dg q.den)) :: F) (ofr [(v1,v2)] [q] :: F)
 refine (Im.cons _ (Im.cons _ (owl_nil (e:=T64) (g:=wU) F))).trans ?_
 have hf2:Fit (own T64 v1 (Us (dg q.num.natAbs)) :: own T64 v2 (Us (dg q.den)) :: ofr [] [] :: F) [own T64 v1 (Us (dg q.num.natAbs)),own T64 v2 (Us (dg q.den)),ofr [] []] F:=by unfold Fit;exact Im.refl _
 exact ofr_snoc (hs:=[]) (qs:=[]) rfl q v1 v2 hf2
structure FiG where
 r:Nat
 es:List (Option HV)
 g:ShG
attribute [local irreducible] Fit pt own ro vw mpc lpt vels rels mow lrc dfr
attribute [local irreducible] lmp lme mit velg relg bnd owl dfrl gow shB
theorem shares_tr (p:Rat) (v:HV) (hv1:v.1.oneCell' = true) (hv2:v.2.oneCell' = true) (hp:FB p 8589934592):Tr Tryz.prog 168 [rv p v.1 v.2] [vw v.1 (Us (dg p.num.natAbs)),vw v.2 (Us (dg p.den))] []
  fun u D=>∃ c g,u = shV c∧ShOk c g∧D = [shB c p v g]:=by
 have hW:=whole_tr 1 (by decide)
 rw [one_mk1] at hW
 have hS:=fun n1 d1 h1 h2=>FSub_tr 1 p n1 d1 v.1 v.2 h1 h2 hv1 hv2 FB_one hp
 unfold FQ at hW
 unfold FQ2 at hS
 obtain ⟨v1,v2⟩:=v
 dsimp only at hv1 hv2 hS
 obtain ⟨o,ho⟩ : ∃ o:Rat,o = 1:=⟨_,rfl⟩
 have hpz:∀ q:Rat,pows q 0 = [o]:=fun q=>by rw [pows_zero,ho]
 obtain ⟨q,hq⟩ : ∃ q:Rat,q = 1 - p:=⟨_,rfl⟩
 have e1:((1:Nat):Int) = 1:=rfl
 rw [e1] at hW
 rw [← ho] at hW
 rw [← ho] at hS hq
 simp only [← hq] at hS
 have hsh:∀ c g,shB c p (v1,v2) g = bnd [pt c.bq [powV c.pw] TPf,pt c.bp (rrow p (v1,v2)) TRt,pt c.bl (rrow q (c.l1,c.l2)) TRt,own T64 c.l1 (Us (dg q.num.natAbs)),own T64 c.l2 (Us (dg q.den)),pt c.pw [g.a0,g.a1] TPw,oww TRt 3 g.a0 (g.i0 + 1) (rcs (pows p g.i0) g.h0),ofr g.h0 (pows p g.i0),oww TRt 3 g.a1 (g.i1 + 1) (rcs (pows q g.i1) g.h1),ofr g.h1 (pows q g.i1)]:=fun c g=>by rw [hq,ho];unfold shB;rfl
 simp only [hsh]
 clear hq hsh hp
 refine Tr.enter env _ Tryz.func168 (by kernel_rfl) rfl Tryz.ntmps168 rfl (by repeat (first | exact has00 | refine has01 ?_)) fun w0=>?_
 repeat' first|refine bx fun c1=>?_|(refine wo ?_;first|refine oa ?_)|refine sq ?_|refine rg ?_|refine xc ?_|refine nl ?_
 refine cutY (ι:=Nat × HV) (fun g=>g.2.1.oneCell' = true∧g.2.2.oneCell' = true) (fun g=>[(1,ptr c1),(3,ptr g.1)]) (fun g=>[pt g.1 (rrow q g.2) TRt,own T64 g.2.1 (Us (dg q.num.natAbs)),own T64 g.2.2 (Us (dg q.den)),pt c1 (rrow p (v1,v2)) TRt,vw v1 (Us (dg p.num.natAbs)),vw v2 (Us (dg p.den))]) ?_ ?_
 ·rintro ⟨c3,l1,l2⟩ ⟨hl1,hl2⟩
  dsimp only at hl1 hl2 ⊢
  repeat' first|(refine gca ?_;first|(refine ca hW ?_;rintro _ _ ⟨n1,d1,rfl,hn1,hd1,rfl⟩))|refine slws (sz:=3) (xs:=rrow o (n1,d1)) (fun g2=>?_)|refine sq ?_|refine rg ?_
  rename_i n0 d0 hn0 hd0 g1
  repeat' first|refine bda (cs:=[.slice (some ⟨g1,0,none⟩) 1 1,.slice (some ⟨g2,0,none⟩) 1 1]) ?_|refine al fun c6=>?_|refine srz ?_|(refine wo ?_;first|refine oa ?_|refine sr ?_)|refine sq ?_|refine rg ?_|refine xc ?_|refine nl ?_|refine rt ?_
  rename_i c5
  refine TX.im (ofr_one o n0 d0 fitA) (TX.im (ofr_one o n1 d1 fitA) ?_)
  exact r1 (D:=[bnd [pt c6 [powV c5] TPf,pt c1 (rrow p (v1,v2)) TRt,pt c3 (rrow q (l1,l2)) TRt,own T64 l1 (Us (dg q.num.natAbs)),own T64 l2 (Us (dg q.den)),pt c5 [.slice (some ⟨g1,0,none⟩) 1 1,.slice (some ⟨g2,0,none⟩) 1 1] TPw,oww TRt 3 (.slice (some ⟨g1,0,none⟩) 1 1) 1 (rrow o (n0,d0)),ofr [(n0,d0)] [o],oww TRt 3 (.slice (some ⟨g2,0,none⟩) 1 1) 1 (rrow o (n1,d1)),ofr [(n1,d1)] [o]]]) ⟨⟨c6,c1,c3,c5,l1,l2⟩,⟨.slice (some ⟨g1,0,none⟩) 1 1,[(n0,d0)],0,.slice (some ⟨g2,0,none⟩) 1 1,[(n1,d1)],0⟩,rfl,⟨rfl,rfl,rfl,rfl,Nat.zero_le _,Nat.zero_le _,hl1,hl2⟩,by dsimp only;rw [hpz,hpz,rcs_one,rcs_one]⟩ (hf:=fit_bnd (C:=[pt c6 [powV c5] TPf,pt c1 (rrow p (v1,v2)) TRt,pt c3 (rrow q (l1,l2)) TRt,own T64 l1 (Us (dg q.num.natAbs)),own T64 l2 (Us (dg q.den)),pt c5 [.slice (some ⟨g1,0,none⟩) 1 1,.slice (some ⟨g2,0,none⟩) 1 1] TPw,oww TRt 3 (.slice (some ⟨g1,0,none⟩) 1 1) 1 (rrow o (n0,d0)),ofr [(n0,d0)] [o],oww TRt 3 (.slice (some ⟨g2,0,none⟩) 1 1) 1 (rrow o (n1,d1)),ofr [(n1,d1)] [o]]) fitA) (nb:=nb1' (bnd_nob (by repeat (first | exact nb0 | refine nb1 ?_))))
 ·intro b' kb
  refine rs (fun w'=>w'.heap[c1]? = some (.cells (rrow p (v1,v2)).toArray TRt (0,0))) ?_ (fun w' hw=>pt_at memA hw)
  refine tk 1 (v:=.agg (rrow p (v1,v2)).toArray) (fun w' h=>R_loadA (E:=env) (vs:=rrow p (v1,v2)) rfl rfl rfl rfl h rfl rfl) ?_
  refine t2 0 6 ?_ ?_
  ·refine ca hW ?_
   rintro _ _ ⟨n1,d1,rfl,hn1,hd1,rfl⟩
   refine nl ?_
   refine te (fun w' hw=>pt_at memA hw) ?_
   refine t2 2 6 ?_ ?_
   ·refine ca (hS n1 d1 hn1 hd1) ?_
    rintro _ _ ⟨l1,l2,rfl,hl1,hl2,rfl⟩
    refine nl ?_
    refine te (fun w' hw=>pt_at memA hw) ?_
    refine tka 3 ?_
    refine tka 4 ?_
    refine tka 5 ?_
    refine t1 6 ?_
    refine al fun c3=>?_
    refine nl ?_
    refine te (fun w' hw=>pt_at memA hw) ?_
    refine t1 7 ?_
    refine srz ?_
    refine nl ?_
    refine te (fun w' hw=>pt_at memA hw) ?_
    refine tka 8 ?_
    refine t0 ?_
    repeat' first|refine xc ?_
    exact kb (c3,l1,l2) ⟨hl1,hl2⟩ _ _ (by (repeat (refine Sub.cons rfl (by first | rfl | go_num) ?_));exact Sub.nil) fitA
   ·refine al fun c3=>?_
    refine nl ?_
    refine te (fun w' hw=>pt_at memA hw) ?_
    refine t1 2 ?_
    refine ca (hS n1 d1 hn1 hd1) ?_
    rintro _ _ ⟨l1,l2,rfl,hl1,hl2,rfl⟩
    refine nl ?_
    refine te (fun w' hw=>pt_at memA hw) ?_
    refine tka 3 ?_
    refine tka 4 ?_
    refine tka 5 ?_
    refine t1 7 ?_
    refine srz ?_
    refine nl ?_
    refine te (fun w' hw=>pt_at memA hw) ?_
    refine tka 8 ?_
    refine t0 ?_
    repeat' first|refine xc ?_
    exact kb (c3,l1,l2) ⟨hl1,hl2⟩ _ _ (by (repeat (refine Sub.cons rfl (by first | rfl | go_num) ?_));exact Sub.nil) fitA
  ·refine al fun c3=>?_
   refine nl ?_
   refine te (fun w' hw=>pt_at memA hw) ?_
   refine t1 0 ?_
   refine ca hW ?_
   rintro _ _ ⟨n1,d1,rfl,hn1,hd1,rfl⟩
   refine nl ?_
   refine te (fun w' hw=>pt_at memA hw) ?_
   refine t1 2 ?_
   refine ca (hS n1 d1 hn1 hd1) ?_
   rintro _ _ ⟨l1,l2,rfl,hl1,hl2,rfl⟩
   refine nl ?_
   refine te (fun w' hw=>pt_at memA hw) ?_
   refine tka 3 ?_
   refine tka 4 ?_
   refine tka 5 ?_
   refine t1 7 ?_
   refine srz ?_
   refine nl ?_
   refine te (fun w' hw=>pt_at memA hw) ?_
   refine tka 8 ?_
   refine t0 ?_
   repeat' first|refine xc ?_
   exact kb (c3,l1,l2) ⟨hl1,hl2⟩ _ _ (by (repeat (refine Sub.cons rfl (by first | rfl | go_num) ?_));exact Sub.nil) fitA
end Go.Art
namespace Go.Art
open Go Go.Proofs Go.RowKit
theorem pow_lt_W {F B j:Nat} (hF:F < 18446744073709551616 ^ B) (hj:j ≤ 13):F ^ j < 18446744073709551616 ^ (B * 13 + 1):=by
 have h1:F ^ j ≤ (18446744073709551616 ^ B) ^ j:=Nat.pow_le_pow_left (Nat.le_of_lt hF) j
 rw [← Nat.pow_mul] at h1
 refine Nat.lt_of_le_of_lt h1 ?_
 refine Nat.pow_lt_pow_right (by decide) ?_
 have:=Nat.mul_le_mul_left B hj
 omega
theorem Ch01.lack {F:Nat} {p:Rat} (h:Ch01 F p):Ch01 F (1 - p):=⟨h.fr.lack h.nz h.le,by have:=h.fr.nonneg;grind,h.nz⟩
theorem Ch01.powFB {F B:Nat} {p:Rat} (h:Ch01 F p) (hF:F < 18446744073709551616 ^ B) (hB:B ≤ 12) {j:Nat} (hj:j ≤ 13):FB (p ^ j) 8589934592:=by
 refine (FB_le1 (B:=B * 13 + 1) (h.fr.pow j) (Nat.ne_of_gt (Nat.pow_pos (Nat.pos_of_ne_zero h.nz))) (pow_leR h.fr.nonneg h.le j) (pow_lt_W hF hj)).le ?_
 omega
theorem PwB_of {F B:Nat} {p:Rat} (h:Ch01 F p) (hF:F < 18446744073709551616 ^ B) (hB:B ≤ 12):PwB p:=by
 refine ⟨fun j hj=>h.powFB hF hB hj,fun j hj=>h.lack.powFB hF hB hj,fun m s hm hs=>?_⟩
 obtain ⟨b,hb,hq⟩:=(h.fr.pow s).le (Nat.ne_of_gt (Nat.pow_pos (Nat.pos_of_ne_zero h.nz))) (pow_leR h.fr.nonneg h.le s)
 rw [hq]
 have e:(chs m s:Rat) * ((b:Rat) / ((F ^ s:Nat):Rat)) = ((chs m s * b:Nat):Rat) / ((F ^ s:Nat):Rat):=by
  rw [Rat.div_def,Rat.div_def];push_cast;grind
 rw [e]
 have h1:=pow_lt_W (j:=s) hF (by omega)
 refine (FB_nat (B:=B * 13 + 2) (Nat.ne_of_gt (Nat.pow_pos (Nat.pos_of_ne_zero h.nz))) ?_ ?_).le (by omega)
 ·have h2:chs m s ≤ 2 ^ 12:=Nat.le_trans (chs_le m s) (Nat.pow_le_pow_right (by decide) hm)
  have h3:chs m s * b ≤ 2 ^ 12 * 18446744073709551616 ^ (B * 13 + 1):=Nat.mul_le_mul h2 (Nat.le_trans hb (Nat.le_of_lt h1))
  refine Nat.lt_of_le_of_lt h3 ?_
  rw [show B * 13 + 2 = B * 13 + 1 + 1 from rfl,Nat.pow_succ 18446744073709551616 (B * 13 + 1),Nat.mul_comm]
  exact Nat.mul_lt_mul_of_pos_left (by decide) (Nat.pow_pos (by decide))
 ·exact Nat.lt_of_lt_of_le h1 (Nat.pow_le_pow_right (by decide) (by omega))
theorem pT_ch {t:List Int} {k:Nat} (hz:solE t k = 0):Ch01 (oneS t k) (pT t k):=p_ch (oneS_pos hz) (tabX_one hz)
theorem fT_ch {t:List Int} {k u:Nat} (hz:solE t k = 0) (h1:1 ≤ u) (hu:u ≤ k):Ch01 (fT t k u).den (fT t k u)∧(fT t k u).den ≤ u * oneS t k:=free_ch (oneS_pos hz) (tabX_one hz) h1 hu
theorem fT_lt {t:List Int} {k u:Nat} (hz:solE t k = 0) (hk:k ≤ 40) (hl:t.length ≤ 12) (h1:1 ≤ u) (hu:u ≤ k):(fT t k u).den < 18446744073709551616 ^ 11:=by
 have h2:=oneS_lt hz hk hl
 have h3:=(fT_ch hz h1 hu).2
 have h4:u * oneS t k ≤ 40 * 18446744073709551616 ^ 10:=Nat.mul_le_mul (by omega) (Nat.le_of_lt h2)
 exact Nat.lt_of_le_of_lt (Nat.le_trans h3 h4) (by decide)
def firP (p:Rat) (n m:Nat):List Rat:=(List.range m).foldl (fun l r=>l.set ((n - r) * (n + 1) + r) (shar p n r)) (List.replicate ((n + 1) * (n + 1)) 0)
theorem firP_succ (p:Rat) (n m:Nat):firP p n (m + 1) = (firP p n m).set ((n - m) * (n + 1) + m) (shar p n m):=by unfold firP;rw [List.range_succ,List.foldl_append];rfl
theorem firP_zero (p:Rat) (n:Nat):firP p n 0 = List.replicate ((n + 1) * (n + 1)) 0:=rfl
attribute [local irreducible] Fit pt own ro vw mpc lpt vels rels mow lrc dfr
attribute [local irreducible] lmp lme mit velg relg bnd owl dfrl gow shB
abbrev gP (n:Nat) (v:Value) (qs:List Rat) (es:List (Option HV)) (z:HV):List Ch:=[oww TRt 3 v ((n + 1) * (n + 1)) (rcs qs (hsE z es)),gow es qs,own T64 z.1 (Us (dg (0:Rat).num.natAbs)),own T64 z.2 (Us (dg (0:Rat).den))]
abbrev GR (n:Nat) (qs:List Rat) (u:Value) (D:List Ch):Prop:=∃ v es z,u = gV n v∧v.oneCell' = true∧(z.1.oneCell' = true∧z.2.oneCell' = true)∧Grd n es qs∧D = gP n v qs es z
theorem first_tr (tv:Value) (htv:tv.oneCell' = true) (t:List Int) (k n:Nat) (hz:solE t k = 0) (hk:k ≤ 40) (hl:t.length ≤ 12) (hn:n ≤ 12):Tr Tryz.prog 106 [tv,I k,I n] [vw tv (Is t)] [] (GR n (lvT t k n 0)):=by
 have hk1:=(solE_zero hz).1
 have hW:=whole_tr 0 (by decide)
 rw [zero_mk] at hW
 have hM:=fun z1 z2 h1 h2=>made_tr n _ 0 z1 z2 h1 h2 rfl hn
 have hI:=In_tr tv htv t k k 1 hz hk hl (Nat.le_refl k) (by omega)
 have hpB:=PwB_of (pT_ch hz) (oneS_lt hz hk hl) (by decide)
 have hpF:FB (pT t k) 8589934592:=(evI_FB hz hk hl (Nat.le_refl k) (Nat.le_refl _)).le (by decide)
 have hSh:=fun v1 v2 h1 h2=>shares_tr (pT t k) (v1,v2) h1 h2 hpF
 rw [show lvT t k n 0 = firP (pT t k) n (n + 1) from rfl]
 unfold FQ2 at hI
 unfold FQ at hW
 dsimp only at hSh
 have hI2:evI t.length k (omg t k) k 1 = pT t k:=rfl
 rw [hI2] at hI
 clear hI2 hz hpF
 generalize pT t k = p at *
 obtain ⟨N,hN⟩ : ∃ N,N = (n + 1) * (n + 1):=⟨_,rfl⟩
 obtain ⟨o,ho⟩ : ∃ o:Rat,o = 0:=⟨_,rfl⟩
 have hN1:=hN
 rw [← ho] at hW hM
 have e0:((0:Nat):Int) = 0:=rfl
 have e1:((1:Nat):Int) = 1:=rfl
 rw [e0] at hW
 rw [e1] at hI
 have hNi:∀ i r,i ≤ n→r ≤ n→i * (n + 1) + r < N:=fun i r h1 h2=>by rw [hN];exact place_lt h1 h2
 refine Tr.enter env _ Tryz.func106 (by kernel_rfl) rfl Tryz.ntmps106 rfl (by repeat (first | exact has00 | refine has01 ?_)) fun w0=>?_
 repeat' first|(refine gca ?_;first|(refine ca hW ?_;rintro _ _ ⟨z1,z2,rfl,hz1,hz2,rfl⟩)|(refine ca (hM z1 z2 hz1 hz2) ?_;rintro _ _ ⟨v,rfl,hv,rfl⟩)|(refine ca hI ?_;rintro _ _ ⟨p1,p2,rfl,hp1,hp2,rfl⟩)|(refine ca (hSh p1 p2 hp1 hp2) ?_;rintro _ _ ⟨c,g,rfl,hg,rfl⟩))|refine al fun c7=>?_|refine srz ?_|refine lda ?_|(refine wo ?_;first|(refine ao ?_;first|refine aw ?_)|refine oa ?_)|refine sq ?_|refine rg ?_|refine xc ?_|refine nl ?_|refine bk ?_
 rename_i c6 c7g
 subst ho
 refine TC.im (gow_none _ ((n + 1) * (n + 1)) (List.replicate ((n + 1) * (n + 1)) 0)) ?_
 rw [← firP_zero p n,← hsE_none (z1,z2)]
 refine TC.loop (ι:=FiG) (fun g=>[(26,I g.r)]) (fun g=>[oww TRt 3 v ((n + 1) * (n + 1)) (rcs (firP p n g.r) (hsE (z1,z2) g.es)),gow g.es (firP p n g.r),shB c p (p1,p2) g.g]) (fun g=>g.r ≤ n + 1∧Grd n g.es (firP p n g.r)∧ShOk c g.g) (fun g=>n + 1 - g.r) ⟨0,List.replicate ((n + 1) * (n + 1)) none,g⟩ [2,6,7,10,25] ⟨Nat.zero_le _,Grd.none n,hg⟩ ?_
 rintro ⟨r,es,g⟩ ⟨hr,hgr,hg⟩
 dsimp only at hr hgr hg ⊢
 by_cases hlt:r < n + 1
 ·have hS:=share_tr c p (p1,p2) g hp1 hp2 hg hpB n r hn (by omega)
  have hA:=fun xs=>gat_tr n v xs (n - r) r hv hn (by omega) (by omega)
  have hj:=hNi (n - r) r (by omega) (by omega)
  have hset:=rcs_setE (z:=(z1,z2)) hgr (i:=(n - r) * (n + 1) + r) (by rw [← hN];exact hj) (shar p n r)
  have hgo:=fun v1 v2=>hgr.set (i:=(n - r) * (n + 1) + r) (by rw [← hN];exact hj) (shar p n r) (v1,v2)
  have hsu:=firP_succ p n r
  rw [← hsu] at hgo
  simp only [← hsu] at hset
  have hel:=hgr.el
  have hql:=hgr.ql
  clear hpB hM hI hW hSh hNi
  obtain ⟨j,hjj⟩ : ∃ j,j = (n - r) * (n + 1) + r:=⟨_,rfl⟩
  rw [← hN] at hel hql
  rw [← hjj] at hA hj hset hgo hsu
  have hnr:(n:Int) - r = ((n - r:Nat):Int):=by omega
  clear hjj
  rw [← hN]
  rw [← hN] at hA
  generalize shar p n r = q at *
  generalize firP p n r = F at *
  obtain ⟨F2,hF2⟩ : ∃ F2,F2 = firP p n (r + 1):=⟨_,rfl⟩
  rw [← hF2] at hgo hsu
  simp only [← hF2] at hset
  repeat' first|(refine gca ?_;first|(refine ca (hA _) ?_ (hp:=has1 (has_oww memA) has0);rintro _ _ ⟨rfl,rfl⟩))|refine lda (cs:=[I n,v]) ?_|(refine aw (m:=(n:Int) - r) ?_;rw [hnr])|(refine cav (cap:=#[ptr c.bq,ptr c.bp,ptr c.bl]) (vs:=[I n,I r]) hS ?_;rintro _ _ ⟨g',vn,vd,rfl,hvn,hvd,hg',rfl⟩)|refine sow (sz:=3) (m:=3 * j) (N:=N) (xs:=rcs F (hsE (z1,z2) es)) (vs:=rrow q (vn,vd)) (by omega) ?_ (h1:=one_cons rfl (one_cons hvn (one_cons hvd one_nil)))|(refine wo ?_;first|(refine ao ?_;first|refine aw ?_|refine oa ?_)|refine oa ?_)|(refine gc ?_;first|(refine ci (fun hB=>?_) (fun hB=>?_) <;> try (exfalso;omega)))|refine sq ?_|refine rg ?_|refine xc ?_|refine nl ?_|refine sk ?_|refine bk ?_|refine xb ?_
  refine TX.im (gow_set (es:=es) (qs:=F) (by rw [hel,hql]) (i:=j) (by rw [hql];exact hj) q vn vd fitA) ?_
  rw [hset,← hsu]
  exact lp ⟨r + 1,es.set j (some (vn,vd)),g'⟩ ⟨hlt,by dsimp only;rw [← hF2];exact hgo vn vd,hg'⟩ (hf:=by dsimp only;rw [← hF2];exact fitA)
 ·obtain rfl:r = n + 1:=by omega
  repeat' first|refine lda (cs:=[I n,v]) ?_|refine srz ?_|(refine wo ?_;first|(refine ao ?_;first|refine oa ?_))|(refine gc ?_;first|(refine ci (fun hB=>?_) (fun hB=>?_) <;> try (exfalso;omega)))|refine sq ?_|refine rg ?_|refine xc ?_|refine nl ?_|refine xe ?_|refine rt ?_
  exact rca1 (b:=c6) (cs:=[I n,v]) (vs:=[I n,v]) (T:=TGr) ⟨v,es,(z1,z2),rfl,hv,⟨hz1,hz2⟩,hgr,rfl⟩
end Go.Art
namespace Go.Art
open Go Go.Proofs Go.RowKit
theorem mul_le1 {q r:Rat} (hq:0 ≤ q) (h1:q ≤ 1) (h3:r ≤ 1):q * r ≤ 1:=by
 have:=Rat.mul_le_mul_of_nonneg_left h3 hq
 rw [Rat.mul_one] at this
 exact Rat.le_trans this h1
structure NxF (n B:Nat) (f g:Rat) (x:List Rat) (i a b:Nat):Prop where
 cr:i / (n + 1) + i % (n + 1) ≤ n
 y:FB (x.getD i 0) B
 sf:FB (shar f (i / (n + 1)) a) B
 sg:FB (shar g (i % (n + 1) - 1) b) B
 ys:FB (x.getD i 0 * shar f (i / (n + 1)) a) B
 p:FB (x.getD i 0 * shar f (i / (n + 1)) a * shar g (i % (n + 1) - 1) b) B
 o:∀ j,j < (n + 1) * (n + 1)→FB ((outB n f g (x.getD i 0) (i / (n + 1)) (i % (n + 1)) a (outA n f g (x.getD i 0) (i / (n + 1)) (i % (n + 1)) (outN n f g x i) a) b).getD j 0) B
theorem nx_facts {n E F u B:Nat} {f:Rat} {x:List Rat} (hf:Ch01 F f) (hg:Ch01 u (1 / (u:Rat))) (hs:Supp n x) (hx:Lv n E x) (ht:tot n x ≤ 1) (hE:E ≠ 0) (hB:E * (F ^ n * u ^ n) < 18446744073709551616 ^ B)
  {i:Nat} (hi:i < (n + 1) * (n + 1)) (h:¬ (i % (n + 1) = 0∨x.getD i 0 = 0)) {a:Nat} (ha:a ≤ i / (n + 1)) (h2:¬ shar f (i / (n + 1)) a = 0) {b:Nat} (hb:b < i % (n + 1)):NxF n B f (1 / (u:Rat)) x i a b:=by
 have hcr:i / (n + 1) + i % (n + 1) ≤ n:=by
  rcases Nat.lt_or_ge n (i / (n + 1) + i % (n + 1)) with h1 | h1
  ·exact absurd (.inr (hs.z i hi h1)) h
  ·exact h1
 have hF0:F ^ n ≠ 0:=Nat.ne_of_gt (Nat.pow_pos (Nat.pos_of_ne_zero hf.nz))
 have hu0:u ^ n ≠ 0:=Nat.ne_of_gt (Nat.pow_pos (Nat.pos_of_ne_zero hg.nz))
 have hFu:=Nat.mul_ne_zero hF0 hu0
 have hE0:=Nat.mul_ne_zero hE hFu
 have le1:E ≤ E * (F ^ n * u ^ n):=Nat.le_mul_of_pos_right _ (Nat.pos_of_ne_zero hFu)
 have le2:F ^ n ≤ E * (F ^ n * u ^ n):=Nat.le_trans (Nat.le_mul_of_pos_right _ (Nat.pos_of_ne_zero hu0)) (Nat.le_mul_of_pos_left _ (Nat.pos_of_ne_zero hE))
 have le3:u ^ n ≤ E * (F ^ n * u ^ n):=Nat.le_trans (Nat.le_mul_of_pos_left _ (Nat.pos_of_ne_zero hF0)) (Nat.le_mul_of_pos_left _ (Nat.pos_of_ne_zero hE))
 have le4:E * F ^ n ≤ E * (F ^ n * u ^ n):=Nat.mul_le_mul_left E (Nat.le_mul_of_pos_right _ (Nat.pos_of_ne_zero hu0))
 have y0:=hx.fr i hi
 have y1:x.getD i 0 ≤ 1:=Rat.le_trans (hx.le_tot hi) ht
 have f0:=shar_fr (n:=n) hf ha (by omega)
 have f1:=shar_le hf ha
 have g0:=shar_fr (n:=n) (m:=i % (n + 1) - 1) (s:=b) hg (by omega) (by omega)
 have g1:=shar_le (m:=i % (n + 1) - 1) (s:=b) hg (by omega)
 have m1:=mul_le1 y0.nonneg y1 f1
 have m2:=mul_le1 (y0.mul f0).nonneg m1 g1
 have p0:=(y0.mul f0).mul g0
 rw [Nat.mul_assoc] at p0
 refine ⟨hcr,FB_le1 y0 hE y1 (by omega),FB_le1 f0 hF0 f1 (by omega),FB_le1 g0 hu0 g1 (by omega),FB_le1 (y0.mul f0) (Nat.mul_ne_zero hE hF0) m1 (by omega),FB_le1 p0 hE0 m2 hB,fun j hj=>?_⟩
 obtain ⟨k1,k2⟩:=out_okB hf hg hs hx ht hi h ha h2 (b:=b) (by omega)
 exact FB_le1 (k1.fr j hj) hE0 (Rat.le_trans (k1.le_tot hj) k2) hB
theorem y_FB {n E B:Nat} {x:List Rat} (hx:Lv n E x) (ht:tot n x ≤ 1) (hE:E ≠ 0) (hB:E < 18446744073709551616 ^ B) {i:Nat} (hi:i < (n + 1) * (n + 1)):FB (x.getD i 0) B:=FB_le1 (hx.fr i hi) hE (Rat.le_trans (hx.le_tot hi) ht) hB
theorem s_FB {n E F u B:Nat} {f:Rat} {x:List Rat} (hf:Ch01 F f) (hu:u ≠ 0) (hs:Supp n x) (hE:E ≠ 0) (hB:E * (F ^ n * u ^ n) < 18446744073709551616 ^ B) {i:Nat} (hi:i < (n + 1) * (n + 1)) (h:¬ (i % (n + 1) = 0∨x.getD i 0 = 0)) {a:Nat} (ha:a ≤ i / (n + 1)):i / (n + 1) + i % (n + 1) ≤ n∧FB (shar f (i / (n + 1)) a) B:=by
 have hcr:i / (n + 1) + i % (n + 1) ≤ n:=by
  rcases Nat.lt_or_ge n (i / (n + 1) + i % (n + 1)) with h1 | h1
  ·exact absurd (.inr (hs.z i hi h1)) h
  ·exact h1
 have hF0:F ^ n ≠ 0:=Nat.ne_of_gt (Nat.pow_pos (Nat.pos_of_ne_zero hf.nz))
 have hu0:u ^ n ≠ 0:=Nat.ne_of_gt (Nat.pow_pos (Nat.pos_of_ne_zero hu))
 have le2:F ^ n ≤ E * (F ^ n * u ^ n):=Nat.le_trans (Nat.le_mul_of_pos_right _ (Nat.pos_of_ne_zero hu0)) (Nat.le_mul_of_pos_left _ (Nat.pos_of_ne_zero hE))
 exact ⟨hcr,FB_le1 (shar_fr (n:=n) hf ha (by omega)) hF0 (shar_le hf ha) (by omega)⟩
open Go Go.Proofs Go.RowKit
structure NxS where
 i:Nat
 es:List (Option HV)
 gf:ShG
 gg:ShG
structure NxB where
 b:Nat
 es:List (Option HV)
 gg:ShG
structure NxC where
 v:Value
 z:HV
 c9:Nat
structure NxD where
 c14:Nat
 c15:Nat
 cf:ShC
 cg:ShC
 gf:ShG
 gg:ShG
section
variable {P:Program} {E:Env P} {n:Sh} {X:Cx} {s:List K} {fr:Fr} {A:List Ch} {ops:Array Oper} {S:World→Prop} {fuel:Nat} {listed:Array Bool}
theorem krw (i:Nat) (c:Int) {m:Int} {d:Nat} {o:Op} {ty:TypeId} {pos:String} {after:Array Edge} (k:TS E n X s S ops fuel (listed.setIfInBounds i true) ((d,I c) :: fr) A) (hi:ops[i]? = some ⟨some d,o,ty,pos,after,none⟩:=by rfl) (hv:evOp E fr o = some (.int .i64 (IntKind.i64.wrap m)):=by rfl) (he:m = c:=by first | rfl | assumption | omega) (hb : -9223372036854775808 ≤ m∧m ≤ 9223372036854775807:=by omega) (hs:Region.noSelect ops = true:=by kernel_rfl) (hf:Region.free .any ops listed i = true:=by kernel_rfl)
  (hr:(Region.ready .any ops listed).contains i = true:=by kernel_rfl) (hnd:noDef ops = true:=by kernel_rfl) (hd:Nat.blt d n.n = true:=by rfl) (hab:∀ w ρ,(⟨some d,o,ty,pos,after,none⟩ : Oper).about P w ρ = none:=by exact fun _ _=>rfl):TS E n X s S ops (fuel + 1) listed fr A:=
 kr i (fun _ _=>by subst he;exact R_wrap (R_auto hv) hb) k hi hs hf hr hnd hd hab
end
structure NxM where
 c23:Nat
 m1:Value
 m2:Value
 gg:ShG
theorem inv_mk (u:Nat):mkRat ((1:Nat):Int) u = 1 / (u:Rat):=by rw [Rat.mkRat_eq_div];rfl
attribute [local irreducible] Fit pt own ro vw mpc lpt vels rels mow lrc dfr
attribute [local irreducible] lmp lme mit velg relg bnd owl dfrl gow shB
abbrev TSh:TypeId:=191
abbrev TPl:TypeId:=85
set_option maxHeartbeats 1000000 in
theorem nxt_tr (tv gv:Value) (htv:tv.oneCell' = true) (hgv:gv.oneCell' = true) (t:List Int) (k u n E B:Nat) (xs:List Rat) (hs:List HV) (hz:solE t k = 0) (hk:k ≤ 40) (hl:t.length ≤ 12) (hn:n ≤ 12) (hu1:1 ≤ u) (hu:u ≤ k)
  (hlen:hs.length = xs.length) (hsu:Supp n xs) (hlv:Lv n E xs) (htot:tot n xs ≤ 1) (hE:E ≠ 0) (hBd:E * ((fT t k u).den ^ n * u ^ n) < 18446744073709551616 ^ B) (hB0:B ≤ 8589934592) :
  Tr Tryz.prog 107 [gV n gv,tv,I k,I u] [vw tv (Is t),vwf gv ((n + 1) * (n + 1)) (rcs xs hs),vfr hs xs] [] (GR n (nextR (fT t k u) (1 / (u:Rat)) n xs)):=by
 have hf:=(fT_ch hz hu1 hu).1
 have hg:=one_over (u:=u) (by omega)
 have hEB:E < 18446744073709551616 ^ B:=Nat.lt_of_le_of_lt (Nat.le_mul_of_pos_right _ (Nat.pos_of_ne_zero (Nat.mul_ne_zero (Nat.ne_of_gt (Nat.pow_pos (Nat.pos_of_ne_zero hf.nz))) (Nat.ne_of_gt (Nat.pow_pos (by omega)))))) hBd
 have hnx:=fun i a b h1 h2 h3 h4 h5=>nx_facts (i:=i) (a:=a) (b:=b) hf hg hsu hlv htot hE hBd h1 h2 h3 h4 h5
 have hyF:=fun i hi=>(y_FB (i:=i) hlv htot hE hEB hi).le hB0
 have hsF:=fun i a hi h ha=>s_FB (i:=i) (a:=a) hf (show u ≠ 0 by omega) hsu hE hBd hi h ha
 have hpf:=PwB_of hf (fT_lt hz hk hl hu1 hu) (by decide)
 have hpg:=PwB_of (B:=1) hg (by have:=(solE_zero hz).1;omega) (by decide)
 have hFf:FB (fT t k u) 8589934592:=by have:=hpf.hp 1 (by decide);rwa [show fT t k u ^ 1 = fT t k u by rw [Rat.pow_succ,Rat.pow_zero,Rat.one_mul]] at this
 have hFg:FB (1 / (u:Rat)) 8589934592:=by have:=hpg.hp 1 (by decide);rwa [show (1 / (u:Rat)) ^ 1 = 1 / (u:Rat) by rw [Rat.pow_succ,Rat.pow_zero,Rat.one_mul]] at this
 have hFree:=Free_tr tv htv t k u hz hk hl hu1 hu
 have hPair:=FPair_tr 1 u (by decide) (by omega) (by omega)
 rw [inv_mk] at hPair
 have hW:=whole_tr 0 (by decide)
 rw [zero_mk] at hW
 have hM:=fun z1 z2 h1 h2=>made_tr n _ 0 z1 z2 h1 h2 rfl hn
 have hSf:=fun v1 v2 h1 h2=>shares_tr (fT t k u) (v1,v2) h1 h2 hFf
 have hSg:=fun v1 v2 h1 h2=>shares_tr (1 / (u:Rat)) (v1,v2) h1 h2 hFg
 have hql:xs.length = (n + 1) * (n + 1):=hlv.len
 have hPl:=places_tr n gv hgv
 unfold FQ2 at hFree hPair
 unfold FQ at hW
 dsimp only at hSf hSg
 have e0:((0:Nat):Int) = 0:=rfl
 have e1:((1:Nat):Int) = 1:=rfl
 rw [e0] at hW
 rw [e1] at hPair
 clear hz hsu htot hBd hEB hf hg hFf hFg hE hlv
 generalize fT t k u = f at *
 generalize 1 / (u:Rat) = g at *
 obtain ⟨o,ho⟩ : ∃ o:Rat,o = 0:=⟨_,rfl⟩
 rw [← ho] at hW hM
 refine Tr.enterM env _ Tryz.func107 (by kernel_rfl) rfl Tryz.ntmps107 rfl (by repeat (first | exact has00 | refine has01 ?_)) fun w0=>?_
 refine TC.fact (fun w hw i hi=>fr_one (hs:=hs) (qs:=xs) hasA hlen (i:=i) hi w hw) fun hone=>?_
 repeat' first|refine bx fun c4=>?_|refine al fun c8=>?_|refine sq ?_|refine rg ?_|refine xc ?_|refine nl ?_
 refine cutY (ι:=NxC) (fun x=>x.v.oneCell' = true∧x.z.1.oneCell' = true∧x.z.2.oneCell' = true) (fun x=>[(1,tv),(2,I k),(3,I u),(4,ptr c4),(8,ptr c8),(9,ptr x.c9)]) (fun x=>[pt x.c9 [I n,x.v] TGr,oww TRt 3 x.v ((n + 1) * (n + 1)) (rcs (List.replicate ((n + 1) * (n + 1)) o) (List.replicate ((n + 1) * (n + 1)) x.z)),own T64 x.z.1 (Us (dg o.num.natAbs)),own T64 x.z.2 (Us (dg o.den)),pt c8 [I 0,nS] TGr,pt c4 [I n,gv] TGr,vw tv (Is t),vwf gv ((n + 1) * (n + 1)) (rcs xs hs),vfr hs xs]) ?_ ?_
 rotate_left
 ·intro b' kb
  refine rs (fun w'=>w'.heap[c4]? = some (.cells [I n,gv].toArray TGr (0,0))) ?_ (fun w' hw=>pt_at memA hw)
  refine tka 0 ?_
  refine tkl 1 (cs:=[I n,gv]) (fun w' h=>h) ?_
  refine t2 2 4 ?_ ?_
  ·refine ca hW ?_
   rintro _ _ ⟨z1,z2,rfl,hz1,hz2,rfl⟩
   refine nl ?_
   refine te (fun w' hw=>pt_at memA hw) ?_
   refine t2 3 4 ?_ ?_
   ·refine ca (hM z1 z2 hz1 hz2) ?_
    rintro _ _ ⟨v,rfl,hv,rfl⟩
    refine nl ?_
    refine te (fun w' hw=>pt_at memA hw) ?_
    refine t1 4 ?_
    refine al fun c9=>?_
    refine nl ?_
    refine te (fun w' hw=>pt_at memA hw) ?_
    refine t1 5 ?_
    refine srz ?_
    refine nl ?_
    refine te (fun w' hw=>pt_at memA hw) ?_
    refine t0 ?_
    repeat' first|refine xc ?_
    exact kb ⟨v,(z1,z2),c9⟩ ⟨hv,hz1,hz2⟩ _ _ (by (repeat (refine Sub.cons rfl (by first | rfl | go_num) ?_));exact Sub.nil) fitA
   ·refine al fun c9=>?_
    refine nl ?_
    refine te (fun w' hw=>pt_at memA hw) ?_
    refine t1 3 ?_
    refine ca (hM z1 z2 hz1 hz2) ?_
    rintro _ _ ⟨v,rfl,hv,rfl⟩
    refine nl ?_
    refine te (fun w' hw=>pt_at memA hw) ?_
    refine t1 5 ?_
    refine srz ?_
    refine nl ?_
    refine te (fun w' hw=>pt_at memA hw) ?_
    refine t0 ?_
    repeat' first|refine xc ?_
    exact kb ⟨v,(z1,z2),c9⟩ ⟨hv,hz1,hz2⟩ _ _ (by (repeat (refine Sub.cons rfl (by first | rfl | go_num) ?_));exact Sub.nil) fitA
  ·refine al fun c9=>?_
   refine nl ?_
   refine te (fun w' hw=>pt_at memA hw) ?_
   refine t1 2 ?_
   refine ca hW ?_
   rintro _ _ ⟨z1,z2,rfl,hz1,hz2,rfl⟩
   refine nl ?_
   refine te (fun w' hw=>pt_at memA hw) ?_
   refine t1 3 ?_
   refine ca (hM z1 z2 hz1 hz2) ?_
   rintro _ _ ⟨v,rfl,hv,rfl⟩
   refine nl ?_
   refine te (fun w' hw=>pt_at memA hw) ?_
   refine t1 5 ?_
   refine srz ?_
   refine nl ?_
   refine te (fun w' hw=>pt_at memA hw) ?_
   refine t0 ?_
   repeat' first|refine xc ?_
   exact kb ⟨v,(z1,z2),c9⟩ ⟨hv,hz1,hz2⟩ _ _ (by (repeat (refine Sub.cons rfl (by first | rfl | go_num) ?_));exact Sub.nil) fitA
 rintro ⟨v,⟨z1,z2⟩,c9⟩ ⟨hv,hz1,hz2⟩
 dsimp only at hv hz1 hz2 ⊢
 clear hW hM
 repeat' first|(refine gca ?_;first|(refine ca hFree ?_;rintro _ _ ⟨f1,f2,rfl,hf1,hf2,rfl⟩)|(refine ca hPair ?_;rintro _ _ ⟨y1,y2,rfl,hy1,hy2,rfl⟩))|refine al fun c=>?_|refine srz ?_|(refine wo ?_;first|refine oa ?_)|refine sq ?_|refine rg ?_|refine xc ?_|refine nl ?_
 rename_i c10
 refine cutY (ι:=NxD) (fun x=>ShOk x.cf x.gf∧ShOk x.cg x.gg) (fun x=>[(4,ptr c4),(8,ptr c8),(9,ptr c9),(14,ptr x.c14),(15,ptr x.c15)]) (fun x=>[pt x.c14 [shV x.cf] TSh,pt x.c15 [shV x.cg] TSh,shB x.cf f (f1,f2) x.gf,shB x.cg g (y1,y2) x.gg,own T64 f1 (Us (dg f.num.natAbs)),own T64 f2 (Us (dg f.den)),own T64 y1 (Us (dg g.num.natAbs)),own T64 y2 (Us (dg g.den)),pt c9 [I n,v] TGr,oww TRt 3 v ((n + 1) * (n + 1)) (rcs (List.replicate ((n + 1) * (n + 1)) o) (List.replicate ((n + 1) * (n + 1)) (z1,z2))),own T64 z1 (Us (dg o.num.natAbs)),own T64 z2 (Us (dg o.den)),pt c8 [I 0,nS] TGr,pt c4 [I n,gv] TGr,vwf gv ((n + 1) * (n + 1)) (rcs xs hs),vfr hs xs]) ?_ ?_
 rotate_left
 ·intro b' kb
  refine rs (fun w'=>w'.heap[c10]? = some (.cells (rrow f (f1,f2)).toArray TRt (0,0))∧w'.heap[c]? = some (.cells (rrow g (y1,y2)).toArray TRt (0,0))) ?_ (fun w' hw=>⟨pt_at memA hw,pt_at memA hw⟩)
  refine tk 0 (v:=.agg (rrow f (f1,f2)).toArray) (fun w' h=>R_loadA (E:=env) (vs:=rrow f (f1,f2)) rfl rfl rfl rfl h.1 rfl rfl) ?_
  refine tk 2 (v:=.agg (rrow g (y1,y2)).toArray) (fun w' h=>R_loadA (E:=env) (vs:=rrow g (y1,y2)) rfl rfl rfl rfl h.2 rfl rfl) ?_
  refine t3 1 4 5 ?_ ?_ ?_
  ·refine ca (hSf f1 f2 hf1 hf2) ?_
   rintro _ _ ⟨cf,gf,rfl,hgf,rfl⟩
   refine nl ?_
   refine te (fun w' hw=>⟨pt_at memA hw,pt_at memA hw⟩) ?_
   refine t3 3 4 5 ?_ ?_ ?_
   ·refine ca (hSg y1 y2 hy1 hy2) ?_
    rintro _ _ ⟨cg,gg,rfl,hgg,rfl⟩
    refine nl ?_
    refine te (fun w' hw=>⟨pt_at memA hw,pt_at memA hw⟩) ?_
    refine t2 4 5 ?_ ?_
    ·refine al fun c14=>?_
     refine nl ?_
     refine te (fun w' hw=>⟨pt_at memA hw,pt_at memA hw⟩) ?_
     refine t1 5 ?_
     refine al fun c15=>?_
     refine nl ?_
     refine te (fun w' hw=>⟨pt_at memA hw,pt_at memA hw⟩) ?_
     refine t1 6 ?_
     refine sr ?_
     refine nl ?_
     refine te (fun w' hw=>⟨pt_at memA hw,pt_at memA hw⟩) ?_
     refine t1 7 ?_
     refine sr ?_
     refine nl ?_
     refine te (fun w' hw=>⟨pt_at memA hw,pt_at memA hw⟩) ?_
     refine t0 ?_
     repeat' first|refine xc ?_
     exact kb ⟨c14,c15,cf,cg,gf,gg⟩ ⟨hgf,hgg⟩ _ _ (by (repeat (refine Sub.cons rfl (by first | rfl | go_num) ?_));exact Sub.nil) fitA
    ·refine al fun c15=>?_
     refine nl ?_
     refine te (fun w' hw=>⟨pt_at memA hw,pt_at memA hw⟩) ?_
     refine t1 4 ?_
     refine al fun c14=>?_
     refine nl ?_
     refine te (fun w' hw=>⟨pt_at memA hw,pt_at memA hw⟩) ?_
     refine t1 6 ?_
     refine sr ?_
     refine nl ?_
     refine te (fun w' hw=>⟨pt_at memA hw,pt_at memA hw⟩) ?_
     refine t1 7 ?_
     refine sr ?_
     refine nl ?_
     refine te (fun w' hw=>⟨pt_at memA hw,pt_at memA hw⟩) ?_
     refine t0 ?_
     repeat' first|refine xc ?_
     exact kb ⟨c14,c15,cf,cg,gf,gg⟩ ⟨hgf,hgg⟩ _ _ (by (repeat (refine Sub.cons rfl (by first | rfl | go_num) ?_));exact Sub.nil) fitA
   ·refine al fun c14=>?_
    refine nl ?_
    refine te (fun w' hw=>⟨pt_at memA hw,pt_at memA hw⟩) ?_
    refine t2 3 5 ?_ ?_
    ·refine ca (hSg y1 y2 hy1 hy2) ?_
     rintro _ _ ⟨cg,gg,rfl,hgg,rfl⟩
     refine nl ?_
     refine te (fun w' hw=>⟨pt_at memA hw,pt_at memA hw⟩) ?_
     refine t1 5 ?_
     refine al fun c15=>?_
     refine nl ?_
     refine te (fun w' hw=>⟨pt_at memA hw,pt_at memA hw⟩) ?_
     refine t1 6 ?_
     refine sr ?_
     refine nl ?_
     refine te (fun w' hw=>⟨pt_at memA hw,pt_at memA hw⟩) ?_
     refine t1 7 ?_
     refine sr ?_
     refine nl ?_
     refine te (fun w' hw=>⟨pt_at memA hw,pt_at memA hw⟩) ?_
     refine t0 ?_
     repeat' first|refine xc ?_
     exact kb ⟨c14,c15,cf,cg,gf,gg⟩ ⟨hgf,hgg⟩ _ _ (by (repeat (refine Sub.cons rfl (by first | rfl | go_num) ?_));exact Sub.nil) fitA
    ·refine al fun c15=>?_
     refine nl ?_
     refine te (fun w' hw=>⟨pt_at memA hw,pt_at memA hw⟩) ?_
     refine t1 3 ?_
     refine ca (hSg y1 y2 hy1 hy2) ?_
     rintro _ _ ⟨cg,gg,rfl,hgg,rfl⟩
     refine nl ?_
     refine te (fun w' hw=>⟨pt_at memA hw,pt_at memA hw⟩) ?_
     refine t1 6 ?_
     refine sr ?_
     refine nl ?_
     refine te (fun w' hw=>⟨pt_at memA hw,pt_at memA hw⟩) ?_
     refine t1 7 ?_
     refine sr ?_
     refine nl ?_
     refine te (fun w' hw=>⟨pt_at memA hw,pt_at memA hw⟩) ?_
     refine t0 ?_
     repeat' first|refine xc ?_
     exact kb ⟨c14,c15,cf,cg,gf,gg⟩ ⟨hgf,hgg⟩ _ _ (by (repeat (refine Sub.cons rfl (by first | rfl | go_num) ?_));exact Sub.nil) fitA
   ·refine al fun c15=>?_
    refine nl ?_
    refine te (fun w' hw=>⟨pt_at memA hw,pt_at memA hw⟩) ?_
    refine t2 3 4 ?_ ?_
    ·refine ca (hSg y1 y2 hy1 hy2) ?_
     rintro _ _ ⟨cg,gg,rfl,hgg,rfl⟩
     refine nl ?_
     refine te (fun w' hw=>⟨pt_at memA hw,pt_at memA hw⟩) ?_
     refine t1 4 ?_
     refine al fun c14=>?_
     refine nl ?_
     refine te (fun w' hw=>⟨pt_at memA hw,pt_at memA hw⟩) ?_
     refine t1 6 ?_
     refine sr ?_
     refine nl ?_
     refine te (fun w' hw=>⟨pt_at memA hw,pt_at memA hw⟩) ?_
     refine t1 7 ?_
     refine sr ?_
     refine nl ?_
     refine te (fun w' hw=>⟨pt_at memA hw,pt_at memA hw⟩) ?_
     refine t0 ?_
     repeat' first|refine xc ?_
     exact kb ⟨c14,c15,cf,cg,gf,gg⟩ ⟨hgf,hgg⟩ _ _ (by (repeat (refine Sub.cons rfl (by first | rfl | go_num) ?_));exact Sub.nil) fitA
    ·refine al fun c14=>?_
     refine nl ?_
     refine te (fun w' hw=>⟨pt_at memA hw,pt_at memA hw⟩) ?_
     refine t1 3 ?_
     refine ca (hSg y1 y2 hy1 hy2) ?_
     rintro _ _ ⟨cg,gg,rfl,hgg,rfl⟩
     refine nl ?_
     refine te (fun w' hw=>⟨pt_at memA hw,pt_at memA hw⟩) ?_
     refine t1 6 ?_
     refine sr ?_
     refine nl ?_
     refine te (fun w' hw=>⟨pt_at memA hw,pt_at memA hw⟩) ?_
     refine t1 7 ?_
     refine sr ?_
     refine nl ?_
     refine te (fun w' hw=>⟨pt_at memA hw,pt_at memA hw⟩) ?_
     refine t0 ?_
     repeat' first|refine xc ?_
     exact kb ⟨c14,c15,cf,cg,gf,gg⟩ ⟨hgf,hgg⟩ _ _ (by (repeat (refine Sub.cons rfl (by first | rfl | go_num) ?_));exact Sub.nil) fitA
  ·refine al fun c14=>?_
   refine nl ?_
   refine te (fun w' hw=>⟨pt_at memA hw,pt_at memA hw⟩) ?_
   refine t2 1 5 ?_ ?_
   ·refine ca (hSf f1 f2 hf1 hf2) ?_
    rintro _ _ ⟨cf,gf,rfl,hgf,rfl⟩
    refine nl ?_
    refine te (fun w' hw=>⟨pt_at memA hw,pt_at memA hw⟩) ?_
    refine t2 3 5 ?_ ?_
    ·refine ca (hSg y1 y2 hy1 hy2) ?_
     rintro _ _ ⟨cg,gg,rfl,hgg,rfl⟩
     refine nl ?_
     refine te (fun w' hw=>⟨pt_at memA hw,pt_at memA hw⟩) ?_
     refine t1 5 ?_
     refine al fun c15=>?_
     refine nl ?_
     refine te (fun w' hw=>⟨pt_at memA hw,pt_at memA hw⟩) ?_
     refine t1 6 ?_
     refine sr ?_
     refine nl ?_
     refine te (fun w' hw=>⟨pt_at memA hw,pt_at memA hw⟩) ?_
     refine t1 7 ?_
     refine sr ?_
     refine nl ?_
     refine te (fun w' hw=>⟨pt_at memA hw,pt_at memA hw⟩) ?_
     refine t0 ?_
     repeat' first|refine xc ?_
     exact kb ⟨c14,c15,cf,cg,gf,gg⟩ ⟨hgf,hgg⟩ _ _ (by (repeat (refine Sub.cons rfl (by first | rfl | go_num) ?_));exact Sub.nil) fitA
    ·refine al fun c15=>?_
     refine nl ?_
     refine te (fun w' hw=>⟨pt_at memA hw,pt_at memA hw⟩) ?_
     refine t1 3 ?_
     refine ca (hSg y1 y2 hy1 hy2) ?_
     rintro _ _ ⟨cg,gg,rfl,hgg,rfl⟩
     refine nl ?_
     refine te (fun w' hw=>⟨pt_at memA hw,pt_at memA hw⟩) ?_
     refine t1 6 ?_
     refine sr ?_
     refine nl ?_
     refine te (fun w' hw=>⟨pt_at memA hw,pt_at memA hw⟩) ?_
     refine t1 7 ?_
     refine sr ?_
     refine nl ?_
     refine te (fun w' hw=>⟨pt_at memA hw,pt_at memA hw⟩) ?_
     refine t0 ?_
     repeat' first|refine xc ?_
     exact kb ⟨c14,c15,cf,cg,gf,gg⟩ ⟨hgf,hgg⟩ _ _ (by (repeat (refine Sub.cons rfl (by first | rfl | go_num) ?_));exact Sub.nil) fitA
   ·refine al fun c15=>?_
    refine nl ?_
    refine te (fun w' hw=>⟨pt_at memA hw,pt_at memA hw⟩) ?_
    refine t1 1 ?_
    refine ca (hSf f1 f2 hf1 hf2) ?_
    rintro _ _ ⟨cf,gf,rfl,hgf,rfl⟩
    refine nl ?_
    refine te (fun w' hw=>⟨pt_at memA hw,pt_at memA hw⟩) ?_
    refine t1 3 ?_
    refine ca (hSg y1 y2 hy1 hy2) ?_
    rintro _ _ ⟨cg,gg,rfl,hgg,rfl⟩
    refine nl ?_
    refine te (fun w' hw=>⟨pt_at memA hw,pt_at memA hw⟩) ?_
    refine t1 6 ?_
    refine sr ?_
    refine nl ?_
    refine te (fun w' hw=>⟨pt_at memA hw,pt_at memA hw⟩) ?_
    refine t1 7 ?_
    refine sr ?_
    refine nl ?_
    refine te (fun w' hw=>⟨pt_at memA hw,pt_at memA hw⟩) ?_
    refine t0 ?_
    repeat' first|refine xc ?_
    exact kb ⟨c14,c15,cf,cg,gf,gg⟩ ⟨hgf,hgg⟩ _ _ (by (repeat (refine Sub.cons rfl (by first | rfl | go_num) ?_));exact Sub.nil) fitA
  ·refine al fun c15=>?_
   refine nl ?_
   refine te (fun w' hw=>⟨pt_at memA hw,pt_at memA hw⟩) ?_
   refine t2 1 4 ?_ ?_
   ·refine ca (hSf f1 f2 hf1 hf2) ?_
    rintro _ _ ⟨cf,gf,rfl,hgf,rfl⟩
    refine nl ?_
    refine te (fun w' hw=>⟨pt_at memA hw,pt_at memA hw⟩) ?_
    refine t2 3 4 ?_ ?_
    ·refine ca (hSg y1 y2 hy1 hy2) ?_
     rintro _ _ ⟨cg,gg,rfl,hgg,rfl⟩
     refine nl ?_
     refine te (fun w' hw=>⟨pt_at memA hw,pt_at memA hw⟩) ?_
     refine t1 4 ?_
     refine al fun c14=>?_
     refine nl ?_
     refine te (fun w' hw=>⟨pt_at memA hw,pt_at memA hw⟩) ?_
     refine t1 6 ?_
     refine sr ?_
     refine nl ?_
     refine te (fun w' hw=>⟨pt_at memA hw,pt_at memA hw⟩) ?_
     refine t1 7 ?_
     refine sr ?_
     refine nl ?_
     refine te (fun w' hw=>⟨pt_at memA hw,pt_at memA hw⟩) ?_
     refine t0 ?_
     repeat' first|refine xc ?_
     exact kb ⟨c14,c15,cf,cg,gf,gg⟩ ⟨hgf,hgg⟩ _ _ (by (repeat (refine Sub.cons rfl (by first | rfl | go_num) ?_));exact Sub.nil) fitA
    ·refine al fun c14=>?_
     refine nl ?_
     refine te (fun w' hw=>⟨pt_at memA hw,pt_at memA hw⟩) ?_
     refine t1 3 ?_
     refine ca (hSg y1 y2 hy1 hy2) ?_
     rintro _ _ ⟨cg,gg,rfl,hgg,rfl⟩
     refine nl ?_
     refine te (fun w' hw=>⟨pt_at memA hw,pt_at memA hw⟩) ?_
     refine t1 6 ?_
     refine sr ?_
     refine nl ?_
     refine te (fun w' hw=>⟨pt_at memA hw,pt_at memA hw⟩) ?_
     refine t1 7 ?_
     refine sr ?_
     refine nl ?_
     refine te (fun w' hw=>⟨pt_at memA hw,pt_at memA hw⟩) ?_
     refine t0 ?_
     repeat' first|refine xc ?_
     exact kb ⟨c14,c15,cf,cg,gf,gg⟩ ⟨hgf,hgg⟩ _ _ (by (repeat (refine Sub.cons rfl (by first | rfl | go_num) ?_));exact Sub.nil) fitA
   ·refine al fun c14=>?_
    refine nl ?_
    refine te (fun w' hw=>⟨pt_at memA hw,pt_at memA hw⟩) ?_
    refine t1 1 ?_
    refine ca (hSf f1 f2 hf1 hf2) ?_
    rintro _ _ ⟨cf,gf,rfl,hgf,rfl⟩
    refine nl ?_
    refine te (fun w' hw=>⟨pt_at memA hw,pt_at memA hw⟩) ?_
    refine t1 3 ?_
    refine ca (hSg y1 y2 hy1 hy2) ?_
    rintro _ _ ⟨cg,gg,rfl,hgg,rfl⟩
    refine nl ?_
    refine te (fun w' hw=>⟨pt_at memA hw,pt_at memA hw⟩) ?_
    refine t1 6 ?_
    refine sr ?_
    refine nl ?_
    refine te (fun w' hw=>⟨pt_at memA hw,pt_at memA hw⟩) ?_
    refine t1 7 ?_
    refine sr ?_
    refine nl ?_
    refine te (fun w' hw=>⟨pt_at memA hw,pt_at memA hw⟩) ?_
    refine t0 ?_
    repeat' first|refine xc ?_
    exact kb ⟨c14,c15,cf,cg,gf,gg⟩ ⟨hgf,hgg⟩ _ _ (by (repeat (refine Sub.cons rfl (by first | rfl | go_num) ?_));exact Sub.nil) fitA
 rintro ⟨c14,c15,cf,cg,gf,gg⟩ ⟨hgf,hgg⟩
 dsimp only at hgf hgg ⊢
 clear hSf hSg hFree hPair
 repeat' first|(refine gca ?_;first|(refine ca hPl ?_;rintro _ _ ⟨bp,rfl,rfl⟩))|refine lda (cs:=[I n,gv]) ?_|refine sq ?_|refine rg ?_|refine xc ?_|refine nl ?_|refine bk ?_
 subst ho
 refine TC.im (gow_none _ ((n + 1) * (n + 1)) (List.replicate ((n + 1) * (n + 1)) 0)) ?_
 rw [← outN_zero n f g xs,← hsE_none (z1,z2)]
 have hrun:=@SeqP.run _ _ _ _ _ _ _ (places1_seq bp n gv xs hs hlen hql hn hone)
 clear hPl
 refine TC.range [lbd [lpt c14 [shV cf] TSh,lpt c15 [shV cg] TSh,vw f1 (Us (dg f.num.natAbs)),vw f2 (Us (dg f.den)),vw y1 (Us (dg g.num.natAbs)),vw y2 (Us (dg g.den)),lpt c9 [I n,v] TGr,vw z1 (Us (dg (0:Rat).num.natAbs)),vw z2 (Us (dg (0:Rat).den)),vfr hs xs],lbd [lpt bp [I n,gv] TGr,vwf gv ((n + 1) * (n + 1)) (rcs xs hs)]] [oww TRt 3 v ((n + 1) * (n + 1)) (rcs (outN n f g xs 0) (hsE (z1,z2) (List.replicate ((n + 1) * (n + 1)) none))),gow (List.replicate ((n + 1) * (n + 1)) none) (outN n f g xs 0),shB cf f (f1,f2) gf,shB cg g (y1,y2) gg] (fun l2 rec Dm pend B'=>∃ s:NxS,B' = [dfr Dm,oww TRt 3 v ((n + 1) * (n + 1)) (rcs (outN n f g xs ((n + 1) * (n + 1))) (hsE (z1,z2) s.es)),gow s.es (outN n f g xs ((n + 1) * (n + 1))),shB cf f (f1,f2) s.gf,shB cg g (y1,y2) s.gg]∧pend = none∧Grd n s.es (outN n f g xs ((n + 1) * (n + 1)))) ?_ ?_ (hp:=has1 (lbd_of (by repeat (first | exact has0 | refine has1 hasA ?_))) (has1 (lbd_of (has1 hasA (has1 hasA has0))) has0))
 ·intro rec l2 Dm hr
  refine Tr.unb (hrun (α:=NxS) (lbd [lpt c14 [shV cf] TSh,lpt c15 [shV cg] TSh,vw f1 (Us (dg f.num.natAbs)),vw f2 (Us (dg f.den)),vw y1 (Us (dg g.num.natAbs)),vw y2 (Us (dg g.den)),lpt c9 [I n,v] TGr,vw z1 (Us (dg (0:Rat).num.natAbs)),vw z2 (Us (dg (0:Rat).den)),vfr hs xs]) l2 (fun s=>bnd [lrc l2 rec .ready none,dfr Dm,oww TRt 3 v ((n + 1) * (n + 1)) (rcs (outN n f g xs s.i) (hsE (z1,z2) s.es)),gow s.es (outN n f g xs s.i),shB cf f (f1,f2) s.gf,shB cg g (y1,y2) s.gg]) (fun s i=>s.i = i∧Grd n s.es (outN n f g xs i)∧ShOk cf s.gf∧ShOk cg s.gg) (fun _=>False) ⟨0,List.replicate ((n + 1) * (n + 1)) none,gf,gg⟩ ⟨rfl,Grd.none n,hgf,hgg⟩ (fun p=>bnd_nob (by repeat (first | exact nb0 | refine nb1 ?_))) ?_) ?_
  ·rintro ⟨i,es,gf,gg⟩ j ⟨hji,hgr,hgf,hgg⟩ hj
   dsimp only at hji hgr hgf hgg
   subst hji
   refine Ty.bnd ?_
   refine Ty.pre (pre:=[lpt c14 [shV cf] TSh,lpt c15 [shV cg] TSh,vw f1 (Us (dg f.num.natAbs)),vw f2 (Us (dg f.den)),vw y1 (Us (dg g.num.natAbs)),vw y2 (Us (dg g.den)),lpt c9 [I n,v] TGr,vw z1 (Us (dg (0:Rat).num.natAbs)),vw z2 (Us (dg (0:Rat).den)),vfr hs xs]) ?_ (has_lbds (C:=[lpt c14 [shV cf] TSh,lpt c15 [shV cg] TSh,vw f1 (Us (dg f.num.natAbs)),vw f2 (Us (dg f.den)),vw y1 (Us (dg g.num.natAbs)),vw y2 (Us (dg g.den)),lpt c9 [I n,v] TGr,vw z1 (Us (dg (0:Rat).num.natAbs)),vw z2 (Us (dg (0:Rat).den)),vfr hs xs]) (List.Mem.head _) _ (by repeat (first | exact has00 | refine has01 ?_)) fun c hc=>hc) (by repeat (first | exact has00 | refine has01 ?_))
   refine Ty.intro env hr (by repeat (first | exact has00 | refine has01 ?_)) fun w1=>?_
   have hF1:=(hyF i hj)
   have hgot:=fun (F:List Ch) (h:vfr hs xs ∈ F)=>has_fr (has_mem h) hlen (i:=i) (by rw [hql];exact hj)
   have hskip:=fun h=>outN_skip (n:=n) (f:=f) (g:=g) (x:=xs) (i:=i) h
   have hstep:=fun h=>outN_step (n:=n) (f:=f) (g:=g) (x:=xs) (i:=i) h
   have hSF:=fun h a ha=>hsF i a hj h ha
   have hXF:∀ a b,¬ (i % (n + 1) = 0∨xs.getD i 0 = 0)→a ≤ i / (n + 1)→¬ shar f (i / (n + 1)) a = 0→b < i % (n + 1)→(FB (shar g (i % (n + 1) - 1) b) B∧FB (xs.getD i 0 * shar f (i / (n + 1)) a) B∧FB (xs.getD i 0 * shar f (i / (n + 1)) a * shar g (i % (n + 1) - 1) b) B)∧∀ j,j < (n + 1) * (n + 1)→FB ((outB n f g (xs.getD i 0) (i / (n + 1)) (i % (n + 1)) a (outA n f g (xs.getD i 0) (i / (n + 1)) (i % (n + 1)) (outN n f g xs i) a) b).getD j 0) B:=fun a b h1 h2 h3 h4=>by
    have h:=hnx i a b hj h1 h2 h3 h4
    exact ⟨⟨h.sg,h.ys,h.p⟩,h.o⟩
   have hx1:(hs.getD i nS2).1.oneCell' = true∧(hs.getD i nS2).2.oneCell' = true:=hone i (by rw [hql];exact hj)
   clear hyF hsF hnx hrun hone
   generalize i / (n + 1) = c at *
   generalize i % (n + 1) = r at *
   generalize xs.getD i 0 = y at *
   generalize hs.getD i nS2 = hx at *
   obtain ⟨x1,x2⟩:=hx
   dsimp only at hx1 hgot
   obtain ⟨hx1,hx2⟩:=hx1
   have hSome:=some_tr y x1 x2 hx1 (by have:=hF1.1;omega)
   repeat' first|refine al fun c17=>?_|refine srz ?_ (hj:=Nat.le_of_ble_eq_true rfl)|refine xbeg ?_|refine sq ?_|refine rg ?_|refine xc ?_|refine nl ?_|refine bk ?_
   rename_i c16
   refine rs (fun w'=>w'.heap[c16]? = some (.cells [I c,I r].toArray TPl (0,0))) ?_ (fun w' hw=>pt_at memA hw)
   refine kr 0 (v:=.pointer (some ⟨c16,0,none⟩)) (fun w' h=>R_ixa (E:=env) (m:=2) (i:=0) rfl rfl rfl rfl (by decide)) ?_
   refine krl 1 (cs:=[I c,I r]) (fun w' h=>h) ?_
   refine kr 2 (v:=.pointer (some ⟨c16,1,none⟩)) (fun w' h=>R_ixa (E:=env) (m:=2) (i:=1) rfl rfl rfl rfl (by decide)) ?_
   refine krl 3 (cs:=[I c,I r]) (fun w' h=>h) ?_
   refine kra 4 ?_
   refine kra 5 ?_
   refine t0 ?_
   refine id ?_
   by_cases hr0:r = 0
   ·rw [← hskip (.inl hr0)] at hgr ⊢
    repeat' first|(refine wo ?_;first|(refine ao ?_;first|refine oa ?_)|refine oa ?_|refine gn ?_|(refine gsi (fun hB=>?_) (fun hB=>?_) <;> try (exfalso;omega)))|(refine gc ?_;first|refine ct ?_)|refine sq ?_|refine rg ?_|refine xc ?_|refine nl ?_|refine xe ?_
    exact yn ⟨⟨i + 1,es,gf,gg⟩,rfl,.inl ⟨rfl,rfl,hgr,hgf,hgg⟩⟩
   by_cases hy0:y = 0
   ·rw [← hskip (.inr hy0)] at hgr ⊢
    rw [show decide (y ≠ 0) = false from decide_eq_false fun h=>h hy0] at hSome
    repeat' first|(refine gca ?_;first|(refine ca hSome ?_ (hp:=has1 (hgot _ memA).1 has0);rintro _ _ ⟨rfl,rfl⟩))|refine lda (cs:=rrow y (x1,x2)) ?_|(refine wo ?_;first|(refine ao ?_;first|refine oa ?_)|refine oa ?_|refine gy ?_|(refine gsi (fun hB=>?_) (fun hB=>?_) <;> try (exfalso;omega)))|(refine gc ?_;first|refine ct ?_)|refine sq ?_|refine rg ?_|refine xc ?_|refine nl ?_|refine xe ?_
    exact yn ⟨⟨i + 1,es,gf,gg⟩,rfl,.inl ⟨rfl,rfl,hgr,hgf,hgg⟩⟩
   have hne:¬ (r = 0∨y = 0):=by rintro (h | h);exact hr0 h;exact hy0 h
   rw [show decide (y ≠ 0) = true from decide_eq_true hy0] at hSome
   have hst:=hstep hne
   have hSF:=hSF hne
   have hXF:=fun a b=>hXF a b hne
   have hcr:c + r ≤ n:=(hSF 0 (Nat.zero_le _)).1
   clear hskip hstep
   generalize outN n f g xs i = F0 at *
   repeat' first|(refine gca ?_;first|(refine ca hSome ?_ (hp:=has1 (hgot _ memA).1 has0);rintro _ _ ⟨rfl,rfl⟩))|refine lda (cs:=rrow y (x1,x2)) ?_|(refine wo ?_;first|(refine ao ?_;first|refine aw ?_|refine oa ?_)|refine oa ?_|refine gy ?_|(refine gsi (fun hB=>?_) (fun hB=>?_) <;> try (exfalso;omega)))|(refine gc ?_;first|(refine cb (fun hB=>?_) (fun hB=>?_) <;> try (exfalso;omega)))|refine sq ?_|refine rg ?_|refine xc ?_|refine nl ?_|refine sk ?_|refine bk ?_|refine xe ?_
   ·exact absurd hB (by decide)
   refine TC.loop (ι:=NxS) (fun g'=>[(63,I g'.i)]) (fun g'=>[oww TRt 3 v ((n + 1) * (n + 1)) (rcs (outA n f g y c r F0 g'.i) (hsE (z1,z2) g'.es)),gow g'.es (outA n f g y c r F0 g'.i),shB cf f (f1,f2) g'.gf,shB cg g (y1,y2) g'.gg]) (fun g'=>g'.i ≤ c + 1∧Grd n g'.es (outA n f g y c r F0 g'.i)∧ShOk cf g'.gf∧ShOk cg g'.gg) (fun g'=>c + 1 - g'.i) ⟨0,es,gf,gg⟩ [9,14,15,17,18,19,62] ⟨Nat.zero_le _,hgr,hgf,hgg⟩ ?_ (hf:=by dsimp only;rw [outA_zero];exact fitA)
   clear hgr hgf hgg
   rintro ⟨a,es,gf,gg⟩ ⟨ha,hgr,hgf,hgg⟩
   dsimp only at ha hgr hgf hgg ⊢
   by_cases hac:a < c + 1
   rotate_left
   ·obtain rfl:a = c + 1:=by omega
    rw [← hst] at hgr ⊢
    repeat' first|(refine wo ?_;first|(refine ao ?_;first|refine oa ?_))|(refine gc ?_;first|(refine ci (fun hB=>?_) (fun hB=>?_) <;> try (exfalso;omega)))|refine sq ?_|refine rg ?_|refine xc ?_|refine nl ?_|refine xe ?_|refine xb ?_
    exact yn ⟨⟨i + 1,es,gf,gg⟩,rfl,.inl ⟨rfl,rfl,hgr,hgf,hgg⟩⟩
   have hShf:=share_tr cf f (f1,f2) gf hf1 hf2 hgf hpf c a (by omega) (by omega)
   have hSF1:=(hSF a (by omega)).2
   have hSm2:=fun s1 s2 hs1=>some_tr (shar f c a) s1 s2 hs1 (by have:=hSF1.1;omega)
   have hskA:=fun h=>outA_skip (n:=n) (f:=f) (g:=g) (y:=y) (c:=c) (r:=r) (l:=F0) (a:=a) h
   have hstA:=fun h=>outA_step (n:=n) (f:=f) (g:=g) (y:=y) (c:=c) (r:=r) (l:=F0) (a:=a) h
   have hXF:=fun b h1 h2=>hXF a b (by omega) h1 h2
   clear hSF hst
   obtain ⟨q,hq⟩ : ∃ q,q = shar f c a:=⟨_,rfl⟩
   simp only [← hq] at hShf hSF1 hSm2 hskA hstA hXF
   by_cases hq0:q = 0
   ·rw [show decide (q ≠ 0) = false from decide_eq_false fun h=>h hq0] at hSm2
    rw [← hskA hq0] at hgr ⊢
    repeat' first|(refine gca ?_;first|(refine ca (hSm2 s1 s2 hs1) ?_;rintro _ _ ⟨rfl,rfl⟩))|(refine cav (cap:=#[ptr cf.bq,ptr cf.bp,ptr cf.bl]) (vs:=[I c,I a]) hShf ?_;rintro _ _ ⟨gf',s1,s2,rfl,hs1,hs2,hgf',rfl⟩)|refine al fun c21=>?_|refine srz ?_|refine lda (vs:=rrow q (s1,s2)) ?_|(refine wo ?_;first|(refine ao ?_;first|refine aw ?_|refine oa ?_)|refine oa ?_|refine ldl ?_)|(refine gc ?_;first|refine ct ?_|(refine ci (fun hB=>?_) (fun hB=>?_) <;> try (exfalso;omega)))|refine sq ?_|refine rg ?_|refine xc ?_|refine nl ?_|refine sk ?_|refine bk ?_|refine xe ?_
    exact lp ⟨a + 1,es,gf',gg⟩ ⟨hac,hgr,hgf',hgg⟩
   rw [show decide (q ≠ 0) = true from decide_eq_true hq0] at hSm2
   have hstA:=hstA hq0
   have hXF:=fun b h2=>hXF b hq0 h2
   clear hskA
   generalize outA n f g y c r F0 a = F1 at *
   repeat' first|(refine gca ?_;first|(refine ca (hSm2 s1 s2 hs1) ?_;rintro _ _ ⟨rfl,rfl⟩))|(refine cav (cap:=#[ptr cf.bq,ptr cf.bp,ptr cf.bl]) (vs:=[I c,I a]) hShf ?_;rintro _ _ ⟨gf',s1,s2,rfl,hs1,hs2,hgf',rfl⟩)|refine al fun c21=>?_|refine srz ?_|refine lda (vs:=rrow q (s1,s2)) ?_|(refine wo ?_;first|(refine ao ?_;first|refine aw ?_|refine oa ?_)|refine oa ?_|refine ldl ?_)|(refine gc ?_;first|(refine ci (fun hB=>?_) (fun hB=>?_) <;> try (exfalso;omega))|(refine cb (fun hB=>?_) (fun hB=>?_) <;> try (exfalso;omega)))|refine sq ?_|refine rg ?_|refine xc ?_|refine nl ?_|refine sk ?_|refine bk ?_|refine xe ?_
   ·exact absurd hB (by decide)
   refine TC.loop (ι:=NxB) (fun g'=>[(74,I g'.b)]) (fun g'=>[oww TRt 3 v ((n + 1) * (n + 1)) (rcs (outB n f g y c r a F1 g'.b) (hsE (z1,z2) g'.es)),gow g'.es (outB n f g y c r a F1 g'.b),shB cg g (y1,y2) g'.gg]) (fun g'=>g'.b ≤ r∧Grd n g'.es (outB n f g y c r a F1 g'.b)∧ShOk cg g'.gg) (fun g'=>r - g'.b) ⟨0,es,gg⟩ [9,14,15,17,18,19,20,21,62,63,73] ⟨Nat.zero_le _,hgr,hgg⟩ ?_ (hf:=by dsimp only;rw [outB_zero];exact fitA)
   clear hgr hgg
   rintro ⟨b,es,gg⟩ ⟨hb,hgr,hgg⟩
   dsimp only at hb hgr hgg ⊢
   by_cases hbr:b < r
   rotate_left
   ·obtain rfl:b = r:=by omega
    rw [← hstA] at hgr ⊢
    repeat' first|(refine wo ?_;first|(refine ao ?_;first|refine aw ?_|refine oa ?_)|refine oa ?_)|(refine gc ?_;first|(refine ci (fun hB=>?_) (fun hB=>?_) <;> try (exfalso;omega)))|refine sq ?_|refine rg ?_|refine xc ?_|refine nl ?_|refine xe ?_|refine xb ?_
    exact lp ⟨a + 1,es,gf',gg⟩ ⟨hac,hgr,hgf',hgg⟩
   have hShg:=share_tr cg g (y1,y2) gg hy1 hy2 hgg hpg (r - 1) b (by omega) (by omega)
   obtain ⟨⟨hG1,hG2,hG3⟩,hG4⟩:=hXF b hbr
   have hrJ:=place_lt (n:=n) (q:=c - a) (r:=r - 1 - b + a) (by omega) (by omega)
   have hG4:=(hG4 _ hrJ).le hB0
   have hAt:=fun xs'=>gat_tr n v xs' (c - a) (r - 1 - b + a) hv hn (by omega) (by omega)
   have hstB:=outB_step n f g y c r a F1 b
   rw [← hq] at hstB
   clear hstA hXF
   obtain ⟨q2,hq2⟩ : ∃ q2,q2 = shar g (r - 1) b:=⟨_,rfl⟩
   rw [← hq2] at hShg hG1 hG3 hstB
   have hMul:=fun lv v1 v2 v3 v4 v5 v6=>FMul3_tr y q q2 lv v1 v2 v3 v4 v5 v6 hF1 (hSF1.le hB0) (hG1.le hB0) (hG2.le hB0)
   obtain ⟨pr,hpr⟩ : ∃ pr,pr = y * q * q2:=⟨_,rfl⟩
   rw [← hpr] at hMul hG3 hstB
   obtain ⟨J,hJ⟩ : ∃ J,J = (c - a) * (n + 1) + (r - 1 - b + a):=⟨_,rfl⟩
   simp only [← hJ] at hrJ hG4 hAt hstB
   unfold FQ2 at hMul
   have hrow:=rcs_row (hs:=hsE (z1,z2) es) (qs:=outB n f g y c r a F1 b) (by rw [hsE_len,hgr.el,hgr.ql]) (i:=J) (by rw [hgr.ql];exact hrJ)
   have hgo:=fun (F:List Ch) (h1:gow es (outB n f g y c r a F1 b) ∈ F) (h2:Has F (vw z1 (Us (dg (0:Rat).num.natAbs)))) (h3:Has F (vw z2 (Us (dg (0:Rat).den))))=>has_gow (z:=(z1,z2)) hgr h1 h2 h3 hrJ
   have hset:=fun q' p'=>rcs_setE (z:=(z1,z2)) hgr hrJ q' p'
   have hgset:=fun q' p'=>hgr.set hrJ q' p'
   have hel:=hgr.el
   have hqlB:=hgr.ql
   obtain ⟨FB0,hFB0⟩ : ∃ F',F' = outB n f g y c r a F1 b:=⟨_,rfl⟩
   rw [← hFB0] at hgr hG4 hstB hrow hqlB ⊢
   simp only [← hFB0] at hgo hset hgset
   unfold addAt at hstB
   obtain ⟨qJ,hqJ⟩ : ∃ q',q' = FB0.getD J 0:=⟨_,rfl⟩
   rw [← hqJ] at hG4 hstB hrow
   simp only [← hqJ] at hgo
   obtain ⟨eJ,heJ⟩ : ∃ e,e = (hsE (z1,z2) es).getD J nS2:=⟨_,rfl⟩
   rw [← heJ] at hrow
   simp only [← heJ] at hgo
   have hAdd:=fun lv m1 m2=>FAdd2_tr qJ pr lv eJ.1 eJ.2 m1 m2 hG4 (hG3.le hB0)
   obtain ⟨qS,hqS⟩ : ∃ q',q' = qJ + pr:=⟨_,rfl⟩
   rw [← hqS] at hstB
   simp only [← hqS] at hAdd
   unfold FQ2 at hAdd
   have hca:(c:Int) - a = ((c - a:Nat):Int):=by omega
   have hto:(r:Int) - 1 - b + a = ((r - 1 - b + a:Nat):Int):=by omega
   have hr1:(r:Int) - 1 = ((r - 1:Nat):Int):=by omega
   repeat' first|(refine wo ?_;first|(refine ao ?_;first|refine oa ?_)|refine oa ?_)|(refine gc ?_;first|(refine ci (fun hB=>?_) (fun hB=>?_) <;> try (exfalso;omega)))|refine sq ?_|refine rg ?_|refine xc ?_|refine nl ?_|refine sk ?_|refine bk ?_
   refine cutY (ι:=NxM) (fun x=>x.m1.oneCell' = true∧x.m2.oneCell' = true∧ShOk cg x.gg) (fun x=>[(9,ptr c9),(14,ptr c14),(15,ptr c15),(17,ptr c17),(18,I c),(19,I r),(20,I a),(21,ptr c21),(22,I b),(23,ptr x.c23),(62,I ((c:Int) + 1)),(63,I a),(73,I r),(74,I b)]) (fun x=>[pt x.c23 (rrow pr (x.m1,x.m2)) TRt,own T64 x.m1 (Us (dg pr.num.natAbs)),own T64 x.m2 (Us (dg pr.den)),shB cg g (y1,y2) x.gg,oww TRt 3 v ((n + 1) * (n + 1)) (rcs FB0 (hsE (z1,z2) es)),gow es FB0,shB cf f (f1,f2) gf',own T64 s1 (Us (dg q.num.natAbs)),own T64 s2 (Us (dg q.den)),pt c21 (rrow q (s1,s2)) TRt,pt c17 (rrow y (x1,x2)) TRt,pt c16 [I c,I r] TPl,lrc l2 rec .busy none,dfr Dm,lpt c14 [shV cf] TSh,lpt c15 [shV cg] TSh,vw f1 (Us (dg f.num.natAbs)),vw f2 (Us (dg f.den)),vw y1 (Us (dg g.num.natAbs)),vw y2 (Us (dg g.den)),lpt c9 [I n,v] TGr,vw z1 (Us (dg (0:Rat).num.natAbs)),vw z2 (Us (dg (0:Rat).den)),vfr hs xs]) ?_ ?_
   rotate_left
   ·intro b' kb
    refine rs (fun w'=>w'.heap[c17]? = some (.cells (rrow y (x1,x2)).toArray TRt (0,0))∧w'.heap[c21]? = some (.cells (rrow q (s1,s2)).toArray TRt (0,0))∧w'.heap[c15]? = some (.cells [shV cg].toArray TSh (0,0))) ?_ (fun w' hw=>⟨pt_at memA hw,pt_at memA hw,lpt_at memA hw⟩)
    refine kr 0 (v:=.agg (rrow y (x1,x2)).toArray) (fun w' h=>R_loadA (E:=env) (vs:=rrow y (x1,x2)) rfl rfl rfl rfl h.1 rfl rfl) ?_
    refine kr 1 (v:=.agg (rrow q (s1,s2)).toArray) (fun w' h=>R_loadA (E:=env) (vs:=rrow q (s1,s2)) rfl rfl rfl rfl h.2.1 rfl rfl) ?_
    refine krl 2 (cs:=[shV cg]) (fun w' h=>h.2.2) ?_
    refine kra 3 ?_
    refine krw 4 ((r - 1:Nat):Int) ?_
    refine kra 5 ?_
    refine t2 6 12 ?_ ?_
    ·refine cav (cap:=#[ptr cg.bq,ptr cg.bp,ptr cg.bl]) (vs:=[I ((r - 1:Nat):Int),I b]) hShg ?_
     rintro _ _ ⟨gg',k1,k2,rfl,hk1,hk2,hgg',rfl⟩
     refine nl ?_
     refine te (fun w' hw=>⟨pt_at memA hw,pt_at memA hw,lpt_at memA hw⟩) ?_
     refine t2 7 12 ?_ ?_
     ·refine slws (sz:=3) (xs:=rrow y (x1,x2) ++ rrow q (s1,s2) ++ rrow q2 (k1,k2)) fun g2=>?_
      refine nl ?_
      refine te (fun w' hw=>⟨pt_at memA hw,pt_at memA hw,lpt_at memA hw⟩) ?_
      refine t2 8 12 ?_ ?_
      ·refine ca (hMul _ x1 x2 s1 s2 k1 k2) ?_ (hp:=has1 (has_oww memA) (has1 (hgot _ memA).1 (has1 (hgot _ memA).2 (has1 hasA (has1 hasA (has1 hasA (has1 hasA has0)))))))
       rintro _ _ ⟨m1,m2,rfl,hm1,hm2,rfl⟩
       refine nl ?_
       refine te (fun w' hw=>⟨pt_at memA hw,pt_at memA hw,lpt_at memA hw⟩) ?_
       refine kra 9 ?_
       refine kra 10 ?_
       refine kra 11 ?_
       refine t1 12 ?_
       refine al fun c23=>?_
       refine nl ?_
       refine te (fun w' hw=>⟨pt_at memA hw,pt_at memA hw,lpt_at memA hw⟩) ?_
       refine t1 13 ?_
       refine srz ?_
       refine nl ?_
       refine te (fun w' hw=>⟨pt_at memA hw,pt_at memA hw,lpt_at memA hw⟩) ?_
       refine kra 14 ?_
       refine t0 ?_
       repeat' first|refine xc ?_
       exact kb ⟨c23,m1,m2,gg'⟩ ⟨hm1,hm2,hgg'⟩ _ _ (by (repeat (refine Sub.cons rfl (by first | rfl | go_num) ?_));exact Sub.nil) fitA
      ·refine al fun c23=>?_
       refine nl ?_
       refine te (fun w' hw=>⟨pt_at memA hw,pt_at memA hw,lpt_at memA hw⟩) ?_
       refine t1 8 ?_
       refine ca (hMul _ x1 x2 s1 s2 k1 k2) ?_ (hp:=has1 (has_oww memA) (has1 (hgot _ memA).1 (has1 (hgot _ memA).2 (has1 hasA (has1 hasA (has1 hasA (has1 hasA has0)))))))
       rintro _ _ ⟨m1,m2,rfl,hm1,hm2,rfl⟩
       refine nl ?_
       refine te (fun w' hw=>⟨pt_at memA hw,pt_at memA hw,lpt_at memA hw⟩) ?_
       refine kra 9 ?_
       refine kra 10 ?_
       refine kra 11 ?_
       refine t1 13 ?_
       refine srz ?_
       refine nl ?_
       refine te (fun w' hw=>⟨pt_at memA hw,pt_at memA hw,lpt_at memA hw⟩) ?_
       refine kra 14 ?_
       refine t0 ?_
       repeat' first|refine xc ?_
       exact kb ⟨c23,m1,m2,gg'⟩ ⟨hm1,hm2,hgg'⟩ _ _ (by (repeat (refine Sub.cons rfl (by first | rfl | go_num) ?_));exact Sub.nil) fitA
     ·refine al fun c23=>?_
      refine nl ?_
      refine te (fun w' hw=>⟨pt_at memA hw,pt_at memA hw,lpt_at memA hw⟩) ?_
      refine t1 7 ?_
      refine slws (sz:=3) (xs:=rrow y (x1,x2) ++ rrow q (s1,s2) ++ rrow q2 (k1,k2)) fun g2=>?_
      refine nl ?_
      refine te (fun w' hw=>⟨pt_at memA hw,pt_at memA hw,lpt_at memA hw⟩) ?_
      refine t1 8 ?_
      refine ca (hMul _ x1 x2 s1 s2 k1 k2) ?_ (hp:=has1 (has_oww memA) (has1 (hgot _ memA).1 (has1 (hgot _ memA).2 (has1 hasA (has1 hasA (has1 hasA (has1 hasA has0)))))))
      rintro _ _ ⟨m1,m2,rfl,hm1,hm2,rfl⟩
      refine nl ?_
      refine te (fun w' hw=>⟨pt_at memA hw,pt_at memA hw,lpt_at memA hw⟩) ?_
      refine kra 9 ?_
      refine kra 10 ?_
      refine kra 11 ?_
      refine t1 13 ?_
      refine srz ?_
      refine nl ?_
      refine te (fun w' hw=>⟨pt_at memA hw,pt_at memA hw,lpt_at memA hw⟩) ?_
      refine kra 14 ?_
      refine t0 ?_
      repeat' first|refine xc ?_
      exact kb ⟨c23,m1,m2,gg'⟩ ⟨hm1,hm2,hgg'⟩ _ _ (by (repeat (refine Sub.cons rfl (by first | rfl | go_num) ?_));exact Sub.nil) fitA
    ·refine al fun c23=>?_
     refine nl ?_
     refine te (fun w' hw=>⟨pt_at memA hw,pt_at memA hw,lpt_at memA hw⟩) ?_
     refine t1 6 ?_
     refine cav (cap:=#[ptr cg.bq,ptr cg.bp,ptr cg.bl]) (vs:=[I ((r - 1:Nat):Int),I b]) hShg ?_
     rintro _ _ ⟨gg',k1,k2,rfl,hk1,hk2,hgg',rfl⟩
     refine nl ?_
     refine te (fun w' hw=>⟨pt_at memA hw,pt_at memA hw,lpt_at memA hw⟩) ?_
     refine t1 7 ?_
     refine slws (sz:=3) (xs:=rrow y (x1,x2) ++ rrow q (s1,s2) ++ rrow q2 (k1,k2)) fun g2=>?_
     refine nl ?_
     refine te (fun w' hw=>⟨pt_at memA hw,pt_at memA hw,lpt_at memA hw⟩) ?_
     refine t1 8 ?_
     refine ca (hMul _ x1 x2 s1 s2 k1 k2) ?_ (hp:=has1 (has_oww memA) (has1 (hgot _ memA).1 (has1 (hgot _ memA).2 (has1 hasA (has1 hasA (has1 hasA (has1 hasA has0)))))))
     rintro _ _ ⟨m1,m2,rfl,hm1,hm2,rfl⟩
     refine nl ?_
     refine te (fun w' hw=>⟨pt_at memA hw,pt_at memA hw,lpt_at memA hw⟩) ?_
     refine kra 9 ?_
     refine kra 10 ?_
     refine kra 11 ?_
     refine t1 13 ?_
     refine srz ?_
     refine nl ?_
     refine te (fun w' hw=>⟨pt_at memA hw,pt_at memA hw,lpt_at memA hw⟩) ?_
     refine kra 14 ?_
     refine t0 ?_
     repeat' first|refine xc ?_
     exact kb ⟨c23,m1,m2,gg'⟩ ⟨hm1,hm2,hgg'⟩ _ _ (by (repeat (refine Sub.cons rfl (by first | rfl | go_num) ?_));exact Sub.nil) fitA
   clear hMul hShg hgot
   rintro ⟨c23,m1,m2,gg'⟩ ⟨hm1,hm2,hgg'⟩
   dsimp only at hm1 hm2 hgg' ⊢
   obtain ⟨e1',e2'⟩:=eJ
   dsimp only at hAdd hgo hrow
   repeat' first|(refine gca ?_;first|(refine ca (hAt _) ?_ (hp:=has1 (has_oww memA) has0);rintro _ _ ⟨rfl,rfl⟩))|refine ldla (cs:=[I n,v]) ?_|(refine aw (m:=(c:Int) - a) ?_;rw [hca])|(refine aw (m:=(r:Int) - 1 - b + a) ?_;rw [hto])|(refine wo ?_;first|(refine ao ?_;first|refine aw ?_)|refine oa ?_)|refine sq ?_|refine rg ?_|refine xc ?_|refine nl ?_
   refine rs (fun w'=>w'.heap[c23]? = some (.cells (rrow pr (m1,m2)).toArray TRt (0,0))) ?_ (fun w' hw=>pt_at memA hw)
   refine kra 0 ?_
   refine kra 1 ?_
   refine kra 2 ?_
   refine kr 4 (v:=.agg (rrow pr (m1,m2)).toArray) (fun w' h=>R_loadA (E:=env) (vs:=rrow pr (m1,m2)) rfl rfl rfl rfl h rfl rfl) ?_
   refine t1 3 ?_
   refine ldaw (N:=((n + 1) * (n + 1))) (xs:=rcs FB0 (hsE (z1,z2) es)) (m:=3 * J) hrow ?_ (hm:=has_oww memA)
   refine nl ?_
   refine te (fun w' hw=>pt_at memA hw) ?_
   refine t1 5 ?_
   refine slws (sz:=3) (xs:=rrow qJ (e1',e2') ++ rrow pr (m1,m2)) fun g2=>?_
   refine nl ?_
   refine te (fun w' hw=>pt_at memA hw) ?_
   refine t1 6 ?_
   refine ca (hAdd _ m1 m2) ?_ (hp:=has1 (has_oww memA) (has1 (hgo _ memA hasA hasA).1 (has1 (hgo _ memA hasA hasA).2 (has1 hasA (has1 hasA has0)))))
   rintro _ _ ⟨n1,d1,rfl,hn1,hd1,rfl⟩
   refine nl ?_
   refine te (fun w' hw=>pt_at memA hw) ?_
   refine kra 7 ?_
   refine kra 8 ?_
   refine kra 9 ?_
   refine kra 10 ?_
   refine t1 11 ?_
   refine sow (sz:=3) (m:=3 * J) (N:=((n + 1) * (n + 1))) (xs:=rcs FB0 (hsE (z1,z2) es)) (vs:=rrow qS (n1,d1)) (by omega) ?_ (h1:=one_cons rfl (one_cons hn1 (one_cons hd1 one_nil)))
   refine nl ?_
   refine te (fun w' hw=>pt_at memA hw) ?_
   refine t0 ?_
   repeat' first|(refine wo ?_;first|(refine ao ?_;first|refine aw ?_)|refine oa ?_)|refine rg ?_|refine xc ?_|refine nl ?_|refine xb ?_
   refine TX.im (gow_set (es:=es) (qs:=FB0) (by rw [hel,hqlB]) (i:=J) (by rw [hqlB];exact hrJ) qS n1 d1 fitA) ?_
   rw [hset qS (n1,d1),← hstB]
   exact lp ⟨b + 1,es.set J (some (n1,d1)),gg'⟩ ⟨hbr,by dsimp only;rw [hstB];exact hgset qS (n1,d1),hgg'⟩
  ·rintro _ _ ⟨s,rfl,⟨hi,g2,g3,g4⟩ | h⟩
   ·exact ⟨_,rfl,.ready,none,_,rfl,by decide,s,by rw [hi],rfl,g2⟩
   ·exact h.elim
 ·rintro l2 rec Dm pend B' ⟨s,rfl,rfl,hgr⟩
  show TX env _ _ _ _ _ _
  refine TX.im (dfrl_nil _) ?_
  refine TX.im (dfrl_push (D:=Dm) (Ds:=[]) fitA) ?_
  rw [outN_all] at hgr ⊢
  generalize nextR f g n xs = q at *
  repeat' first|refine lda (cs:=[I n,v]) ?_|refine srz ?_|refine sq ?_|refine rg ?_|refine xc ?_|refine nl ?_|refine rt ?_|refine xb ?_
  exact mca1 (Ds:=[Dm]) (b:=c8) (cs:=[I n,v]) (vs:=[I n,v]) (T:=TGr) ⟨v,s.es,(z1,z2),rfl,hv,⟨hz1,hz2⟩,hgr,rfl⟩
end Go.Art
namespace Go.Art
open Go Go.Proofs Go.RowKit
abbrev lvD (t:List Int) (k n j:Nat):Nat:=lvE (oneS t k) (fun u=>(fT t k u).den) n k j
theorem lvT_facts {t:List Int} {k n:Nat} (hz:solE t k = 0) (hk:k ≤ 40) (hl:t.length ≤ 12) (hn:n ≤ 12) {B:Nat} (hB:B = 20000) {j:Nat} (hj:j ≤ k) :
  Lv n (lvD t k n j) (lvT t k n j)∧tot n (lvT t k n j) ≤ 1∧lvD t k n j ≠ 0∧lvD t k n j < 18446744073709551616 ^ B:=by
 have hf:∀ u,1 ≤ u→u ≤ k→Ch01 (fT t k u).den (fT t k u):=fun u h1 h2=>(fT_ch hz h1 h2).1
 obtain ⟨h1,h2⟩:=lv_ok (n:=n) (pT_ch hz) hf j hj
 refine ⟨h1,h2,lvE_pos (oneS_pos hz) (fun u h1 h2=>(hf u h1 h2).nz) j hj,?_⟩
 have h3:=lvE_le (n:=n) (B:=18446744073709551616 ^ 11) (F:=fun u=>(fT t k u).den) (D:=oneS t k) (k:=k) (fun u h1 h2=>Nat.le_of_lt (fT_lt hz hk hl h1 h2)) (Nat.le_trans hk (by decide)) (Nat.le_of_lt (Nat.lt_trans (oneS_lt hz hk hl) (by decide))) (by decide) j hj
 rw [← Nat.pow_mul] at h3
 refine Nat.lt_of_le_of_lt h3 (Nat.pow_lt_pow_right (by decide) ?_)
 have h4:2 * n * j ≤ 24 * 40:=Nat.mul_le_mul (by omega) (by omega)
 omega
theorem lvT_succ (t:List Int) (k n j:Nat):lvT t k n (j + 1) = nextR (fT t k (k - j)) (1 / ((k - j:Nat):Rat)) n (lvT t k n j):=rfl
theorem lvD_succ (t:List Int) (k n j:Nat):lvD t k n (j + 1) = lvD t k n j * ((fT t k (k - j)).den ^ n * (k - j) ^ n):=rfl
theorem has_bndC {F C:List Ch} {d:Ch} (h:bnd C ∈ F) (k:Has C d):Has F d:=⟨fun w hw=>k.P w (hw.h _ h),k.wr,k.rd,fun b hb=>⟨_,h,bnd_ft.2 (k.ft b hb)⟩⟩
structure LvG (α:Type) where
 j:Nat
 v:Value
 es:List (Option HV)
 z:HV
 a:α
attribute [local irreducible] Fit pt own ro vw mpc lpt vels rels mow lrc dfr
def grB (n:Nat) (v:Value) (qs:List Rat) (es:List (Option HV)) (z:HV):Ch:=bnd (gP n v qs es z)
instance (n:Nat) (v:Value) (qs:List Rat) (es:List (Option HV)) (z:HV):NoB (grB n v qs es z):=⟨bnd_nob (by repeat (first | exact nb0 | refine nb1 ?_))⟩
abbrev GRB (n:Nat) (qs:List Rat) (u:Value) (D:List Ch):Prop:=∃ v es z,u = gV n v∧v.oneCell' = true∧(z.1.oneCell' = true∧z.2.oneCell' = true)∧Grd n es qs∧D = [grB n v qs es z]
theorem Tr.grb {P:Program} {f:FuncId} {args:List Value} {pre A:List Ch} {n:Nat} {qs:List Rat} (h:Tr P f args pre A (GR n qs)):Tr P f args pre A (GRB n qs):=by
 refine h.post ?_
 rintro u D ⟨v,es,z,hu,h1,h2,h3,rfl⟩
 refine ⟨_,⟨v,es,z,hu,h1,h2,h3,rfl⟩,?_,nb1 nb0⟩
 have:=im_bnd (gP n v qs es z) []
 rwa [List.append_nil] at this
theorem has_grB {F:List Ch} {n:Nat} {v:Value} {qs:List Rat} {es:List (Option HV)} {z:HV} (hg:Grd n es qs) (h:grB n v qs es z ∈ F):Has F (vwf v ((n + 1) * (n + 1)) (rcs qs (hsE z es)))∧Has F (vfr (hsE z es) qs):=
 ⟨has_bndC h (has_oww (List.Mem.head _)),has_bndC h (has_gvfr hg (List.Mem.tail _ (List.Mem.head _)) (has_own (List.Mem.tail _ (List.Mem.tail _ (List.Mem.head _)))) (has_own (List.Mem.tail _ (List.Mem.tail _ (List.Mem.tail _ (List.Mem.head _))))))⟩
structure SeqW (P:Program) (f:FuncId) (cap:Array Value) (U:Ch) (n k:Nat) (L:Nat→List Rat):Prop where
 run:∀ {α:Type} (V:Ch) [Lent V] (l:Nat) (J:α→Ch) (pl:α→Nat→Prop) (S:α→Prop) (a0:α),pl a0 0→(∀ a b,¬ (J a).bd b) →
  (∀ a j v es z,v.oneCell' = true→(z.1.oneCell' = true∧z.2.oneCell' = true)→Grd n es (L j)→pl a j→j ≤ k→Ty P l [I ((k - j:Nat):Int),gV n v] [V] [grB n v (L j) es z,J a] fun ok B=>(ok = true∧∃ a',B = [grB n v (L j) es z,J a']∧pl a' (j + 1))∨(ok = false∧∃ a',B = [J a']∧S a')) →
  Tr P f (yv l :: cap.toList) [V,U] [J a0] fun _ B=>∃ a,B = [J a]∧(pl a (k + 1)∨S a)
attribute [local irreducible] lmp lme mit velg relg bnd owl dfrl gow shB grB
theorem levels_tr (tv:Value) (htv:tv.oneCell' = true) (k n:Int):Tr Tryz.prog 57 [tv,I k,I n] [] [] fun u D=>∃ p1 p2 p3,u = .func (.func 105) #[] #[ptr p1,ptr p2,ptr p3]∧D = [pt p3 [I n] TLI,pt p2 [I k] TLI,pt p1 [tv] TLs]:=by
 refine Tr.enter env _ Tryz.func57 (by kernel_rfl) rfl Tryz.ntmps57 rfl (by repeat (first | exact has00 | refine has01 ?_)) fun w0=>?_
 repeat' first|refine bx1 fun b=>?_|(refine wo ?_;first|refine oa ?_)|refine sq ?_|refine rg ?_|refine xc ?_|refine nl ?_|refine rt ?_
 exact r1 ⟨_,_,_,rfl,rfl⟩
theorem nxtT_tr (tv gv:Value) (htv:tv.oneCell' = true) (hgv:gv.oneCell' = true) (t:List Int) (k n j:Nat) (hs:List HV) (hz:solE t k = 0) (hk:k ≤ 40) (hl:t.length ≤ 12) (hn:n ≤ 12) (hj:j < k) (hlen:hs.length = (lvT t k n j).length) :
  Tr Tryz.prog 107 [gV n gv,tv,I k,I ((k - j:Nat):Int)] [vw tv (Is t),vwf gv ((n + 1) * (n + 1)) (rcs (lvT t k n j) hs),vfr hs (lvT t k n j)] [] (GRB n (lvT t k n (j + 1))):=by
 obtain ⟨B,hB⟩ : ∃ B,B = 20000:=⟨_,rfl⟩
 obtain ⟨b1,b2,b3,b4⟩:=lvT_facts hz hk hl hn hB (j:=j) (by omega)
 obtain ⟨_,_,_,c4⟩:=lvT_facts hz hk hl hn hB (j:=j + 1) (by omega)
 rw [lvD_succ] at c4
 rw [lvT_succ]
 exact (nxt_tr tv gv htv hgv t k (k - j) n (lvD t k n j) B (lvT t k n j) hs hz hk hl hn (by omega) (by omega) hlen (supp_lv _ _ _ _ j) b1 b2 b3 c4 (by omega)).grb
theorem levels1_seq (p1 p2 p3:Nat) (tv:Value) (htv:tv.oneCell' = true) (t:List Int) (k n:Nat) (hz:solE t k = 0) (hk:k ≤ 40) (hl:t.length ≤ 12) (hn:n ≤ 12) :
  SeqW Tryz.prog 105 #[ptr p1,ptr p2,ptr p3] (lbd [lpt p1 [tv] TLs,lpt p2 [I k] TLI,lpt p3 [I n] TLI,vw tv (Is t)]) n k (lvT t k n):=by
 refine ⟨fun {α} V hV l J pl S a0 h0 hnb hy=>?_⟩
 haveI:=hV
 haveI:∀ a,NoB (J a):=fun a=>⟨hnb a⟩
 refine Tr.pre (pre:=[V,lpt p1 [tv] TLs,lpt p2 [I k] TLI,lpt p3 [I n] TLI,vw tv (Is t)]) ?_ (has1 (has_mem (by simp)) (has_lbds (C:=[lpt p1 [tv] TLs,lpt p2 [I k] TLI,lpt p3 [I n] TLI,vw tv (Is t)]) (by simp) _ (by repeat (first | exact has00 | refine has01 ?_)) fun c hc=>hc)) (by repeat (first | exact has00 | refine has01 ?_))
 have hF:=(first_tr tv htv t k n hz hk hl hn).grb
 have hN:=fun j (hj:j < k) gv hgv hs hlen=>nxtT_tr tv gv htv hgv t k n j hs hz hk hl hn hj hlen
 clear hz
 generalize lvT t k n = L at *
 refine Tr.enter env _ Tryz.func105 (by kernel_rfl) rfl Tryz.ntmps105 rfl (by repeat (first | exact has00 | refine has01 ?_)) fun w0=>?_
 repeat' first|(refine gca ?_;first|(refine ca hF ?_;rintro _ _ ⟨v,es,z,rfl,hv,hz,hgr,rfl⟩))|refine al fun c5=>?_|refine srz ?_|(refine wo ?_;first|refine oa ?_|refine ldl ?_)|refine sq ?_|refine rg ?_|refine xc ?_|refine nl ?_|refine bk ?_
 refine TC.loop (ι:=LvG α) (fun g=>[(6,I ((k - g.j:Nat):Int))]) (fun g=>[pt c5 [I n,g.v] TGr,grB n g.v (L g.j) g.es g.z,J g.a]) (fun g=>g.j ≤ k∧g.v.oneCell' = true∧(g.z.1.oneCell' = true∧g.z.2.oneCell' = true)∧Grd n g.es (L g.j)∧pl g.a g.j) (fun g=>k - g.j) ⟨0,v,es,z,a0⟩ [0,1,2,3,5] ⟨Nat.zero_le _,hv,hz,hgr,h0⟩ ?_
 clear hv hz hgr hF
 rintro ⟨j,v,es,z,a⟩ ⟨hj,hv,hz,hgr,ha⟩
 dsimp only at hj hv hz hgr ha ⊢
 have hyj:=hy a j v es z hv hz hgr ha hj
 by_cases hlt:j < k
 ·have hNj:=hN j hlt v hv (hsE z es) (by rw [hsE_len,hgr.el,hgr.ql])
  have hs1:((k - j:Nat):Int) - 1 = ((k - (j + 1):Nat):Int):=by omega
  repeat' first|(refine gca ?_;first|(refine ca hNj ?_ (hp:=has1 hasA (has1 (has_grB hgr memA).1 (has1 (has_grB hgr memA).2 has0)));rintro _ _ ⟨v2,es2,z2,rfl,hv2,hz2,hgr2,rfl⟩))|refine lda (cs:=[I n,v]) ?_|(refine cy hyj ?_ (hp:=has1 (has_mem memA) has0);rintro ok _ (⟨rfl,a2,rfl,h3⟩ | ⟨rfl,a2,rfl,h3⟩))|refine srz ?_ (hj:=Nat.le_of_ble_eq_true rfl)|(refine aw (m:=((k - j:Nat):Int) - 1) ?_;rw [hs1])|(refine wo ?_;first|(refine ao ?_;first|refine oa ?_)|refine oa ?_|refine ldl ?_|refine gy ?_|refine gn ?_)|(refine gc ?_;first|refine cf ?_|(refine ci (fun hB=>?_) (fun hB=>?_) <;> try (exfalso;omega)))|refine sq ?_|refine rg ?_|refine xc ?_|refine nl ?_|refine sk ?_|refine bk ?_|refine xe ?_|refine xb ?_
  ·exact lp ⟨j + 1,v2,es2,z2,a2⟩ ⟨hlt,hv2,hz2,hgr2,h3⟩
  ·exact e0 ⟨a2,rfl,.inr h3⟩
 ·obtain rfl:j = k:=by omega
  rw [Nat.sub_self] at hyj
  repeat' first|refine lda (cs:=[I n,v]) ?_|(refine cy hyj ?_ (hp:=has1 (has_mem memA) has0) (hv:=by rw [Nat.sub_self];rfl);rintro ok _ (⟨rfl,a2,rfl,h3⟩ | ⟨rfl,a2,rfl,h3⟩))|(refine wo ?_;first|(refine ao ?_;first|refine oa ?_)|refine oa ?_|refine gy ?_|refine gn ?_)|(refine gc ?_;first|refine cf ?_|(refine ci (fun hB=>?_) (fun hB=>?_) <;> try (exfalso;omega)))|refine sq ?_|refine rg ?_|refine xc ?_|refine nl ?_|refine xe ?_
  ·exact e0 ⟨a2,rfl,.inl h3⟩
  ·exact e0 ⟨a2,rfl,.inr h3⟩
end Go.Art
namespace Go.Art
open Go Go.Proofs Go.RowKit
section
variable {P:Program} {E:Env P} {Q0:Exit→Act→World→Prop} {s:List K} {fr:Fr} {w:World}
theorem SC_rangeI {m l0:Nat} {ds:List Deferred} {g:Operand} {f:FuncId} {cap:Array Value} {ps:List Tmp} {assign body:Code} {rec0:Loop} {st0:LoopState} {pend0:Option Code} (h0:RAt w l0 rec0 st0 pend0) (hg:ev fr g = some (.func (.func f) #[] cap))
  (h:∀ (rec:Loop) (w1:World),RecOk rec m fr ps assign body rec0.defers→Ext w w1→w1.heap.size = w.heap.size + 1→RAt w1 w.heap.size rec .ready none →
   Fn P f (yv w.heap.size :: cap.toList) w1 fun _ w3=>∃ st pend,st ≠ LoopState.busy∧RAt w3 w.heap.size rec st pend ∧
    ∀ w4,Upd w3 w4 [w.heap.size]→afterR E ⟨m,ds,some l0⟩ Q0 s fr w4 pend) :
  SC E ⟨m,ds,some l0⟩ Q0 s (.rangeFunc g ps.toArray assign body) fr w:=⟨fun a ha=>by
 refine wpIn_rangeFunc fun fn _=>?_
 obtain ⟨rec,hrec⟩ : ∃ rec:Loop,rec = { state:=.ready,pending:=none,fn,tmps:=a.tmps,params:=ps.toArray,assign,body,defers:=rec0.defers }:=⟨_,rfl⟩
 obtain ⟨w1,hw1⟩ : ∃ w1,w1 = w.alloc (.loop rec):=⟨_,rfl⟩
 have hfn:=h rec w1 (by subst hrec;exact ⟨rfl,rfl,rfl,rfl,a,rfl,ha.size,rfl,ha.slot⟩) (by subst hw1;exact Upd.alloc w _) (by subst hw1;simp) (by subst hw1;subst hrec;exact World.alloc_heap_new w _)
 have hcf:=run_callFunc_fn hfn.can (yv w.heap.size :: cap.toList).toArray w1
 refine ⟨w.heap.size,[],w1,{ target:=.fn (.func f) cap,args:=#[yv w.heap.size] },w1,f,(yv w.heap.size :: cap.toList).toArray,w1,?_,?_,fun _ _=>trivial,?_,fun e=>(by cases e),?_⟩
 ·subst hw1;subst hrec;exact run_enterLoop_inner h0 fn a.tmps ps.toArray assign body
 ·simp only [resolve,rangeCall,ha.ev hg]
  simp [Deferred.ofValue,Act.eval]
 ·have e1 : #[yv w.heap.size] ++ cap = (yv w.heap.size :: cap.toList).toArray:=by apply Array.ext';simp
  simp only [invoke,e1]
  exact hcf
 ·refine callsFF (hfn.calls.mono fun e w3 ⟨v,he,st,pend,hst,hR,hk⟩=>?_)
  subst he
  refine ⟨pend,w3.putObj w.heap.size (.loop { rec with state:=.exhausted,pending:=pend }),run_endLoop hR hst,?_⟩
  have hh:=hk _ (putObj_upd w3 w.heap.size (.loop { rec with state:=.exhausted,pending:=pend }))
  have ha':Holds ⟨m,ds,some l0⟩ { a with defers:=[] ++ a.defers } fr:=⟨ha.size,by show [] ++ a.defers = _;rw [ha.defers];rfl,ha.slot⟩
  cases pend with
  | none=>exact hh.run _ ha'
  | some c=>exact hh.run _ ha'⟩
end
section
variable {P:Program} {E:Env P} {X:Cx} {s:List K} {fr:Fr} {A F:List Ch} {m l0:Nat} {assign body:Code} {rec0:Loop} {st0:LoopState} {pend0:Option Code}
theorem TC.rangeI {ds:List Deferred} {g:Operand} {f:FuncId} {cap:Array Value} {ps:List Tmp} (hl0:lrc l0 rec0 st0 pend0 ∈ A) (pre J:List Ch) (Aft:Nat→Loop→Option Code→List Ch→Prop)
  (hit:∀ rec l,RecOk rec m fr ps assign body rec0.defers→Tr P f (yv l :: cap.toList) pre (lrc l rec .ready none :: J) fun _ B=>∃ st pend B',B = lrc l rec st pend :: B'∧st ≠ LoopState.busy∧Aft l rec pend B')
  (aft:∀ l rec pend B',Aft l rec pend B'→afterT E ⟨m,ds,some l0⟩ X s fr (B' ++ F) pend) (hg:ev fr g = some (.func (.func f) #[] cap):=by rfl) (hs:Fit A J F:=by exact fitA)
  (hp:∀ c ∈ pre,Has F c:=by (repeat (first | exact has0 | refine has1 hasA ?_));first | done | fail):TC E ⟨m,ds,some l0⟩ X s (.rangeFunc g ps.toArray assign body) fr A:=⟨fun w hw=>by
 refine SC_rangeI (hw.mem hl0) hg fun rec w1 hr hE hz hl=>?_
 have h0:=hw.im hs
 have h1:=h0.ext hE
 have h2:St X (lrc w.heap.size rec .ready none :: (J ++ F)) w1:=by
  have hnew:∀ b,fts [lrc w.heap.size rec .ready none] b→w.heap.size ≤ b:=by
   rintro b ⟨c,hc,hb⟩
   rw [List.mem_singleton.1 hc] at hb
   rcases hb with hb | hb | hb
   ·have:b = w.heap.size:=hb;omega
   ·exact hb.elim
   ·exact hb.elim
  refine h0.step (A:=[]) (B:=[lrc w.heap.size rec .ready none]) (Mv.upd hE (by simp) (fun b hb=>.inr (hnew b hb.ft)) (fun b hb=>.inr (.inr (hnew b hb.ft)))) (Sat.one hl) ?_
  intro c hc b hb
  rw [List.mem_singleton.1 hc] at hb
  exact hb
 refine ((hit rec w.heap.size hr).at (F:=F) (by exact Im.refl _) hp h2).mono fun v w3 ⟨D,⟨st,pend,B',hB,hst,hA⟩,hS⟩=>?_
 subst hB
 refine ⟨st,pend,hst,hS.mem (List.Mem.head _),fun w4 hU=>?_⟩
 have h4:St X (B' ++ F) w4:=by
  have:=hS.step (A:=[lrc w.heap.size rec st pend]) (B:=[]) (F:=B' ++ F) (w':=w4) (Mv.upd hU (fun b hb=>.inl (wrs_one.2 (List.mem_singleton.1 hb))) (fun b hb=>absurd hb wrs_nil) (fun b hb=>absurd hb rds_nil)) (Sat.nil _) (by simp)
  exact this
 have h5:=aft _ _ _ _ hA
 cases pend with
 | none=>exact TX.run h5 w4 h4
 | some c=>exact TC.run h5 w4 h4⟩
end
end Go.Art
namespace Go.Art
open Go Go.Proofs Go.RowKit
theorem Ty.bndK {P:Program} {l:Nat} {vs:List Value} {K pre C:List Ch} {R:Bool→List Ch→Prop} (h:Ty P l vs pre (C ++ K) fun b D=>∃ C' K',D = C' ++ K'∧R b (K' ++ [Go.Art.bnd C'])):Ty P l vs pre (K ++ [Go.Art.bnd C]) R:=by
 refine ⟨fun w hw=>?_,h.lent⟩
 have p1:(pre ++ (K ++ [Go.Art.bnd C])).Perm (Go.Art.bnd C :: (pre ++ K)):=by
  have:((pre ++ K) ++ [Go.Art.bnd C]).Perm (Go.Art.bnd C :: (pre ++ K)):=List.perm_append_comm (l₁:=pre ++ K) (l₂:=[Go.Art.bnd C])
  simpa using this
 have h1:Sat (pre ++ (C ++ K)) w:=(bnd_sat.1 (hw.perm p1)).perm (List.perm_append_comm_assoc C pre K)
 have e1:∀ (C K:List Ch) (b:Nat),wrs (C ++ K) b ↔ wrs (K ++ [Go.Art.bnd C]) b:=fun C K b=>by
  constructor
  ·rintro ⟨c,hc,hb⟩
   rcases List.mem_append.1 hc with hc | hc
   ·exact ⟨Go.Art.bnd C,by simp,c,hc,hb⟩
   ·exact ⟨c,List.mem_append_left _ hc,hb⟩
  ·rintro ⟨c,hc,hb⟩
   rcases List.mem_append.1 hc with hc | hc
   ·exact ⟨c,List.mem_append_right _ hc,hb⟩
   ·rw [List.mem_singleton.1 hc] at hb
    obtain ⟨d,hd,h⟩:=hb
    exact ⟨d,List.mem_append_left _ hd,h⟩
 have e2:∀ (C K:List Ch) (b:Nat),rds (C ++ K) b ↔ rds (K ++ [Go.Art.bnd C]) b:=fun C K b=>by
  constructor
  ·rintro ⟨c,hc,hb⟩
   rcases List.mem_append.1 hc with hc | hc
   ·exact ⟨Go.Art.bnd C,by simp,c,hc,hb⟩
   ·exact ⟨c,List.mem_append_left _ hc,hb⟩
  ·rintro ⟨c,hc,hb⟩
   rcases List.mem_append.1 hc with hc | hc
   ·exact ⟨c,List.mem_append_right _ hc,hb⟩
   ·rw [List.mem_singleton.1 hc] at hb
    obtain ⟨d,hd,h⟩:=hb
    exact ⟨d,List.mem_append_left _ hd,h⟩
 refine (h.run w h1).mono fun b w' ⟨B,⟨C',K',hB',hR⟩,hS,hM,hnb⟩=>?_
 subst hB'
 refine ⟨K' ++ [Go.Art.bnd C'],hR,?_,⟨hM.os,hM.tape,hM.output,hM.size,fun k hk hn=>hM.block k hk fun h=>hn ((e1 C K k).1 h),fun x hx=>(hM.wr x ((e1 C' K' x).2 hx)).imp_left (e1 C K x).1,fun x hx=>(hM.rd x ((e2 C' K' x).2 hx)).imp (e1 C K x).1 (Or.imp_left (e2 C K x).1)⟩,fun c hc x hx=>?_⟩
 ·exact (bnd_sat.2 hS).perm (List.perm_append_comm (l₁:=[Go.Art.bnd C']) (l₂:=K'))
 ·rcases List.mem_append.1 hc with hc | hc
  ·exact hnb c (List.mem_append_right _ hc) x hx
  ·rw [List.mem_singleton.1 hc] at hx
   obtain ⟨y,hy,h2⟩:=hx
   exact hnb y (List.mem_append_left _ hy) x h2
def ripE (t:List Int) (k n:Int):Int:=if k < 1∨1024 < k∨n < 0∨4096 < n then 3 else solE t k
def psN (n u:Nat) (x:List Rat) (i:Nat):Rat:=sR (fun i=>if u = 0∨i % (n + 1) = 0 then x.getD i 0 else 0) (List.range i)
theorem psN_all (n u:Nat) (x:List Rat):psN n u x ((n + 1) * (n + 1)) = stuckR n u x:=rfl
theorem psN_zero (n u:Nat) (x:List Rat):psN n u x 0 = 0:=rfl
theorem psN_in {n u:Nat} {x:List Rat} {i:Nat} (h:u = 0∨i % (n + 1) = 0):psN n u x (i + 1) = psN n u x i + x.getD i 0:=by unfold psN;rw [sR_last,if_pos h]
theorem psN_out {n u:Nat} {x:List Rat} {i:Nat} (h:¬ (u = 0∨i % (n + 1) = 0)):psN n u x (i + 1) = psN n u x i:=by unfold psN;rw [sR_last,if_neg h,Rat.add_zero]
theorem psN_fr {n E u:Nat} {x:List Rat} (hx:Lv n E x) {i:Nat} (hi:i ≤ (n + 1) * (n + 1)):FrQ E (psN n u x i):=FrQ.sum fun j hj=>by
 have:=List.mem_range.1 hj
 split
 ·exact hx.fr j (by omega)
 ·exact FrQ.zero E
theorem psN_le {n E u:Nat} {x:List Rat} (hx:Lv n E x) {i:Nat} (hi:i ≤ (n + 1) * (n + 1)):psN n u x i ≤ tot n x:=by
 rw [tot_eq]
 obtain ⟨q,hq⟩:=Nat.exists_eq_add_of_le hi
 rw [hq,List.range_add,sR_app]
 have h1:psN n u x i ≤ sR (fun i=>x.getD i 0) (List.range i):=sR_le fun j hj=>by
  have:=List.mem_range.1 hj
  split
  ·exact Rat.le_refl
  ·exact (hx.fr j (by omega)).nonneg
 have h2:0 ≤ sR (fun i=>x.getD i 0) ((List.range q).map (i + ·)):=sR_nonneg fun j hj=>by
  obtain ⟨a,ha,rfl⟩:=List.mem_map.1 hj
  have:=List.mem_range.1 ha
  exact (hx.fr _ (by omega)).nonneg
 grind
def stL (t:List Int) (k n:Nat):List Rat:=(List.range (k + 1)).map (stT t k n)
theorem stL_len (t:List Int) (k n:Nat):(stL t k n).length = k + 1:=by simp [stL]
theorem stL_get {t:List Int} {k n i:Nat} (h:i < k + 1):(stL t k n).getD i 0 = stT t k n i:=by simp [stL,List.getD_eq_getElem?_getD,h]
theorem zrs_rcs:∀ N:Nat,zrs N = rcs (List.replicate N 0) (hsE nS2 (List.replicate N none))
 | 0=>rfl
 | N + 1=>by
  have ih:=zrs_rcs N
  unfold zrs rcs hsE at *
  rw [List.replicate_succ,List.flatten_cons,ih,List.replicate_succ,List.replicate_succ,List.map_cons,List.zipWith_cons_cons,List.flatten_cons]
  rfl
theorem getD_setO (l:List (Option HV)) (i j:Nat) (x:Option HV) (hj:j < l.length):(l.set j x).getD i none = if i = j then x else l.getD i none:=by
 simp only [List.getD_eq_getElem?_getD,List.getElem?_set]
 by_cases e:i = j
 ·subst e;simp [hj]
 ·rw [if_neg (fun h=>e h.symm),if_neg e]
theorem has_gowS {F:List Ch} {es:List (Option HV)} {qs:List Rat} (hl:es.length = qs.length) (h:gow es qs ∈ F) {i:Nat} (hi:i < qs.length) {p:HV} (he:es.getD i none = some p) :
  Has F (vw p.1 (Us (dg (qs.getD i 0).num.natAbs)))∧Has F (vw p.2 (Us (dg (qs.getD i 0).den))):=by
 have h1:=gps_get (es:=es) (qs:=qs) (i:=i) (by omega) hi
 rw [he] at h1
 exact ⟨has_bndI (.inr h) (List.mem_of_getElem? h1) (has_bndI (.inr (List.mem_singleton.2 rfl)) (List.Mem.head _) (has_own (List.mem_singleton.2 rfl))),
  has_bndI (.inr h) (List.mem_of_getElem? h1) (has_bndI (.inr (List.mem_singleton.2 rfl)) (List.Mem.tail _ (List.Mem.head _)) (has_own (List.mem_singleton.2 rfl)))⟩
theorem gow_ofr (F:List Ch):∀ {es:List (Option HV)} {qs:List Rat},es.length = qs.length→(∀ i,i < qs.length→(es.getD i none).isSome)→Im (gow es qs :: F) (ofr (hsE nS2 es) qs :: F)
 | [],[],_,_=>(un_bnd [] F).trans (owl_nil F)
 | [],_ :: _,h,_=>by simp at h
 | _ :: _,[],h,_=>by simp at h
 | e :: es,q :: qs,h,H=>by
  have h0:=H 0 (by simp)
  cases e with
  | none=>cases h0
  | some p=>
   have ih:=gow_ofr (own T64 p.1 (Us (dg q.num.natAbs)) :: own T64 p.2 (Us (dg q.den)) :: F) (es:=es) (qs:=qs) (by simpa using h) fun i hi=>by
    have:=H (i + 1) (by simpa using hi)
    simpa [List.getD_eq_getElem?_getD] using this
   have a1:Im (gow (some p :: es) (q :: qs) :: F) (bnd [own T64 p.1 (Us (dg q.num.natAbs)),own T64 p.2 (Us (dg q.den))] :: gow es qs :: F):=bnd_uncons _ _ F
   refine a1.trans ((un_bnd _ _).trans ?_)
   show Im (own T64 p.1 (Us (dg q.num.natAbs)) :: own T64 p.2 (Us (dg q.den)) :: gow es qs :: F) _
   refine (im_swap3 _ _ _ F).trans (ih.trans ?_)
   show Im (owl T64 wU (hpc (hsE nS2 es)) (pcl qs) :: own T64 p.1 (Us (dg q.num.natAbs)) :: own T64 p.2 (Us (dg q.den)) :: F) (bnd (own T64 p.1 ((Zs (dg q.num.natAbs)).map wU) :: own T64 p.2 ((Zs (dg q.den)).map wU) :: owls T64 wU (hpc (hsE nS2 es)) (pcl qs)) :: F)
   rw [← Us_eq,← Us_eq]
   refine (Im.perm ((List.perm_middle (l₁:=[own T64 p.1 (Us (dg q.num.natAbs)),own T64 p.2 (Us (dg q.den))])).symm)).trans ?_
   exact (Im.cons _ (bnd_cons (own T64 p.2 (Us (dg q.den))) _ F)).trans (bnd_cons (own T64 p.1 (Us (dg q.num.natAbs))) _ F)
attribute [local irreducible] Fit pt own ro vw mpc lpt vels rels mow lrc dfr
attribute [local irreducible] lmp lme mit velg relg bnd owl dfrl gow shB grB
theorem riprefuses_tr (tv:Value) (t:List Int) (k n:Int):Tr Tryz.prog 56 [tv,I k,I n] [vw tv (Is t)] [] fun u D=>u = I (ripE t k n)∧D = []:=by
 have hC:=SoCheck_tr tv t k
 have h13:=@solE_13 t k
 unfold ripE
 by_cases hc:k < 1∨1024 < k∨n < 0∨4096 < n
 ·rw [if_pos hc]
  refine Tr.enter env _ Tryz.func56 (by kernel_rfl) rfl Tryz.ntmps56 rfl (by repeat (first | exact has00 | refine has01 ?_)) fun w0=>?_
  repeat' first|(refine wo ?_;first|(refine ao ?_;first|refine oa ?_)|refine oa ?_|refine gy ?_|refine gn ?_|(refine gsi (fun hB=>?_) (fun hB=>?_) <;> try (exfalso;omega)))|(refine gc ?_;first|refine ct ?_|(refine ci (fun hB=>?_) (fun hB=>?_) <;> try (exfalso;omega)))|refine sq ?_|refine rg ?_|refine xc ?_|refine nl ?_|refine bk ?_|refine rt ?_
  all_goals exact r1 ⟨rfl,rfl⟩
 ·rw [if_neg hc]
  by_cases hz:solE t k = 0
  ·rw [hz] at hC ⊢
   refine Tr.enter env _ Tryz.func56 (by kernel_rfl) rfl Tryz.ntmps56 rfl (by repeat (first | exact has00 | refine has01 ?_)) fun w0=>?_
   repeat' first|(refine gca ?_;first|(refine ca hC ?_;rintro _ _ ⟨rfl,rfl⟩))|(refine wo ?_;first|(refine ao ?_;first|refine oa ?_)|refine oa ?_|refine gy ?_|(refine gsi (fun hB=>?_) (fun hB=>?_) <;> try (exfalso;omega)))|(refine gc ?_;first|refine cf ?_|(refine ci (fun hB=>?_) (fun hB=>?_) <;> try (exfalso;omega)))|refine sq ?_|refine rg ?_|refine xc ?_|refine nl ?_|refine sk ?_|refine bk ?_|refine rt ?_|refine xb ?_
   exact r1 ⟨rfl,rfl⟩
  ·rw [h13 hz] at hC ⊢
   refine Tr.enter env _ Tryz.func56 (by kernel_rfl) rfl Tryz.ntmps56 rfl (by repeat (first | exact has00 | refine has01 ?_)) fun w0=>?_
   repeat' first|(refine gca ?_;first|(refine ca hC ?_;rintro _ _ ⟨rfl,rfl⟩))|(refine wo ?_;first|(refine ao ?_;first|refine oa ?_)|refine oa ?_|refine gy ?_|(refine gsi (fun hB=>?_) (fun hB=>?_) <;> try (exfalso;omega)))|(refine gc ?_;first|refine ct ?_|(refine ci (fun hB=>?_) (fun hB=>?_) <;> try (exfalso;omega)))|refine sq ?_|refine rg ?_|refine xc ?_|refine nl ?_|refine bk ?_|refine rt ?_
   exact r1 ⟨rfl,rfl⟩
end Go.Art
namespace Go.Art
open Go Go.Proofs Go.RowKit
section
variable {P:Program} {E:Env P} {n:Sh} {fr:Fr} {A A' D G:List Ch} {m:Nat}
theorem m2t {Ds:List Nat} {w0:World} {A0:List Ch} {R':Value→List Ch→Prop} {fn:Func} {t t2:Nat} {v1 v2:Value} (h:R' (.tuple #[v1,v2]) D) (hr:fn.results = #[.tmp t,.tmp t2]:=by rfl) (hv:get fr t = some v1:=by rfl) (hv2:get fr t2 = some v2:=by rfl)
  (hm:Tk (dfrl Ds) A A':=by exact tkA) (hf:Fit A' D G:=by exact fitA) (nb:∀ c ∈ D,∀ b,¬ c.bd b:=by (repeat (first | exact nb0 | refine nb1 ?_));first | done | fail) (hn:n = ⟨m,marks Ds,none⟩:=by rfl) :
  TX E n ⟨bodyPostM (FF none) 0 P fn (RetP (PR w0 A0 R')),w0,A0⟩ [] .ret fr A:=by
 subst hn
 exact mG (.inl rfl) h (fun w hw a ha=>by rw [results_tmp2 hr a.tmps P w,ha.slot _ _ hv,ha.slot _ _ hv2]) hm hf nb
end
structure SkG where
 qs:List Rat
 es:List (Option HV)
structure SkI (t:List Int) (k n j:Nat) (g:SkG):Prop where
 ql:g.qs.length = k + 1
 el:g.es.length = k + 1
 in_:∀ i,i < k + 1→k + 1 ≤ i + j→g.qs.getD i 0 = stT t k n i∧(g.es.getD i none).isSome
structure SkP where
 i:Nat
 p:HV
theorem stI_set {t:List Int} {k n j:Nat} {g:SkG} (h:SkI t k n j g) (hj:j ≤ k) (p:HV):SkI t k n (j + 1) ⟨g.qs.set (k - j) (stT t k n (k - j)),g.es.set (k - j) (some p)⟩:=by
 refine ⟨by rw [List.length_set,h.ql],by rw [List.length_set,h.el],fun i hi h2=>?_⟩
 rw [getD_setR _ _ _ _ (by rw [h.ql];omega),getD_setO _ _ _ _ (by rw [h.el];omega)]
 by_cases e:i = k - j
 ·subst e;rw [if_pos rfl,if_pos rfl];exact ⟨rfl,rfl⟩
 ·rw [if_neg e,if_neg e];exact h.in_ i hi (by omega)
theorem stI_all {t:List Int} {k n:Nat} {g:SkG} (h:SkI t k n (k + 1) g):g.qs = stL t k n∧∀ i,i < g.qs.length→(g.es.getD i none).isSome:=by
 refine ⟨List.ext_getElem (by rw [h.ql,stL_len]) fun i h1 h2=>?_,fun i hi=>(h.in_ i (by rw [h.ql] at hi;exact hi) (by omega)).2⟩
 have h3:=(h.in_ i (by rw [h.ql] at h1;exact h1) (by omega)).1
 rw [← stL_get (by rw [h.ql] at h1;exact h1)] at h3
 simpa [List.getD_eq_getElem?_getD,h1,h2] using h3
theorem rcs_setS {z:HV} {es:List (Option HV)} {qs:List Rat} (hl:es.length = qs.length) {i:Nat} (hi:i < qs.length) (q:Rat) (p:HV):(rcs qs (hsE z es)).take (3 * i) ++ rrow q p ++ (rcs qs (hsE z es)).drop (3 * i + 3) = rcs (qs.set i q) (hsE z (es.set i (some p))):=by
 rw [rcs_set (by rw [hsE_len,hl]) hi,hsE_set]
attribute [local irreducible] Fit pt own ro vw mpc lpt vels rels mow lrc dfr
attribute [local irreducible] lmp lme mit velg relg bnd owl dfrl gow shB grB
abbrev TRs:TypeId:=26
set_option maxHeartbeats 1000000 in
theorem Stuck_tr (tv:Value) (htv:tv.oneCell' = true) (t:List Int) (k n:Nat) (hz:solE t k = 0) (hk:k ≤ 40) (hl:t.length ≤ 12) (hn:n ≤ 12):Tr Tryz.prog 18 [tv,I k,I n] [vw tv (Is t)] []
  fun u D=>∃ v hs,u = tup2 v (I 0)∧v.oneCell' = true∧hs.length = k + 1∧D = [oww TRt 3 v (k + 1) (rcs (stL t k n) hs),ofr hs (stL t k n)]:=by
 have hk1:=(solE_zero hz).1
 have hR:=riprefuses_tr tv t k n
 rw [show ripE t k n = 0 by unfold ripE;rw [if_neg (by omega)];exact hz] at hR
 have hLv:=levels_tr tv htv (k:Int) (n:Int)
 have hW:=whole_tr 0 (by decide)
 rw [zero_mk] at hW
 have hrunL:=fun p1 p2 p3=>@SeqW.run _ _ _ _ _ _ _ (levels1_seq p1 p2 p3 tv htv t k n hz hk hl hn)
 obtain ⟨B,hB⟩ : ∃ B,B = 20000:=⟨_,rfl⟩
 have hB9:B ≤ 8589934592:=by omega
 have hfact:=fun j (hj:j ≤ k)=>lvT_facts hz hk hl hn hB (j:=j) hj
 have hPF:∀ j u i,j ≤ k→i ≤ ((n + 1) * (n + 1))→FB (psN n u (lvT t k n j) i) 8589934592:=fun j u i hj hi=>by
  obtain ⟨b1,b2,b3,b4⟩:=hfact j hj
  exact (FB_le1 (psN_fr b1 hi) b3 (Rat.le_trans (psN_le b1 hi) b2) b4).le hB9
 have hXF:∀ j i,j ≤ k→i < ((n + 1) * (n + 1))→FB ((lvT t k n j).getD i 0) 8589934592:=fun j i hj hi=>by
  obtain ⟨b1,b2,b3,b4⟩:=hfact j hj
  exact (y_FB b1 b2 b3 b4 hi).le hB9
 have hst:∀ j,j ≤ k→stuckR n (k - j) (lvT t k n j) = stT t k n (k - j):=fun j hj=>by unfold stT;rw [show k - (k - j) = j by omega]
 have hset:=fun j g (h:SkI t k n j g) (hj:j ≤ k) p=>stI_set h hj p
 have hall:=fun g (h:SkI t k n (k + 1) g)=>stI_all h
 have hql:∀ j,(lvT t k n j).length = ((n + 1) * (n + 1)):=fun j=>(supp_lv _ _ _ _ j).len
 have hPl:=fun v hv=>places_tr n v hv
 have hst0:SkI t k n 0 ⟨List.replicate (k + 1) 0,List.replicate (k + 1) none⟩:=⟨by simp,by simp,fun i h1 h2=>by omega⟩
 unfold FQ at hW
 have e0:((0:Nat):Int) = 0:=rfl
 rw [e0] at hW
 clear hz hfact hB hB9
 generalize lvT t k n = L at *
 generalize stL t k n = LL at *
 have hkk:(k:Int) + 1 = ((k + 1:Nat):Int):=rfl
 refine Tr.enterM env _ Tryz.func18 (by kernel_rfl) rfl Tryz.ntmps18 rfl (by repeat (first | exact has00 | refine has01 ?_)) fun w0=>?_
 repeat' first|(refine gca ?_;first|(refine ca hR ?_;rintro _ _ ⟨rfl,rfl⟩)|(refine ca hLv ?_;rintro _ _ ⟨p1,p2,p3,rfl,rfl⟩))|(refine aw (m:=(k:Int) + 1) ?_;rw [hkk])|(refine mkw (sz:=3) (c:=((k + 1:Nat):Int)) (fun sv hsv=>?_);rw [Int.toNat_natCast,zrs_eq,zrs_rcs])|refine al fun c9=>?_|(refine wo ?_;first|(refine ao ?_;first|refine oa ?_)|refine oa ?_|refine sr ?_)|(refine gc ?_;first|refine cf ?_)|refine sq ?_|refine rg ?_|refine xc ?_|refine nl ?_|refine sk ?_|refine bk ?_
 refine TC.im (gow_none _ (k + 1) (List.replicate (k + 1) 0)) ?_
 have hrun:=@hrunL p1 p2 p3
 clear hrunL hLv hR
 refine TC.range [lbd [lpt c9 [sv] TRs],lbd [lpt p1 [tv] TLs,lpt p2 [I k] TLI,lpt p3 [I n] TLI,vw tv (Is t)]] [oww TRt 3 sv (k + 1) (rcs (List.replicate (k + 1) 0) (hsE nS2 (List.replicate (k + 1) none))),gow (List.replicate (k + 1) none) (List.replicate (k + 1) 0)] (fun l2 rec Dm pend B'=>∃ g:SkG,B' = [dfr Dm,oww TRt 3 sv (k + 1) (rcs g.qs (hsE nS2 g.es)),gow g.es g.qs]∧pend = none∧SkI t k n (k + 1) g) ?_ ?_ (hp:=has1 (lbd_of (has1 hasA has0)) (has1 (lbd_of (has1 hasA (has1 hasA (has1 hasA (has1 hasA has0))))) has0))
 rotate_left
 ·rintro l2 rec Dm pend B' ⟨⟨qs,es⟩,rfl,rfl,hS⟩
  obtain ⟨e1,e2⟩:=hall _ hS
  have h1:=hS.ql
  have h2:=hS.el
  dsimp only at e1 e2 h1 h2 ⊢
  subst e1
  show TX env _ _ _ _ _ _
  refine TX.im (dfrl_nil _) ?_
  refine TX.im (dfrl_push (D:=Dm) (Ds:=[]) fitA) ?_
  repeat' first|(refine wo ?_;first|refine oa ?_|refine ld ?_)|refine sq ?_|refine rg ?_|refine xc ?_|refine nl ?_|refine rt ?_|refine xb ?_
  refine TX.im (Im.trans (Im.perm (List.perm_middle (l₁:=[dfrl [Dm],oww TRt 3 sv (k + 1) (rcs qs (hsE nS2 es))]))) (gow_ofr _ (by omega) e2)) ?_
  exact m2t (Ds:=[Dm]) ⟨sv,hsE nS2 es,rfl,hsv,by rw [hsE_len];exact h2,rfl⟩
 intro rec l2 Dm hr
 refine Tr.unb (hrun (α:=SkG) (lbd [lpt c9 [sv] TRs]) l2 (fun g=>bnd [lrc l2 rec .ready none,dfr Dm,oww TRt 3 sv (k + 1) (rcs g.qs (hsE nS2 g.es)),gow g.es g.qs]) (fun g j=>SkI t k n j g) (fun _=>False) ⟨List.replicate (k + 1) 0,List.replicate (k + 1) none⟩ hst0 (fun p=>bnd_nob (by repeat (first | exact nb0 | refine nb1 ?_))) ?_) ?_
 rotate_left
 ·rintro _ _ ⟨g,rfl,h | h⟩
  ·exact ⟨_,rfl,.ready,none,_,rfl,by decide,g,rfl,rfl,h⟩
  ·exact h.elim
 clear hrun hst0 hall
 rintro ⟨qs,es⟩ j v ez z hv hz hgr hS hj
 have hset:=hset j _ hS hj
 have hqs:=hS.ql
 have hes:=hS.el
 dsimp only at hset hqs hes ⊢
 refine Ty.bndK (K:=[grB n v (L j) ez z]) ?_
 refine Ty.pre (pre:=[lpt c9 [sv] TRs]) ?_ (has_lbds (C:=[lpt c9 [sv] TRs]) (List.Mem.head _) _ (by repeat (first | exact has00 | refine has01 ?_)) fun c hc=>hc) (by repeat (first | exact has00 | refine has01 ?_))
 refine Ty.intro env hr (by repeat (first | exact has00 | refine has01 ?_)) fun w1=>?_
 have hPl:=hPl v hv
 have hPF:=fun i hi=>hPF j (k - j) i hj hi
 have hXF:=fun i hi=>hXF j i hj hi
 rw [← hst j hj] at hset
 clear hst hS
 have hql:=hql j
 have hhl:(hsE z ez).length = (L j).length:=by rw [hsE_len,hgr.el,hgr.ql]
 generalize L j = x at *
 have hu:k - j < k + 1:=by omega
 generalize k - j = u at *
 repeat' first|refine al fun c11=>?_|refine srz ?_ (hj:=Nat.le_of_ble_eq_true rfl)|refine xbeg ?_|(refine wo ?_;first|refine sr ?_)|refine sq ?_|refine rg ?_|refine xc ?_|refine nl ?_|refine bk ?_
 rename_i c10
 have hul:=show u < qs.length by omega
 have hrs:=fun (q':Rat) (p':HV)=>rcs_setS (z:=nS2) (es:=es) (qs:=qs) (by omega) (i:=u) hul q' p'
 refine rs (fun w'=>w'.heap[c9]? = some (.cells [sv].toArray TRs (0,0))∧w'.heap[c10]? = some (.cells [I u].toArray TLI (0,0))∧∃ xs,SlW w' sv (k + 1) xs) ?_ (fun w' hw=>⟨lpt_at memA hw,pt_at memA hw,_,(has_oww (e:=TRt) (sz:=3) (v:=sv) (n:=k + 1) memA).P w' hw⟩)
 refine krl 0 (cs:=[sv]) (fun w' h=>h.1) ?_
 refine krl 1 (cs:=[I u]) (fun w' h=>h.2.1) ?_
 refine t1 2 ?_
 refine ca hW ?_
 rintro _ _ ⟨n1,d1,rfl,hn1,hd1,rfl⟩
 refine nl ?_
 refine te (fun w' hw=>⟨lpt_at memA hw,pt_at memA hw,_,(has_oww (e:=TRt) (sz:=3) (v:=sv) (n:=k + 1) memA).P w' hw⟩) ?_
 refine kr 3 (v:=.pointer (some (adr sv (3 * u)))) (hi:=rfl) (fun w' h=>by obtain ⟨xs,hx⟩:=h.2.2;exact R_idxW (E:=env) (i:=(u:Int)) rfl rfl rfl rfl hx ⟨by omega,by omega⟩) ?_
 refine t1 4 ?_
 refine sow (sz:=3) (m:=3 * u) (N:=k + 1) (xs:=rcs qs (hsE nS2 es)) (vs:=rrow 0 (n1,d1)) (by omega) ?_ (h1:=one_cons rfl (one_cons hn1 (one_cons hd1 one_nil)))
 refine nl ?_
 refine te (fun w' hw=>⟨lpt_at memA hw,pt_at memA hw,_,(has_oww (e:=TRt) (sz:=3) (v:=sv) (n:=k + 1) memA).P w' hw⟩) ?_
 refine t0 ?_
 refine id ?_
 repeat' first|(refine gca ?_;first|(refine ca hPl ?_;rintro _ _ ⟨bp,rfl,rfl⟩))|refine lda (cs:=[I n,v]) ?_|refine sq ?_|refine rg ?_|refine xc ?_|refine nl ?_|refine bk ?_
 refine TC.im (gow_set (es:=es) (qs:=qs) (by omega) (i:=u) hul 0 n1 d1 fitA) ?_
 rw [hrs,← psN_zero n u x]
 refine TC.fact (fun w hw i hi=>fr_one (hs:=hsE z ez) (qs:=x) (has_grB hgr memA).2 hhl (i:=i) hi w hw) fun hone=>?_
 have hrun2:=@SeqP.run _ _ _ _ _ _ _ (places1_seq bp n v x (hsE z ez) hhl hql hn hone)
 refine TC.rangeI (l0:=l2) (rec0:=rec) memA [lbd [lpt c9 [sv] TRs,lpt c10 [I u] TLI,vfr (hsE z ez) x],lbd [lpt bp [I n,v] TGr,vwf v ((n + 1) * (n + 1)) (rcs x (hsE z ez))]] [oww TRt 3 sv (k + 1) (rcs (qs.set u (psN n u x 0)) (hsE nS2 (es.set u (some (n1,d1))))),gow (es.set u (some (n1,d1))) (qs.set u (psN n u x 0))] (fun l3 rec3 pend B'=>∃ p:HV,B' = [oww TRt 3 sv (k + 1) (rcs (qs.set u (psN n u x ((n + 1) * (n + 1)))) (hsE nS2 (es.set u (some p)))),gow (es.set u (some p)) (qs.set u (psN n u x ((n + 1) * (n + 1))))]∧pend = none) ?_ ?_ (hp:=has1 (lbd_of (has1 hasA (has1 hasA (has1 (has_grB hgr memA).2 has0)))) (has1 (lbd_of (has1 hasA (has1 (has_grB hgr memA).1 has0))) has0))
 rotate_left
 ·rintro l3 rec3 pend B' ⟨p,rfl,rfl⟩
  rw [psN_all]
  have hsp:=hset p
  generalize stuckR n u x = sr' at *
  show TX env _ _ _ _ _ _
  repeat' first|refine xb ?_
  exact yn ⟨[lrc l2 rec .ready none,dfr Dm,oww TRt 3 sv (k + 1) (rcs (qs.set u sr') (hsE nS2 (es.set u (some p)))),gow (es.set u (some p)) (qs.set u sr')],[grB n v x ez z],rfl,.inl ⟨rfl,⟨qs.set u sr',es.set u (some p)⟩,rfl,hsp⟩⟩
 intro rec3 l3 hr3
 refine Tr.unb (hrun2 (α:=SkP) (lbd [lpt c9 [sv] TRs,lpt c10 [I u] TLI,vfr (hsE z ez) x]) l3 (fun g=>bnd [lrc l3 rec3 .ready none,oww TRt 3 sv (k + 1) (rcs (qs.set u (psN n u x g.i)) (hsE nS2 (es.set u (some g.p)))),gow (es.set u (some g.p)) (qs.set u (psN n u x g.i))]) (fun g i=>g.i = i∧g.p.1.oneCell' = true∧g.p.2.oneCell' = true) (fun _=>False) ⟨0,(n1,d1)⟩ ⟨rfl,hn1,hd1⟩ (fun p=>bnd_nob (by repeat (first | exact nb0 | refine nb1 ?_))) ?_) ?_
 rotate_left
 ·rintro _ _ ⟨g,rfl,⟨hi,_⟩ | h⟩
  ·exact ⟨_,rfl,.ready,none,_,rfl,by decide,g.p,by rw [hi],rfl⟩
  ·exact h.elim
 clear hrun2 hset hW hPl
 rintro ⟨i,p⟩ i' ⟨hii,hp1,hp2⟩ hi
 dsimp only at hii hp1 hp2
 subst hii
 refine Ty.bnd ?_
 refine Ty.pre (pre:=[lpt c9 [sv] TRs,lpt c10 [I u] TLI,vfr (hsE z ez) x]) ?_ (has_lbds (C:=[lpt c9 [sv] TRs,lpt c10 [I u] TLI,vfr (hsE z ez) x]) (List.Mem.head _) _ (by repeat (first | exact has00 | refine has01 ?_)) fun c hc=>hc) (by repeat (first | exact has00 | refine has01 ?_))
 refine Ty.intro env hr3 (by repeat (first | exact has00 | refine has01 ?_)) fun w2=>?_
 have hPi:=hPF i (by omega)
 have hXi:=hXF i hi
 have hin:=fun h=>psN_in (n:=n) (u:=u) (x:=x) (i:=i) h
 have hout:=fun h=>psN_out (n:=n) (u:=u) (x:=x) (i:=i) h
 have hgot:=fun (F:List Ch) (h:vfr (hsE z ez) x ∈ F)=>has_fr (has_mem h) hhl (i:=i) (by rw [hql];exact hi)
 have hx1:=hone i (by rw [hql];exact hi)
 clear hPF hXF hone
 dsimp only
 generalize (hsE z ez).getD i nS2 = hx at *
 obtain ⟨x1,x2⟩:=hx
 dsimp only at hx1 hgot
 obtain ⟨hx1,hx2⟩:=hx1
 generalize i / (n + 1) = c at *
 generalize i % (n + 1) = r at *
 generalize x.getD i 0 = y at *
 obtain ⟨q0,hq0⟩ : ∃ q0,q0 = psN n u x i:=⟨_,rfl⟩
 rw [← hq0] at hPi ⊢
 simp only [← hq0] at hin hout
 by_cases hc:u = 0∨r = 0
 rotate_left
 ·have ho:=hout hc
  repeat' first|refine al fun c13=>?_|refine srz ?_ (hj:=Nat.le_of_ble_eq_true rfl)|refine xbeg ?_|refine ixa (m:=2) (i:=1) ?_|(refine wo ?_;first|(refine ao ?_;first|refine oa ?_)|refine oa ?_|refine ld ?_|refine ldl ?_|refine gy ?_|(refine gsi (fun hB=>?_) (fun hB=>?_) <;> try (exfalso;omega)))|(refine gc ?_;first|(refine ci (fun hB=>?_) (fun hB=>?_) <;> try (exfalso;omega)))|refine sq ?_|refine rg ?_|refine xc ?_|refine nl ?_|refine sk ?_|refine bk ?_|refine xb ?_
  rw [← ho]
  exact yn ⟨⟨i + 1,p⟩,rfl,.inl ⟨rfl,rfl,hp1,hp2⟩⟩
 have hi1:=hin hc
 obtain ⟨pa,pb⟩:=p
 dsimp only at hp1 hp2 ⊢
 have hAdd:=fun lv=>FAdd2_tr q0 y lv pa pb x1 x2 hPi hXi
 rw [← hi1] at hAdd
 obtain ⟨q1,hq1⟩ : ∃ q1,q1 = psN n u x (i + 1):=⟨_,rfl⟩
 rw [← hq1] at hAdd
 unfold FQ2 at hAdd
 have hQs:(qs.set u q0).set u q1 = qs.set u q1:=List.set_set ..
 have hEs:∀ p',(es.set u (some (pa,pb))).set u p' = es.set u p':=fun p'=>List.set_set ..
 have hQl:(qs.set u q0).length = k + 1:=by rw [List.length_set,hqs]
 have hEl:(es.set u (some (pa,pb))).length = k + 1:=by rw [List.length_set,hes]
 have hQu:(qs.set u q0).getD u 0 = q0:=by rw [getD_setR _ _ _ _ hul,if_pos rfl]
 have hEu:(es.set u (some (pa,pb))).getD u none = some (pa,pb):=by rw [getD_setO _ _ _ _ (by omega),if_pos rfl]
 generalize qs.set u q0 = Q at *
 generalize es.set u (some (pa,pb)) = ES at *
 have hrow:=rcs_row (hs:=hsE nS2 ES) (qs:=Q) (by rw [hsE_len,hEl,hQl]) (i:=u) (by omega)
 rw [hQu,hsE_get (by omega),hEu] at hrow
 have hrs2:=fun (q':Rat) (p':HV)=>rcs_setS (z:=nS2) (es:=ES) (qs:=Q) (by omega) (i:=u) (by omega) q' p'
 have hgs:=fun (F:List Ch) (h:gow ES Q ∈ F)=>has_gowS (es:=ES) (qs:=Q) (by omega) h (i:=u) (by omega) hEu
 rw [hQu] at hgs
 dsimp only [Option.getD] at hrow
 dsimp only at hgs
 clear hin hout hrs hXi hPi
 by_cases hu0:u = 0
 ·repeat' first|refine al fun c13=>?_|refine srz ?_ (hj:=Nat.le_of_ble_eq_true rfl)|refine xbeg ?_|refine ixa (m:=2) (i:=1) ?_|(refine wo ?_;first|(refine ao ?_;first|refine oa ?_)|refine oa ?_|refine ldl ?_|refine gn ?_|(refine gsi (fun hB=>?_) (fun hB=>?_) <;> try (exfalso;omega)))|(refine gc ?_;first|refine ct ?_)|refine sq ?_|refine rg ?_|refine xc ?_|refine nl ?_|refine bk ?_
  refine rs (fun w'=>w'.heap[c9]? = some (.cells [sv].toArray TRs (0,0))∧w'.heap[c10]? = some (.cells [I u].toArray TLI (0,0))∧w'.heap[c13]? = some (.cells (rrow y (x1,x2)).toArray TRt (0,0))∧∃ xs,SlW w' sv (k + 1) xs) ?_ (fun w' hw=>⟨lpt_at memA hw,lpt_at memA hw,pt_at memA hw,_,(has_oww (e:=TRt) (sz:=3) (v:=sv) (n:=k + 1) memA).P w' hw⟩)
  refine krl 0 (cs:=[sv]) (fun w' h=>h.1) ?_
  refine krl 1 (cs:=[I u]) (fun w' h=>h.2.1) ?_
  refine krl 2 (cs:=[sv]) (fun w' h=>h.1) ?_
  refine krl 3 (cs:=[I u]) (fun w' h=>h.2.1) ?_
  refine kr 4 (v:=.pointer (some (adr sv (3 * u)))) (hi:=rfl) (fun w' h=>by obtain ⟨xs,hx⟩:=h.2.2.2;exact R_idxW (E:=env) (i:=(u:Int)) rfl rfl rfl rfl hx ⟨by omega,by omega⟩) ?_
  refine kr 6 (v:=.agg (rrow y (x1,x2)).toArray) (fun w' h=>R_loadA (E:=env) (vs:=rrow y (x1,x2)) rfl rfl rfl rfl h.2.2.1 rfl rfl) ?_
  refine t1 5 ?_
  refine ldaw (N:=k + 1) (xs:=rcs Q (hsE nS2 ES)) (m:=3 * u) hrow ?_ (hm:=has_oww memA)
  refine nl ?_
  refine te (fun w' hw=>⟨lpt_at memA hw,lpt_at memA hw,pt_at memA hw,_,(has_oww (e:=TRt) (sz:=3) (v:=sv) (n:=k + 1) memA).P w' hw⟩) ?_
  refine t1 7 ?_
  refine slws (sz:=3) (xs:=rrow q0 (pa,pb) ++ rrow y (x1,x2)) fun g2=>?_
  refine nl ?_
  refine te (fun w' hw=>⟨lpt_at memA hw,lpt_at memA hw,pt_at memA hw,_,(has_oww (e:=TRt) (sz:=3) (v:=sv) (n:=k + 1) memA).P w' hw⟩) ?_
  refine t1 8 ?_
  refine ca (hAdd _) ?_ (hp:=has1 (has_oww memA) (has1 (hgs _ memA).1 (has1 (hgs _ memA).2 (has1 (hgot _ memA).1 (has1 (hgot _ memA).2 has0)))))
  rintro _ _ ⟨n2,d2,rfl,hn2,hd2,rfl⟩
  refine nl ?_
  refine te (fun w' hw=>⟨lpt_at memA hw,lpt_at memA hw,pt_at memA hw,_,(has_oww (e:=TRt) (sz:=3) (v:=sv) (n:=k + 1) memA).P w' hw⟩) ?_
  refine kra 9 ?_
  refine kra 10 ?_
  refine kra 11 ?_
  refine kr 12 (v:=.pointer (some (adr sv (3 * u)))) (hi:=rfl) (fun w' h=>by obtain ⟨xs,hx⟩:=h.2.2.2;exact R_idxW (E:=env) (i:=(u:Int)) rfl rfl rfl rfl hx ⟨by omega,by omega⟩) ?_
  refine t1 13 ?_
  refine sow (sz:=3) (m:=3 * u) (N:=k + 1) (xs:=rcs Q (hsE nS2 ES)) (vs:=rrow q1 (n2,d2)) (by omega) ?_ (h1:=one_cons rfl (one_cons hn2 (one_cons hd2 one_nil)))
  refine nl ?_
  refine te (fun w' hw=>⟨lpt_at memA hw,lpt_at memA hw,pt_at memA hw,_,(has_oww (e:=TRt) (sz:=3) (v:=sv) (n:=k + 1) memA).P w' hw⟩) ?_
  refine t0 ?_
  repeat' first|refine xb ?_
  refine TX.im (gow_set (es:=ES) (qs:=Q) (by rw [hEl,hQl]) (i:=u) (by rw [hQl];exact hu) q1 n2 d2 fitA) ?_
  rw [hrs2 q1 (n2,d2),hQs,hEs,hq1]
  exact yn ⟨⟨i + 1,(n2,d2)⟩,rfl,.inl ⟨rfl,rfl,hn2,hd2⟩⟩
 have hr0:r = 0:=hc.resolve_left hu0
 repeat' first|refine al fun c13=>?_|refine srz ?_ (hj:=Nat.le_of_ble_eq_true rfl)|refine xbeg ?_|refine ixa (m:=2) (i:=1) ?_|(refine wo ?_;first|(refine ao ?_;first|refine oa ?_)|refine oa ?_|refine ld ?_|refine ldl ?_|refine gy ?_|(refine gsi (fun hB=>?_) (fun hB=>?_) <;> try (exfalso;omega)))|(refine gc ?_;first|(refine ci (fun hB=>?_) (fun hB=>?_) <;> try (exfalso;omega)))|refine sq ?_|refine rg ?_|refine xc ?_|refine nl ?_|refine bk ?_
 refine rs (fun w'=>w'.heap[c9]? = some (.cells [sv].toArray TRs (0,0))∧w'.heap[c10]? = some (.cells [I u].toArray TLI (0,0))∧w'.heap[c13]? = some (.cells (rrow y (x1,x2)).toArray TRt (0,0))∧∃ xs,SlW w' sv (k + 1) xs) ?_ (fun w' hw=>⟨lpt_at memA hw,lpt_at memA hw,pt_at memA hw,_,(has_oww (e:=TRt) (sz:=3) (v:=sv) (n:=k + 1) memA).P w' hw⟩)
 refine krl 0 (cs:=[sv]) (fun w' h=>h.1) ?_
 refine krl 1 (cs:=[I u]) (fun w' h=>h.2.1) ?_
 refine krl 2 (cs:=[sv]) (fun w' h=>h.1) ?_
 refine krl 3 (cs:=[I u]) (fun w' h=>h.2.1) ?_
 refine kr 4 (v:=.pointer (some (adr sv (3 * u)))) (hi:=rfl) (fun w' h=>by obtain ⟨xs,hx⟩:=h.2.2.2;exact R_idxW (E:=env) (i:=(u:Int)) rfl rfl rfl rfl hx ⟨by omega,by omega⟩) ?_
 refine kr 6 (v:=.agg (rrow y (x1,x2)).toArray) (fun w' h=>R_loadA (E:=env) (vs:=rrow y (x1,x2)) rfl rfl rfl rfl h.2.2.1 rfl rfl) ?_
 refine t1 5 ?_
 refine ldaw (N:=k + 1) (xs:=rcs Q (hsE nS2 ES)) (m:=3 * u) hrow ?_ (hm:=has_oww memA)
 refine nl ?_
 refine te (fun w' hw=>⟨lpt_at memA hw,lpt_at memA hw,pt_at memA hw,_,(has_oww (e:=TRt) (sz:=3) (v:=sv) (n:=k + 1) memA).P w' hw⟩) ?_
 refine t1 7 ?_
 refine slws (sz:=3) (xs:=rrow q0 (pa,pb) ++ rrow y (x1,x2)) fun g2=>?_
 refine nl ?_
 refine te (fun w' hw=>⟨lpt_at memA hw,lpt_at memA hw,pt_at memA hw,_,(has_oww (e:=TRt) (sz:=3) (v:=sv) (n:=k + 1) memA).P w' hw⟩) ?_
 refine t1 8 ?_
 refine ca (hAdd _) ?_ (hp:=has1 (has_oww memA) (has1 (hgs _ memA).1 (has1 (hgs _ memA).2 (has1 (hgot _ memA).1 (has1 (hgot _ memA).2 has0)))))
 rintro _ _ ⟨n2,d2,rfl,hn2,hd2,rfl⟩
 refine nl ?_
 refine te (fun w' hw=>⟨lpt_at memA hw,lpt_at memA hw,pt_at memA hw,_,(has_oww (e:=TRt) (sz:=3) (v:=sv) (n:=k + 1) memA).P w' hw⟩) ?_
 refine kra 9 ?_
 refine kra 10 ?_
 refine kra 11 ?_
 refine kr 12 (v:=.pointer (some (adr sv (3 * u)))) (hi:=rfl) (fun w' h=>by obtain ⟨xs,hx⟩:=h.2.2.2;exact R_idxW (E:=env) (i:=(u:Int)) rfl rfl rfl rfl hx ⟨by omega,by omega⟩) ?_
 refine t1 13 ?_
 refine sow (sz:=3) (m:=3 * u) (N:=k + 1) (xs:=rcs Q (hsE nS2 ES)) (vs:=rrow q1 (n2,d2)) (by omega) ?_ (h1:=one_cons rfl (one_cons hn2 (one_cons hd2 one_nil)))
 refine nl ?_
 refine te (fun w' hw=>⟨lpt_at memA hw,lpt_at memA hw,pt_at memA hw,_,(has_oww (e:=TRt) (sz:=3) (v:=sv) (n:=k + 1) memA).P w' hw⟩) ?_
 refine t0 ?_
 repeat' first|refine xb ?_
 refine TX.im (gow_set (es:=ES) (qs:=Q) (by rw [hEl,hQl]) (i:=u) (by rw [hQl];exact hu) q1 n2 d2 fitA) ?_
 rw [hrs2 q1 (n2,d2),hQs,hEs,hq1]
 exact yn ⟨⟨i + 1,(n2,d2)⟩,rfl,.inl ⟨rfl,rfl,hn2,hd2⟩⟩
end Go.Art
namespace Go.Art
open Go Go.Proofs Go.RowKit
def slSubW (sz:Nat):Value→Nat→Nat→Value
 | .slice a _ cap,lo,hi=>.slice (if cap = lo then a else a.map (·.add (lo * sz))) (hi - lo) (cap - lo)
 | v,_,_=>v
theorem SlW.sub {w:World} {v:Value} {n:Nat} {xs:List Value} (h:SlW w v n xs) {sz lo:Nat} (h1:lo ≤ n) (hx:xs.length ≤ n * sz):SlW w (slSubW sz v lo n) (n - lo) (xs.drop (lo * sz)):=by
 obtain ⟨a,cap,rfl,h2,h3,h4,h5⟩:=h
 refine ⟨if cap = lo then a else a.map (·.add (lo * sz)),cap - lo,rfl,by omega,by omega,fun h6=>?_,fun i u hi=>?_⟩
 ·obtain ⟨x,rfl⟩:=h4 (by omega)
  rw [if_neg (by omega)]
  exact ⟨_,rfl⟩
 ·rw [List.getElem?_drop] at hi
  obtain ⟨x,rfl,hc⟩:=h5 _ u hi
  have hlt:=(List.getElem?_eq_some_iff.1 hi).1
  have hne:¬ cap = lo:=fun e=>by
   have:lo = n:=by omega
   subst this
   omega
  rw [if_neg hne]
  refine ⟨x.add (lo * sz),rfl,?_⟩
  rw [Deep.add_add];exact hc
theorem has_subW {F:List Ch} {e:TypeId} {sz n lo m:Nat} {v:Value} {xs ys:List Value} (h:oww e sz v n xs ∈ F) (hx:xs.length ≤ n * sz) (hlo:lo ≤ n) (hm:n - lo = m) (hy:xs.drop (lo * sz) = ys):Has F (vwf (slSubW sz v lo n) m ys):=by
 subst hm hy
 refine ⟨fun w hw=>(OwnV.slw (hw.h (oww e sz v n xs) h)).sub hlo hx,fun _ h=>h,fun _ h=>h,fun b hb=>⟨_,h,?_⟩⟩
 rcases hb with hb | hb | ⟨_,hb⟩
 ·exact hb.elim
 ·exact hb.elim
 ·refine .inl ?_
  show v.ownBlock = some b
  cases v <;> try exact hb
  rename_i a l c
  cases a with
  | none=>simp [slSubW,Value.ownBlock] at hb
  | some a=>
   simp only [slSubW] at hb
   split at hb
   ·exact hb
   ·simp only [Option.map_some,Value.ownBlock,Option.some.injEq] at hb ⊢
    rw [← hb,add_block]
theorem ofr_uncons (h:HV) (hs:List HV) (q:Rat) (qs:List Rat) (F:List Ch):Im (ofr (h :: hs) (q :: qs) :: F) (own T64 h.2 (Us (dg q.den)) :: own T64 h.1 (Us (dg q.num.natAbs)) :: ofr hs qs :: F):=by
 show Im (owl T64 wU (h.1 :: h.2 :: hpc hs) (Zs (dg q.num.natAbs) :: Zs (dg q.den) :: pcl qs) :: F) (own T64 h.2 (Us (dg q.den)) :: own T64 h.1 (Us (dg q.num.natAbs)) :: owl T64 wU (hpc hs) (pcl qs) :: F)
 rw [Us_eq,Us_eq]
 refine (owl_uncons F).trans ?_
 refine (Im.perm (List.Perm.swap _ _ _)).trans ((owl_uncons _).trans ?_)
 exact Im.cons _ (Im.perm (List.Perm.swap _ _ _))
theorem ofr_pop {h:HV} {hs:List HV} {q:Rat} {qs:List Rat} {A F:List Ch} (hf:Fit A [ofr (h :: hs) (q :: qs)] F):Im A (own T64 h.2 (Us (dg q.den)) :: own T64 h.1 (Us (dg q.num.natAbs)) :: ofr hs qs :: F):=Im.trans hf (ofr_uncons h hs q qs F)
theorem foldl_sR:∀ (l:List Rat) (a:Rat),l.foldl (· + ·) a = a + sR id l
 | [],a=>(Rat.add_zero a).symm
 | x :: l,a=>by rw [List.foldl_cons,foldl_sR l];show a + x + sR id l = a + (x + sR id l);rw [Rat.add_assoc]
def failQ (t:List Int) (k n:Nat):Rat:=sR (fun u=>stT t k n (u + 1)) (List.range k)
theorem stL_drop (t:List Int) (k n:Nat):(stL t k n).drop 1 = (List.range k).map fun u=>stT t k n (u + 1):=by
 unfold stL
 rw [List.range_succ_eq_map,List.map_cons,List.drop_succ_cons,List.drop_zero,List.map_map]
 rfl
theorem stL_part (t:List Int) (k n i:Nat) (hi:i ≤ k):(((stL t k n).drop 1).take i).foldl (· + ·) 0 = sR (fun u=>stT t k n (u + 1)) (List.range i):=by
 rw [stL_drop,foldl_sR,Rat.zero_add,← List.map_take,List.take_range,Nat.min_eq_left hi,sR_map]
 rfl
theorem part_nat {t:List Int} {k:Nat} (hz:solE t k = 0) (n i:Nat) (hi:i ≤ k):∃ a,a ≤ oneS t k ^ n∧sR (fun u=>stT t k n (u + 1)) (List.range i) = (a:Rat) / ((oneS t k ^ n:Nat):Rat):=by
 have h1:=ripple_tab hz (fun u=>if 0 < u∧u ≤ i then 1 else 0) n
 have h2:=natG_tG (fun ls=>decide (0 < (largeL k ls).length∧(largeL k ls).length ≤ i)) (itemS t k) (oneS_pos hz) n [] 1
 have h3:=natG_leW (W:=fun ls=>decide (0 < (largeL k ls).length∧(largeL k ls).length ≤ i)) (V:=fun _=>true) (fun _ _=>rfl) (itemS t k) n [] 1
 rw [natG_all (itemS_sum hz),Nat.one_mul] at h3
 generalize natG (fun ls=>decide (0 < (largeL k ls).length∧(largeL k ls).length ≤ i)) (itemS t k) n [] 1 = a at *
 refine ⟨a,h3,?_⟩
 rw [sR_shift,if_neg (fun h=>Nat.lt_irrefl 0 h.1)] at h1
 obtain ⟨m,rfl⟩:=Nat.exists_eq_add_of_le hi
 rw [List.range_add,sR_app,sR_congr (l:=List.range i) (g:=fun u=>stT t (i + m) n (u + 1)) fun u hu=>by rw [if_pos ⟨Nat.succ_pos u,List.mem_range.1 hu⟩,Rat.one_mul],
  sR_congr (l:=(List.range m).map (i + ·)) (g:=fun _=>0) fun u hu=>by obtain ⟨a,_,rfl⟩:=List.mem_map.1 hu;rw [if_neg (by omega),Rat.zero_mul],sR_zero] at h1
 rw [tG_same (item_ev t (i + m))] at h2
 simp only [List.nil_append,decide_eq_true_eq] at h2
 rw [← h1] at h2
 have h0:=nz (Nat.ne_of_gt (Nat.pow_pos (n:=n) (Nat.pos_of_ne_zero (oneS_pos hz))))
 push_cast at h0 ⊢
 rw [h2,show ((1:Nat):Rat) = 1 from rfl]
 grind
theorem part_FB {t:List Int} {k n i:Nat} (hz:solE t k = 0) (hk:k ≤ 40) (hl:t.length ≤ 12) (hn:n ≤ 12) (hi:i ≤ k):FB (sR (fun u=>stT t k n (u + 1)) (List.range i)) 8589934592:=by
 obtain ⟨a,ha,he⟩:=part_nat hz n i hi
 rw [he]
 have h1:=oneS_lt hz hk hl
 have h2:oneS t k ^ n < 18446744073709551616 ^ 121:=by
  refine Nat.lt_of_le_of_lt (Nat.pow_le_pow_left (Nat.le_of_lt h1) n) ?_
  rw [← Nat.pow_mul]
  exact Nat.pow_lt_pow_right (by decide) (by omega)
 exact (FB_nat (B:=121) (Nat.ne_of_gt (Nat.pow_pos (Nat.pos_of_ne_zero (oneS_pos hz)))) (Nat.lt_of_le_of_lt ha h2) h2).le (by decide)
theorem st_FB {t:List Int} {k n u:Nat} (hz:solE t k = 0) (hk:k ≤ 40) (hl:t.length ≤ 12) (hn:n ≤ 12) (hu:u ≤ k):FB (stT t k n u) 8589934592:=by
 obtain ⟨B,hB⟩ : ∃ B,B = 20000:=⟨_,rfl⟩
 have hB9:B ≤ 8589934592:=by omega
 obtain ⟨b1,b2,b3,b4⟩:=lvT_facts hz hk hl hn hB (j:=k - u) (by omega)
 unfold stT
 rw [← psN_all]
 exact (FB_le1 (psN_fr b1 (Nat.le_refl _)) b3 (Rat.le_trans (psN_le b1 (Nat.le_refl _)) b2) b4).le hB9
section
variable {P:Program} {E:Env P} {n:Sh} {X:Cx} {s:List K} {fr:Fr} {A A':List Ch} {ops:Array Oper} {rest:List Oper} {d m N sz by_:Nat} {ty t t' el:TypeId} {pos:String} {after:Array Edge} {v u z:Value} {x y:Operand} {xs vs:List Value} {dt:TypeDesc} {k1 k':IntKind} {w:World}
theorem slw1 {lo:Nat} (k:TO E n X s ops rest ((d,slSubW sz v lo N) :: fr) A) (hlo:lo ≤ N) (hx:ev fr x = some v:=by rfl) (hy:ev fr y = some (.int k1 lo):=by rfl) (hm:Has A (vwf v N xs):=by exact hasA) (ht:lk E.und t = some (.slice el):=by rfl) (he:lk E.inf el = some (z,sz,by_):=by rfl) (hd:Nat.blt d n.n = true:=by rfl) :
  TO E n X s ops (⟨some d,.slice t x (some y) none none,ty,pos,after,none⟩ :: rest) fr A:=TO.val (v:=slSubW sz v lo N) (fun w h=>⟨fun a ha _ _ _ _=>by
 obtain ⟨a0,cap,rfl,h2,h3,_⟩:=(hm.P w h:SlW w v N xs)
 obtain ⟨inf,hi',_,hs,_⟩:=E.info he
 have hu:=run_underlying (P:=P) (E.un ht) w
 have hr:(Instr.sliceAt t (.slice a0 N cap) (some (.int k1 lo)) none none).run P w = .ok (slSubW sz (.slice a0 N cap) lo N) w:=by
  simp [Instr.sliceAt,Instr.slice,hu,Instr.sliceBounds,Instr.sliceBound,asIntOf,sizeOf,typeInfo,hi',hs,slSubW,hlo]
 simp only [execOp,ha.ev hx]
 simp [ha.ev hy,hr]⟩) k hd
end
def failV (t:List Int) (k n:Int):Fr3 × Int:=if ripE t k n = 0 then (rqf (failQ t k.toNat n.toNat),0) else (rqn,ripE t k n)
attribute [local irreducible] Fit pt own ro vw mpc lpt vels rels mow lrc dfr
attribute [local irreducible] lmp lme mit velg relg bnd owl dfrl gow shB grB
theorem Fail_ok (tv:Value) (htv:tv.oneCell' = true) (t:List Int) (k n:Nat) (hz:solE t k = 0) (hk:k ≤ 40) (hl:t.length ≤ 12) (hn:n ≤ 12):Tr Tryz.prog 20 [tv,I k,I n] [vw tv (Is t)] [] (FQ2 (failQ t k n) 0):=by
 have hS:=Stuck_tr tv htv t k n hz hk hl hn
 have hF1:=fun i (hi:i < k)=>st_FB hz hk hl hn (u:=i + 1) hi
 have hF2:=fun i (hi:i ≤ k)=>part_FB hz hk hl hn hi
 have hpart:=stL_part t k n
 have hget:=fun i (hi:i < k)=>stL_get (t:=t) (n:=n) (i:=i + 1) (Nat.succ_lt_succ hi)
 have hLL:=stL_len t k n
 have hq:failQ t k n = ((stL t k n).drop 1).foldl (· + ·) 0:=by
  have:=hpart k (Nat.le_refl k)
  rw [List.take_of_length_le (by rw [List.length_drop,hLL];omega)] at this
  exact this.symm
 rw [hq]
 clear hq
 generalize stL t k n = LL at *
 cases LL with
 | nil=>simp at hLL
 | cons q0 qs=>
 have hql:qs.length = k:=by simpa using hLL
 rw [List.drop_succ_cons,List.drop_zero] at hpart ⊢
 have hAdd:=fun v hs (hl':hs.length = qs.length)=>FAdd_tr v qs hs hl' (fun i hi=>by
  have:=hget i (by omega)
  rw [List.getD_cons_succ] at this
  rw [this];exact hF1 i (by omega)) (fun i hi=>by rw [hpart i (by omega)];exact hF2 i (by omega))
 clear hF1 hF2 hpart hget
 unfold FQ2 at hAdd ⊢
 rw [hql] at hAdd
 generalize qs.foldl (· + ·) (0:Rat) = p at *
 refine Tr.enter env _ Tryz.func20 (by kernel_rfl) rfl Tryz.ntmps20 rfl (by repeat (first | exact has00 | refine has01 ?_)) fun w0=>?_
 repeat' first|refine al fun c=>?_|refine srz ?_|refine (ca hS ?_) ; rintro _ _ ⟨v,hs,rfl,hv,hhs,rfl⟩|(refine wo ?_;first|(refine ao ?_;first|refine oa ?_)|refine oa ?_)|(refine gc ?_;first|refine cf ?_)|refine sq ?_|refine rg ?_|refine xc ?_|refine nl ?_|refine sk ?_
 obtain ⟨h0,hr,rfl⟩ : ∃ h0 hr,hs = h0 :: hr:=by cases hs with | nil=>simp at hhs | cons a b=>exact ⟨a,b,rfl⟩
 have hrl:hr.length = qs.length:=by simp at hhs;omega
 refine TO.im (ofr_pop (h:=h0) (hs:=hr) (q:=q0) (qs:=qs) fitA) ?_
 have hlen:(rcs (q0 :: qs) (h0 :: hr)).length ≤ (k + 1) * 3:=by rw [rcs_len (by simpa using hrl),List.length_cons,hql];exact Nat.le_refl _
 have hdr:(rcs (q0 :: qs) (h0 :: hr)).drop (1 * 3) = rcs qs hr:=rfl
 repeat' first|(refine gca ?_;first|(refine ca (hAdd _ hr (by omega)) ?_ (hp:=has1 (has_subW (e:=TRt) (sz:=3) memA hlen (by omega) (by omega) hdr) (has1 (has_ofr hrl memA) has0));rintro _ _ ⟨vn,vd,rfl,hvn,hvd,rfl⟩))|refine slw1 (sz:=3) (lo:=1) (N:=k + 1) ?_ (Nat.le_add_left 1 k) (hm:=has_oww memA)|refine srz ?_|(refine wo ?_;first|refine oa ?_)|refine xc ?_|refine nl ?_|refine rt ?_
 exact rca (cs:=[.bool (decide (p.num < 0)),vn,vd]) (vs:=[.bool (decide (p.num < 0)),vn,vd]) (T:=TRt) ⟨vn,vd,rfl,hvn,hvd,rfl⟩
end Go.Art
set_option maxRecDepth 4000
namespace Go.Art
open Go Go.Proofs Go.RowKit
attribute [local irreducible] Fit pt own ro vw mpc lpt vels rels mow lrc dfr
attribute [local irreducible] lmp lme mit
abbrev Bs (l:List Bool):List Value:=l.map .bool
section
variable {P:Program} {E:Env P} {n:Sh} {X:Cx} {s:List K} {fr:Fr} {A A':List Ch} {ops:Array Oper} {rest:List Oper} {d:Nat} {ty t el:TypeId} {pos:String} {after:Array Edge} {v z:Value} {x y:Operand} {by_:Nat}
end
def unk (kb:List Bool) (l:List Int):List Int:=l.filter fun x=>!kb.getD x.toNat false
def lastL (kb:List Bool) (l:List Int):Int:=match unk kb l with
 | [x]=>x
 | _=>-1
def falses (kb:List Bool):Nat:=kb.countP (fun b=>!b)
structure ClI (k:Int) (ls:List (List Int)) (kb:List Bool):Prop where
 len:kb.length = k.toNat
 kn:∀ x,0 ≤ x→x < k→kb.getD x.toNat false = true→Kn ls x
structure ClG where
 i:Nat
 kb:List Bool
 more:Bool
end Go.Art
namespace Go.Art
open Go Go.Proofs Go.RowKit
structure RuG2 where
 r:Nat
 o:Value
attribute [local irreducible] Fit pt own ro vw mpc lpt vels rels mow lrc dfr
attribute [local irreducible] lmp lme mit velg relg bnd owl
end Go.Art
namespace Go.Art
open Go Go.Proofs Go.RowKit
abbrev wts (L:List (List Int × Nat)):List (List Int):=L.map fun s=>Zs (dg s.2)
structure MsG where
 i:Nat
 o:Value
attribute [local irreducible] Fit pt own ro vw mpc lpt vels rels mow lrc dfr
attribute [local irreducible] lmp lme mit velg relg bnd owl natG
end Go.Art
namespace Go.Art
open Go Go.Proofs Go.RowKit
structure CoG where
 i:Nat
 ov:Value
 hs:List Value
 ls:List (List Int)
structure CiG where
 q:Nat
 hs:List Value
 ls:List (List Int)
structure CwG where
 i:Nat
 v:Value
attribute [local irreducible] Fit pt own ro vw mpc lpt vels rels mow lrc dfr
attribute [local irreducible] lmp lme mit velg relg bnd owl natG setP szL solE risR
end Go.Art
namespace Go.Art
open Go
structure RaI (t:List Int) (all:Int) (u:AlS) (dn:List Bool):Prop where
 ld:dn.length = t.length
 dr:∀ c:Nat,c < t.length→dn.getD c false = true→u.rest.getD c 0 < all
 B:∀ c:Nat,c < t.length→((c:Int) ∈ u.B ↔ dn.getD c false = false∧u.rest.getD c 0 < all)
 A:∀ c:Nat,c < t.length→((c:Int) ∈ u.A ↔ all < u.rest.getD c 0)
 sB:u.B.Pairwise (· ≤ ·)
 sA:u.A.Pairwise (· ≤ ·)
open Go Go.Proofs Go.RowKit
section
variable {P:Program} {E:Env P} {n:Sh} {X:Cx} {s:List K} {fr:Fr} {A A':List Ch} {ops:Array Oper} {rest:List Oper} {d:Nat} {ty t el:TypeId} {pos:String} {after:Array Edge} {v z:Value} {x y:Operand} {by_:Nat}
end
attribute [local irreducible] Fit pt own ro vw mpc lpt vels rels mow lrc dfr
attribute [local irreducible] lmp lme mit velg relg
structure RmG where
 u:AlS
 dn:List Bool
 i:Nat
end Go.Art
namespace Go.Art
open Go Go.Proofs Go.RowKit
structure RvG where
 i:Nat
 v1:Value
 v2:Value
 ss:List Value
 gs:List Value
attribute [local irreducible] Fit pt own ro vw mpc lpt vels rels mow lrc dfr
attribute [local irreducible] lmp lme mit velg relg bnd owl natG setP szL solE risR
end Go.Art
namespace Go.Art
open Go Go.Proofs Go.RowKit
attribute [local irreducible] Fit pt own ro vw mpc lpt vels rels mow lrc dfr
attribute [local irreducible] lmp lme mit velg relg bnd owl dfrl
end Go.Art
namespace Go.Art
open Go Go.Proofs Go.RowKit
attribute [local irreducible] Fit pt own ro vw mpc lpt vels rels mow lrc dfr
attribute [local irreducible] lmp lme mit velg relg
theorem SameRatioT_tr (t:Fr3) (n1 d1 n2 d2:Value):Tr Tryz.prog 22 [.agg #[.bool t.1,n1,d1],.agg #[.bool t.1,n2,d2]] [vw n1 (Us t.2.1),vw d1 (Us t.2.2),vw n2 (Us t.2.1),vw d2 (Us t.2.2)] []
  fun v D=>v = .bool true∧D = []:=(SameRatio_tr t t n1 d1 n2 d2).mono fun v D h=>by rw [decide_eq_true rfl] at h;exact h
end Go.Art
namespace Go.Art
open Go Go.Proofs Go.RowKit
attribute [local irreducible] Fit pt own ro vw mpc lpt vels rels mow lrc dfr
attribute [local irreducible] lmp lme mit velg relg bnd owl dfrl massW setsW massD
end Go.Art
namespace Go.Art
open Go Go.Proofs Go.RowKit
def setA (k a:Nat):List Int:=(belowI k).filter fun s=>Nat.beq (a / 2 ^ s.toNat % 2) 1
def chkP (k:Nat):Bool:=(List.range (k + 1)).all fun d=>(risR d 0 k).isPerm (((List.range (2 ^ k)).filter fun a=>Nat.beq (popK k a) d).map (setA k))
def chkO (k:Nat):Bool:=(List.range (k + 1)).all fun d=>(endsL d k []).all fun js=>(ordF 0 (upto k) js).isPerm (setA k (msk (ordF 0 (upto k) js))) && Nat.beq (popK k (msk (ordF 0 (upto k) js))) d
open Go Go.Proofs Go.RowKit
def smlT (m:Int) (tbl:List Int) (k:Nat):List Int:=(tbl.take k).map fun x=>pick x m
theorem smlT_zero (m:Int) (tbl:List Int):smlT m tbl 0 = []:=rfl
theorem smlT_succ {m:Int} {tbl:List Int} {i:Nat} (h:i < tbl.length):smlT m tbl (i + 1) = smlT m tbl i ++ [pick (tbl.getD i 0) m]:=by
 unfold smlT;rw [take_succ' h 0,List.map_append];rfl
theorem smlT_len (m:Int) (tbl:List Int) (k:Nat):(smlT m tbl k).length = min k tbl.length:=by unfold smlT;simp
theorem smlT_min (m:Int) (tbl:List Int) (k:Nat):smlT m tbl (min k tbl.length) = smlT m tbl k:=by
 unfold smlT
 congr 1
 rcases Nat.le_total k tbl.length with h | h
 ·rw [Nat.min_eq_left h]
 ·rw [Nat.min_eq_right h,List.take_length,List.take_of_length_le h]
theorem pickM_in {x m:Int} (h:1 ≤ m):0 ≤ pick x m∧pick x m < m:=by
 unfold pick
 rw [if_neg (by omega)]
 exact ⟨Int.emod_nonneg _ (by omega),Int.emod_lt_of_pos _ (by omega)⟩
attribute [local irreducible] Fit pt own ro vw mpc lpt vels rels mow lrc dfr
attribute [local irreducible] lmp lme mit velg relg bnd owl dfrl massW setsW massD smlT solE
end Go.Art
namespace Go.Art
open Go Go.Proofs Go.RowKit
theorem massW_val {W:List (List Int)→Bool} {t:List Int} {k n:Nat} (h:(massW W t k n).2 = 0):massW W t k n = (rqf (mkRat ((natG W (itemS t k) n [] 1:Nat):Int) (oneS t k ^ n)),0)∧(itemS t k).length ≤ 4096∧(itemS t k).length ^ n ≤ 4096∧(setsW t k).2 = 0:=by
 unfold massW at *
 by_cases hr:refE t k n = 0
 rotate_left
 ·rw [if_neg hr] at h;exact absurd h hr
 rw [if_pos hr] at h ⊢
 by_cases hs:(setsW t k).2 = 0
 rotate_left
 ·rw [if_neg hs] at h;cases h
 rw [if_pos hs] at h ⊢
 unfold sumW at *
 rw [Int.toNat_natCast,Int.toNat_natCast] at *
 split at h
 ·rename_i a;rw [if_pos a];exact ⟨rfl,a.1,a.2,hs⟩
 ·cases h
structure MwG where
 i:Nat
attribute [local irreducible] Fit pt own ro vw mpc lpt vels rels mow lrc dfr
attribute [local irreducible] lmp lme mit velg relg bnd owl dfrl massW setsW massD smlT solE natG itemS oneS
end Go.Art
namespace Go.Art
open Go Go.Proofs Go.RowKit
theorem failQ_eq {t:List Int} {k:Nat} (hz:solE t k = 0) (n:Nat):failQ t k n = mkRat ((natG (failW k) (itemS t k) n [] 1:Nat):Int) (oneS t k ^ n):=by
 unfold failQ
 rw [ripple_fail hz,Rat.mkRat_eq_div]
 generalize natG (failW k) (itemS t k) n [] 1 = a
 push_cast
 rfl
attribute [local irreducible] Fit pt own ro vw mpc lpt vels rels mow lrc dfr
attribute [local irreducible] lmp lme mit velg relg bnd owl dfrl massW setsW massD smlT solE failV failQ stL
theorem len3 {l:List HV} (h:l.length = 3):∃ a b c,l = [a,b,c]:=by
 match l,h with
 | [a,b,c],_=>exact ⟨a,b,c,rfl⟩
end Go.Art
namespace Go.Art
open Go Go.Proofs Go.RowKit
def sIx (x:List Rat) (m:Nat):List Nat:=(List.range m).filter fun i=>decide (x.getD i 0 ≠ 0)
abbrev srow (c r:Nat) (q:Rat) (h:HV):List Value:=[I (c:Int),I (r:Int),.bool (decide (q.num < 0)),h.1,h.2]
def scs (n:Nat) (x:List Rat) (is:List Nat) (hs:List HV):List Value:=(List.zipWith (fun i h=>srow (i / (n + 1)) (i % (n + 1)) (x.getD i 0) h) is hs).flatten
structure SsG where
 es:List (Option HV)
 v:Value
 is:List Nat
 hs:List HV
structure SsI (x:List Rat) (ez:List (Option HV)) (N i:Nat) (g:SsG):Prop where
 ii:g.is = sIx x i
 ov:g.v.oneCell' = true
 hl:g.hs.length = g.is.length
 el:g.es.length = N
 es:∀ j,i ≤ j→j < N→g.es.getD j none = ez.getD j none
structure SdG where
 d:Bool
 v:Value
 is:List Nat
 hs:List HV
attribute [local irreducible] Fit pt own ro vw mpc lpt vels rels mow lrc dfr
attribute [local irreducible] lmp lme mit velg relg bnd owl dfrl gow shB grB
abbrev TSt:TypeId:=45
abbrev TSs:TypeId:=41
abbrev ssD (n:Nat) (x:List Rat) (v:Value) (is:List Nat) (hs:List HV):List Ch:=[oww TSt 5 v is.length (scs n x is hs),ofr hs (is.map fun i=>x.getD i 0)]
end Go.Art
namespace Go.Art
open Go Go.Proofs Go.RowKit
attribute [local irreducible] Fit pt own ro vw mpc lpt vels rels mow lrc dfr
attribute [local irreducible] lmp lme mit velg relg bnd owl dfrl massW setsW massD smlT solE failV failQ stL
end Go.Art
namespace Go.Art
open Go Go.Proofs Go.RowKit
structure WholeF (n:Nat) (x:List Rat) (is:List Nat):Prop where
 sum:sR (fun i=>x.getD i 0) is = 1
 pre:∀ i,FB (sR (fun i=>x.getD i 0) (is.take i)) 8589934592
 one:∀ i,i < is.length→FB (x.getD (is.getD i 0) 0) 8589934592
 at_:∀ i,i < is.length→is.getD i 0 / (n + 1) + is.getD i 0 % (n + 1) = n
open Go Go.Proofs Go.RowKit
section
variable {P:Program} {E:Env P} {n:Sh} {X:Cx} {s:List K} {fr:Fr} {A A':List Ch} {ops:Array Oper} {rest:List Oper} {d m N sz by_:Nat} {ty t t' el:TypeId} {pos:String} {after:Array Edge} {v u z:Value} {x y:Operand} {xs vs:List Value} {dt:TypeDesc} {k1 k':IntKind} {w:World}
end
structure WgG where
 i:Nat
 a:Value
 b:Value
attribute [local irreducible] Fit pt own ro vw mpc lpt vels rels mow lrc dfr
attribute [local irreducible] lmp lme mit velg relg bnd owl dfrl massW setsW massD smlT solE failV failQ stL natG itemS oneS
end Go.Art
