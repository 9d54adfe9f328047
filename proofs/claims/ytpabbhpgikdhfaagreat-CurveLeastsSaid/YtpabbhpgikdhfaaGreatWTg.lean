/- Texts put together: Yu Yv Yw Yx Yy Ib Ic Id Ie Dd De Dg Dh Di Dj Dk Dl Dm Dn Do Ig. Conditions: none. -/
import Derived.Test.YtpabbhpgikdhfaaGreatWTf
set_option linter.unusedSimpArgs false
set_option linter.unusedVariables false
namespace Go.Art
open Go Go.Proofs Go.RowKit
theorem nb1' {c:Ch} (h:∀ b,¬ c.bd b):∀ x ∈ [c],∀ b,¬ x.bd b:=fun x hx=>by rw [List.mem_singleton.1 hx];exact h
theorem one_mk1:mkRat ((1:Nat):Int) 1 = 1:=by rw [chs_mk];rfl
theorem ofr_one (q:Rat) (v1 v2:Value) {A F:List Ch} (hf:Fit A [own T64 v1 (Us (dg q.num.natAbs)),own T64 v2 (Us (dg q.den))] F):Im A (ofr [(v1,v2)] [q] :: F):=by
 refine Im.trans hf ?_
 show Im (own T64 v1 (Us (dg q.num.natAbs)) :: own T64 v2 (Us (dg q.den)) :: F) (ofr [(v1,v2)] [q] :: F)
 refine (Im.cons _ (Im.cons _ (owl_nil (e:=T64) (g:=wU) F))).trans ?_
 have hf2:Fit (own T64 v1 (Us (dg q.num.natAbs)) :: own T64 v2 (Us (dg q.den)) :: ofr [] [] :: F) [own T64 v1 (Us (dg q.num.natAbs)),own T64 v2 (Us (dg q.den)),ofr [] []] F:=by unfold Fit;exact Im.refl _
 exact ofr_snoc (hs:=[]) (qs:=[]) rfl q v1 v2 hf2
structure FiG where
 r:Nat
 es:List (Option HV)
 g:ShG
attribute [local irreducible] Fit pt own ro vw mpc lpt vels rels mow lrc dfr
attribute [local irreducible] lmp lme mit velg relg bnd owl dfrl gow shB
theorem shares_tr (p:Rat) (v:HV) (hv1:v.1.oneCell' = true) (hv2:v.2.oneCell' = true) (hp:FB p 8589934592):Tr Tryz.prog 168 [rv p v.1 v.2] [vw v.1 (Us (dg p.num.natAbs)),vw v.2 (Us (dg p.den))] []
  fun u D=>∃ c g,u = shV c∧ShOk c g∧D = [shB c p v g]:=by
 have hW:=whole_tr 1 (by decide)
 rw [one_mk1] at hW
 have hS:=fun n1 d1 h1 h2=>FSub_tr 1 p n1 d1 v.1 v.2 h1 h2 hv1 hv2 FB_one hp
 unfold FQ at hW
 unfold FQ2 at hS
 obtain ⟨v1,v2⟩:=v
 dsimp only at hv1 hv2 hS
 obtain ⟨o,ho⟩ : ∃ o:Rat,o = 1:=⟨_,rfl⟩
 have hpz:∀ q:Rat,pows q 0 = [o]:=fun q=>by rw [pows_zero,ho]
 obtain ⟨q,hq⟩ : ∃ q:Rat,q = 1 - p:=⟨_,rfl⟩
 have e1:((1:Nat):Int) = 1:=rfl
 rw [e1] at hW
 rw [← ho] at hW
 rw [← ho] at hS hq
 simp only [← hq] at hS
 have hsh:∀ c g,shB c p (v1,v2) g = bnd [pt c.bq [powV c.pw] TPf,pt c.bp (rrow p (v1,v2)) TRt,pt c.bl (rrow q (c.l1,c.l2)) TRt,own T64 c.l1 (Us (dg q.num.natAbs)),own T64 c.l2 (Us (dg q.den)),pt c.pw [g.a0,g.a1] TPw,oww TRt 3 g.a0 (g.i0 + 1) (rcs (pows p g.i0) g.h0),ofr g.h0 (pows p g.i0),oww TRt 3 g.a1 (g.i1 + 1) (rcs (pows q g.i1) g.h1),ofr g.h1 (pows q g.i1)]:=fun c g=>by rw [hq,ho];unfold shB;rfl
 simp only [hsh]
 clear hq hsh hp
 refine Tr.enter env _ Tryz.func168 (by kernel_rfl) rfl Tryz.ntmps168 rfl (by repeat (first | exact has00 | refine has01 ?_)) fun w0=>?_
 repeat' first|refine bx fun c1=>?_|(refine wo ?_;first|refine oa ?_)|refine sq ?_|refine rg ?_|refine xc ?_|refine nl ?_
 refine cutY (ι:=Nat × HV) (fun g=>g.2.1.oneCell' = true∧g.2.2.oneCell' = true) (fun g=>[(1,ptr c1),(3,ptr g.1)]) (fun g=>[pt g.1 (rrow q g.2) TRt,own T64 g.2.1 (Us (dg q.num.natAbs)),own T64 g.2.2 (Us (dg q.den)),pt c1 (rrow p (v1,v2)) TRt,vw v1 (Us (dg p.num.natAbs)),vw v2 (Us (dg p.den))]) ?_ ?_
 ·rintro ⟨c3,l1,l2⟩ ⟨hl1,hl2⟩
  dsimp only at hl1 hl2 ⊢
  repeat' first|(refine gca ?_;first|(refine ca hW ?_;rintro _ _ ⟨n1,d1,rfl,hn1,hd1,rfl⟩))|refine slws (sz:=3) (xs:=rrow o (n1,d1)) (fun g2=>?_)|refine sq ?_|refine rg ?_
  rename_i n0 d0 hn0 hd0 g1
  repeat' first|refine bda (cs:=[.slice (some ⟨g1,0,none⟩) 1 1,.slice (some ⟨g2,0,none⟩) 1 1]) ?_|refine al fun c6=>?_|refine srz ?_|(refine wo ?_;first|refine oa ?_|refine sr ?_)|refine sq ?_|refine rg ?_|refine xc ?_|refine nl ?_|refine rt ?_
  rename_i c5
  refine TX.im (ofr_one o n0 d0 fitA) (TX.im (ofr_one o n1 d1 fitA) ?_)
  exact r1 (D:=[bnd [pt c6 [powV c5] TPf,pt c1 (rrow p (v1,v2)) TRt,pt c3 (rrow q (l1,l2)) TRt,own T64 l1 (Us (dg q.num.natAbs)),own T64 l2 (Us (dg q.den)),pt c5 [.slice (some ⟨g1,0,none⟩) 1 1,.slice (some ⟨g2,0,none⟩) 1 1] TPw,oww TRt 3 (.slice (some ⟨g1,0,none⟩) 1 1) 1 (rrow o (n0,d0)),ofr [(n0,d0)] [o],oww TRt 3 (.slice (some ⟨g2,0,none⟩) 1 1) 1 (rrow o (n1,d1)),ofr [(n1,d1)] [o]]]) ⟨⟨c6,c1,c3,c5,l1,l2⟩,⟨.slice (some ⟨g1,0,none⟩) 1 1,[(n0,d0)],0,.slice (some ⟨g2,0,none⟩) 1 1,[(n1,d1)],0⟩,rfl,⟨rfl,rfl,rfl,rfl,Nat.zero_le _,Nat.zero_le _,hl1,hl2⟩,by dsimp only;rw [hpz,hpz,rcs_one,rcs_one]⟩ (hf:=fit_bnd (C:=[pt c6 [powV c5] TPf,pt c1 (rrow p (v1,v2)) TRt,pt c3 (rrow q (l1,l2)) TRt,own T64 l1 (Us (dg q.num.natAbs)),own T64 l2 (Us (dg q.den)),pt c5 [.slice (some ⟨g1,0,none⟩) 1 1,.slice (some ⟨g2,0,none⟩) 1 1] TPw,oww TRt 3 (.slice (some ⟨g1,0,none⟩) 1 1) 1 (rrow o (n0,d0)),ofr [(n0,d0)] [o],oww TRt 3 (.slice (some ⟨g2,0,none⟩) 1 1) 1 (rrow o (n1,d1)),ofr [(n1,d1)] [o]]) fitA) (nb:=nb1' (bnd_nob (by repeat (first | exact nb0 | refine nb1 ?_))))
 ·intro b' kb
  refine rs (fun w'=>w'.heap[c1]? = some (.cells (rrow p (v1,v2)).toArray TRt (0,0))) ?_ (fun w' hw=>pt_at memA hw)
  refine tk 1 (v:=.agg (rrow p (v1,v2)).toArray) (fun w' h=>R_loadA (E:=env) (vs:=rrow p (v1,v2)) rfl rfl rfl rfl h rfl rfl) ?_
  refine t2 0 6 ?_ ?_
  ·refine ca hW ?_
   rintro _ _ ⟨n1,d1,rfl,hn1,hd1,rfl⟩
   refine nl ?_
   refine te (fun w' hw=>pt_at memA hw) ?_
   refine t2 2 6 ?_ ?_
   ·refine ca (hS n1 d1 hn1 hd1) ?_
    rintro _ _ ⟨l1,l2,rfl,hl1,hl2,rfl⟩
    refine nl ?_
    refine te (fun w' hw=>pt_at memA hw) ?_
    refine tka 3 ?_
    refine tka 4 ?_
    refine tka 5 ?_
    refine t1 6 ?_
    refine al fun c3=>?_
    refine nl ?_
    refine te (fun w' hw=>pt_at memA hw) ?_
    refine t1 7 ?_
    refine srz ?_
    refine nl ?_
    refine te (fun w' hw=>pt_at memA hw) ?_
    refine tka 8 ?_
    refine t0 ?_
    repeat' first|refine xc ?_
    exact kb (c3,l1,l2) ⟨hl1,hl2⟩ _ _ (by (repeat (refine Sub.cons rfl (by first | rfl | go_num) ?_));exact Sub.nil) fitA
   ·refine al fun c3=>?_
    refine nl ?_
    refine te (fun w' hw=>pt_at memA hw) ?_
    refine t1 2 ?_
    refine ca (hS n1 d1 hn1 hd1) ?_
    rintro _ _ ⟨l1,l2,rfl,hl1,hl2,rfl⟩
    refine nl ?_
    refine te (fun w' hw=>pt_at memA hw) ?_
    refine tka 3 ?_
    refine tka 4 ?_
    refine tka 5 ?_
    refine t1 7 ?_
    refine srz ?_
    refine nl ?_
    refine te (fun w' hw=>pt_at memA hw) ?_
    refine tka 8 ?_
    refine t0 ?_
    repeat' first|refine xc ?_
    exact kb (c3,l1,l2) ⟨hl1,hl2⟩ _ _ (by (repeat (refine Sub.cons rfl (by first | rfl | go_num) ?_));exact Sub.nil) fitA
  ·refine al fun c3=>?_
   refine nl ?_
   refine te (fun w' hw=>pt_at memA hw) ?_
   refine t1 0 ?_
   refine ca hW ?_
   rintro _ _ ⟨n1,d1,rfl,hn1,hd1,rfl⟩
   refine nl ?_
   refine te (fun w' hw=>pt_at memA hw) ?_
   refine t1 2 ?_
   refine ca (hS n1 d1 hn1 hd1) ?_
   rintro _ _ ⟨l1,l2,rfl,hl1,hl2,rfl⟩
   refine nl ?_
   refine te (fun w' hw=>pt_at memA hw) ?_
   refine tka 3 ?_
   refine tka 4 ?_
   refine tka 5 ?_
   refine t1 7 ?_
   refine srz ?_
   refine nl ?_
   refine te (fun w' hw=>pt_at memA hw) ?_
   refine tka 8 ?_
   refine t0 ?_
   repeat' first|refine xc ?_
   exact kb (c3,l1,l2) ⟨hl1,hl2⟩ _ _ (by (repeat (refine Sub.cons rfl (by first | rfl | go_num) ?_));exact Sub.nil) fitA
end Go.Art
namespace Go.Art
open Go Go.Proofs Go.RowKit
theorem pow_lt_W {F B j:Nat} (hF:F < 18446744073709551616 ^ B) (hj:j ≤ 13):F ^ j < 18446744073709551616 ^ (B * 13 + 1):=by
 have h1:F ^ j ≤ (18446744073709551616 ^ B) ^ j:=Nat.pow_le_pow_left (Nat.le_of_lt hF) j
 rw [← Nat.pow_mul] at h1
 refine Nat.lt_of_le_of_lt h1 ?_
 refine Nat.pow_lt_pow_right (by decide) ?_
 have:=Nat.mul_le_mul_left B hj
 omega
theorem Ch01.lack {F:Nat} {p:Rat} (h:Ch01 F p):Ch01 F (1 - p):=⟨h.fr.lack h.nz h.le,by have:=h.fr.nonneg;grind,h.nz⟩
theorem Ch01.powFB {F B:Nat} {p:Rat} (h:Ch01 F p) (hF:F < 18446744073709551616 ^ B) (hB:B ≤ 12) {j:Nat} (hj:j ≤ 13):FB (p ^ j) 8589934592:=by
 refine (FB_le1 (B:=B * 13 + 1) (h.fr.pow j) (Nat.ne_of_gt (Nat.pow_pos (Nat.pos_of_ne_zero h.nz))) (pow_leR h.fr.nonneg h.le j) (pow_lt_W hF hj)).le ?_
 omega
theorem PwB_of {F B:Nat} {p:Rat} (h:Ch01 F p) (hF:F < 18446744073709551616 ^ B) (hB:B ≤ 12):PwB p:=by
 refine ⟨fun j hj=>h.powFB hF hB hj,fun j hj=>h.lack.powFB hF hB hj,fun m s hm hs=>?_⟩
 obtain ⟨b,hb,hq⟩:=(h.fr.pow s).le (Nat.ne_of_gt (Nat.pow_pos (Nat.pos_of_ne_zero h.nz))) (pow_leR h.fr.nonneg h.le s)
 rw [hq]
 have e:(chs m s:Rat) * ((b:Rat) / ((F ^ s:Nat):Rat)) = ((chs m s * b:Nat):Rat) / ((F ^ s:Nat):Rat):=by
  rw [Rat.div_def,Rat.div_def];push_cast;grind
 rw [e]
 have h1:=pow_lt_W (j:=s) hF (by omega)
 refine (FB_nat (B:=B * 13 + 2) (Nat.ne_of_gt (Nat.pow_pos (Nat.pos_of_ne_zero h.nz))) ?_ ?_).le (by omega)
 ·have h2:chs m s ≤ 2 ^ 12:=Nat.le_trans (chs_le m s) (Nat.pow_le_pow_right (by decide) hm)
  have h3:chs m s * b ≤ 2 ^ 12 * 18446744073709551616 ^ (B * 13 + 1):=Nat.mul_le_mul h2 (Nat.le_trans hb (Nat.le_of_lt h1))
  refine Nat.lt_of_le_of_lt h3 ?_
  rw [show B * 13 + 2 = B * 13 + 1 + 1 from rfl,Nat.pow_succ 18446744073709551616 (B * 13 + 1),Nat.mul_comm]
  exact Nat.mul_lt_mul_of_pos_left (by decide) (Nat.pow_pos (by decide))
 ·exact Nat.lt_of_lt_of_le h1 (Nat.pow_le_pow_right (by decide) (by omega))
theorem pT_ch {t:List Int} {k:Nat} (hz:solE t k = 0):Ch01 (oneS t k) (pT t k):=p_ch (oneS_pos hz) (tabX_one hz)
theorem fT_ch {t:List Int} {k u:Nat} (hz:solE t k = 0) (h1:1 ≤ u) (hu:u ≤ k):Ch01 (fT t k u).den (fT t k u)∧(fT t k u).den ≤ u * oneS t k:=free_ch (oneS_pos hz) (tabX_one hz) h1 hu
theorem fT_lt {t:List Int} {k u:Nat} (hz:solE t k = 0) (hk:k ≤ 40) (hl:t.length ≤ 12) (h1:1 ≤ u) (hu:u ≤ k):(fT t k u).den < 18446744073709551616 ^ 11:=by
 have h2:=oneS_lt hz hk hl
 have h3:=(fT_ch hz h1 hu).2
 have h4:u * oneS t k ≤ 40 * 18446744073709551616 ^ 10:=Nat.mul_le_mul (by omega) (Nat.le_of_lt h2)
 exact Nat.lt_of_le_of_lt (Nat.le_trans h3 h4) (by decide)
def firP (p:Rat) (n m:Nat):List Rat:=(List.range m).foldl (fun l r=>l.set ((n - r) * (n + 1) + r) (shar p n r)) (List.replicate ((n + 1) * (n + 1)) 0)
theorem firP_succ (p:Rat) (n m:Nat):firP p n (m + 1) = (firP p n m).set ((n - m) * (n + 1) + m) (shar p n m):=by unfold firP;rw [List.range_succ,List.foldl_append];rfl
theorem firP_all (p:Rat) (n:Nat):firP p n (n + 1) = firstR p n:=rfl
theorem firP_zero (p:Rat) (n:Nat):firP p n 0 = List.replicate ((n + 1) * (n + 1)) 0:=rfl
attribute [local irreducible] Fit pt own ro vw mpc lpt vels rels mow lrc dfr
attribute [local irreducible] lmp lme mit velg relg bnd owl dfrl gow shB
abbrev gP (n:Nat) (v:Value) (qs:List Rat) (es:List (Option HV)) (z:HV):List Ch:=[oww TRt 3 v ((n + 1) * (n + 1)) (rcs qs (hsE z es)),gow es qs,own T64 z.1 (Us (dg (0:Rat).num.natAbs)),own T64 z.2 (Us (dg (0:Rat).den))]
abbrev GR (n:Nat) (qs:List Rat) (u:Value) (D:List Ch):Prop:=∃ v es z,u = gV n v∧v.oneCell' = true∧(z.1.oneCell' = true∧z.2.oneCell' = true)∧Grd n es qs∧D = gP n v qs es z
theorem first_tr (tv:Value) (htv:tv.oneCell' = true) (t:List Int) (k n:Nat) (hz:solE t k = 0) (hk:k ≤ 40) (hl:t.length ≤ 12) (hn:n ≤ 12):Tr Tryz.prog 106 [tv,I k,I n] [vw tv (Is t)] [] (GR n (lvT t k n 0)):=by
 have hk1:=(solE_zero hz).1
 have hW:=whole_tr 0 (by decide)
 rw [zero_mk] at hW
 have hM:=fun z1 z2 h1 h2=>made_tr n _ 0 z1 z2 h1 h2 rfl hn
 have hI:=In_tr tv htv t k k 1 hz hk hl (Nat.le_refl k) (by omega)
 have hpB:=PwB_of (pT_ch hz) (oneS_lt hz hk hl) (by decide)
 have hpF:FB (pT t k) 8589934592:=(evI_FB hz hk hl (Nat.le_refl k) (Nat.le_refl _)).le (by decide)
 have hSh:=fun v1 v2 h1 h2=>shares_tr (pT t k) (v1,v2) h1 h2 hpF
 rw [show lvT t k n 0 = firP (pT t k) n (n + 1) from rfl]
 unfold FQ2 at hI
 unfold FQ at hW
 dsimp only at hSh
 have hI2:evI t.length k (omg t k) k 1 = pT t k:=rfl
 rw [hI2] at hI
 clear hI2 hz hpF
 generalize pT t k = p at *
 obtain ⟨N,hN⟩ : ∃ N,N = (n + 1) * (n + 1):=⟨_,rfl⟩
 obtain ⟨o,ho⟩ : ∃ o:Rat,o = 0:=⟨_,rfl⟩
 have hN1:=hN
 rw [← ho] at hW hM
 have e0:((0:Nat):Int) = 0:=rfl
 have e1:((1:Nat):Int) = 1:=rfl
 rw [e0] at hW
 rw [e1] at hI
 have hNi:∀ i r,i ≤ n→r ≤ n→i * (n + 1) + r < N:=fun i r h1 h2=>by rw [hN];exact place_lt h1 h2
 refine Tr.enter env _ Tryz.func106 (by kernel_rfl) rfl Tryz.ntmps106 rfl (by repeat (first | exact has00 | refine has01 ?_)) fun w0=>?_
 repeat' first|(refine gca ?_;first|(refine ca hW ?_;rintro _ _ ⟨z1,z2,rfl,hz1,hz2,rfl⟩)|(refine ca (hM z1 z2 hz1 hz2) ?_;rintro _ _ ⟨v,rfl,hv,rfl⟩)|(refine ca hI ?_;rintro _ _ ⟨p1,p2,rfl,hp1,hp2,rfl⟩)|(refine ca (hSh p1 p2 hp1 hp2) ?_;rintro _ _ ⟨c,g,rfl,hg,rfl⟩))|refine al fun c7=>?_|refine srz ?_|refine lda ?_|(refine wo ?_;first|(refine ao ?_;first|refine aw ?_)|refine oa ?_)|refine sq ?_|refine rg ?_|refine xc ?_|refine nl ?_|refine bk ?_
 rename_i c6 c7g
 subst ho
 refine TC.im (gow_none _ ((n + 1) * (n + 1)) (List.replicate ((n + 1) * (n + 1)) 0)) ?_
 rw [← firP_zero p n,← hsE_none (z1,z2)]
 refine TC.loop (ι:=FiG) (fun g=>[(26,I g.r)]) (fun g=>[oww TRt 3 v ((n + 1) * (n + 1)) (rcs (firP p n g.r) (hsE (z1,z2) g.es)),gow g.es (firP p n g.r),shB c p (p1,p2) g.g]) (fun g=>g.r ≤ n + 1∧Grd n g.es (firP p n g.r)∧ShOk c g.g) (fun g=>n + 1 - g.r) ⟨0,List.replicate ((n + 1) * (n + 1)) none,g⟩ [2,6,7,10,25] ⟨Nat.zero_le _,Grd.none n,hg⟩ ?_
 rintro ⟨r,es,g⟩ ⟨hr,hgr,hg⟩
 dsimp only at hr hgr hg ⊢
 by_cases hlt:r < n + 1
 ·have hS:=share_tr c p (p1,p2) g hp1 hp2 hg hpB n r hn (by omega)
  have hA:=fun xs=>gat_tr n v xs (n - r) r hv hn (by omega) (by omega)
  have hj:=hNi (n - r) r (by omega) (by omega)
  have hset:=rcs_setE (z:=(z1,z2)) hgr (i:=(n - r) * (n + 1) + r) (by rw [← hN];exact hj) (shar p n r)
  have hgo:=fun v1 v2=>hgr.set (i:=(n - r) * (n + 1) + r) (by rw [← hN];exact hj) (shar p n r) (v1,v2)
  have hsu:=firP_succ p n r
  rw [← hsu] at hgo
  simp only [← hsu] at hset
  have hel:=hgr.el
  have hql:=hgr.ql
  clear hpB hM hI hW hSh hNi
  obtain ⟨j,hjj⟩ : ∃ j,j = (n - r) * (n + 1) + r:=⟨_,rfl⟩
  rw [← hN] at hel hql
  rw [← hjj] at hA hj hset hgo hsu
  have hnr:(n:Int) - r = ((n - r:Nat):Int):=by omega
  clear hjj
  rw [← hN]
  rw [← hN] at hA
  generalize shar p n r = q at *
  generalize firP p n r = F at *
  obtain ⟨F2,hF2⟩ : ∃ F2,F2 = firP p n (r + 1):=⟨_,rfl⟩
  rw [← hF2] at hgo hsu
  simp only [← hF2] at hset
  repeat' first|(refine gca ?_;first|(refine ca (hA _) ?_ (hp:=has1 (has_oww memA) has0);rintro _ _ ⟨rfl,rfl⟩))|refine lda (cs:=[I n,v]) ?_|(refine aw (m:=(n:Int) - r) ?_;rw [hnr])|(refine cav (cap:=#[ptr c.bq,ptr c.bp,ptr c.bl]) (vs:=[I n,I r]) hS ?_;rintro _ _ ⟨g',vn,vd,rfl,hvn,hvd,hg',rfl⟩)|refine sow (sz:=3) (m:=3 * j) (N:=N) (xs:=rcs F (hsE (z1,z2) es)) (vs:=rrow q (vn,vd)) (by omega) ?_ (h1:=one_cons rfl (one_cons hvn (one_cons hvd one_nil)))|(refine wo ?_;first|(refine ao ?_;first|refine aw ?_|refine oa ?_)|refine oa ?_)|(refine gc ?_;first|(refine ci (fun hB=>?_) (fun hB=>?_) <;> try (exfalso;omega)))|refine sq ?_|refine rg ?_|refine xc ?_|refine nl ?_|refine sk ?_|refine bk ?_|refine xb ?_
  refine TX.im (gow_set (es:=es) (qs:=F) (by rw [hel,hql]) (i:=j) (by rw [hql];exact hj) q vn vd fitA) ?_
  rw [hset,← hsu]
  exact lp ⟨r + 1,es.set j (some (vn,vd)),g'⟩ ⟨hlt,by dsimp only;rw [← hF2];exact hgo vn vd,hg'⟩ (hf:=by dsimp only;rw [← hF2];exact fitA)
 ·obtain rfl:r = n + 1:=by omega
  repeat' first|refine lda (cs:=[I n,v]) ?_|refine srz ?_|(refine wo ?_;first|(refine ao ?_;first|refine oa ?_))|(refine gc ?_;first|(refine ci (fun hB=>?_) (fun hB=>?_) <;> try (exfalso;omega)))|refine sq ?_|refine rg ?_|refine xc ?_|refine nl ?_|refine xe ?_|refine rt ?_
  exact rca1 (b:=c6) (cs:=[I n,v]) (vs:=[I n,v]) (T:=TGr) ⟨v,es,(z1,z2),rfl,hv,⟨hz1,hz2⟩,hgr,rfl⟩
end Go.Art
namespace Go.Art
open Go Go.Proofs Go.RowKit
theorem mul_le1 {q r:Rat} (hq:0 ≤ q) (h1:q ≤ 1) (h3:r ≤ 1):q * r ≤ 1:=by
 have:=Rat.mul_le_mul_of_nonneg_left h3 hq
 rw [Rat.mul_one] at this
 exact Rat.le_trans this h1
structure NxF (n B:Nat) (f g:Rat) (x:List Rat) (i a b:Nat):Prop where
 cr:i / (n + 1) + i % (n + 1) ≤ n
 y:FB (x.getD i 0) B
 sf:FB (shar f (i / (n + 1)) a) B
 sg:FB (shar g (i % (n + 1) - 1) b) B
 ys:FB (x.getD i 0 * shar f (i / (n + 1)) a) B
 p:FB (x.getD i 0 * shar f (i / (n + 1)) a * shar g (i % (n + 1) - 1) b) B
 o:∀ j,j < (n + 1) * (n + 1)→FB ((outB n f g (x.getD i 0) (i / (n + 1)) (i % (n + 1)) a (outA n f g (x.getD i 0) (i / (n + 1)) (i % (n + 1)) (outN n f g x i) a) b).getD j 0) B
theorem nx_facts {n E F u B:Nat} {f:Rat} {x:List Rat} (hf:Ch01 F f) (hg:Ch01 u (1 / (u:Rat))) (hs:Supp n x) (hx:Lv n E x) (ht:tot n x ≤ 1) (hE:E ≠ 0) (hB:E * (F ^ n * u ^ n) < 18446744073709551616 ^ B)
  {i:Nat} (hi:i < (n + 1) * (n + 1)) (h:¬ (i % (n + 1) = 0∨x.getD i 0 = 0)) {a:Nat} (ha:a ≤ i / (n + 1)) (h2:¬ shar f (i / (n + 1)) a = 0) {b:Nat} (hb:b < i % (n + 1)):NxF n B f (1 / (u:Rat)) x i a b:=by
 have hcr:i / (n + 1) + i % (n + 1) ≤ n:=by
  rcases Nat.lt_or_ge n (i / (n + 1) + i % (n + 1)) with h1 | h1
  ·exact absurd (.inr (hs.z i hi h1)) h
  ·exact h1
 have hF0:F ^ n ≠ 0:=Nat.ne_of_gt (Nat.pow_pos (Nat.pos_of_ne_zero hf.nz))
 have hu0:u ^ n ≠ 0:=Nat.ne_of_gt (Nat.pow_pos (Nat.pos_of_ne_zero hg.nz))
 have hFu:=Nat.mul_ne_zero hF0 hu0
 have hE0:=Nat.mul_ne_zero hE hFu
 have le1:E ≤ E * (F ^ n * u ^ n):=Nat.le_mul_of_pos_right _ (Nat.pos_of_ne_zero hFu)
 have le2:F ^ n ≤ E * (F ^ n * u ^ n):=Nat.le_trans (Nat.le_mul_of_pos_right _ (Nat.pos_of_ne_zero hu0)) (Nat.le_mul_of_pos_left _ (Nat.pos_of_ne_zero hE))
 have le3:u ^ n ≤ E * (F ^ n * u ^ n):=Nat.le_trans (Nat.le_mul_of_pos_left _ (Nat.pos_of_ne_zero hF0)) (Nat.le_mul_of_pos_left _ (Nat.pos_of_ne_zero hE))
 have le4:E * F ^ n ≤ E * (F ^ n * u ^ n):=Nat.mul_le_mul_left E (Nat.le_mul_of_pos_right _ (Nat.pos_of_ne_zero hu0))
 have y0:=hx.fr i hi
 have y1:x.getD i 0 ≤ 1:=Rat.le_trans (hx.le_tot hi) ht
 have f0:=shar_fr (n:=n) hf ha (by omega)
 have f1:=shar_le hf ha
 have g0:=shar_fr (n:=n) (m:=i % (n + 1) - 1) (s:=b) hg (by omega) (by omega)
 have g1:=shar_le (m:=i % (n + 1) - 1) (s:=b) hg (by omega)
 have m1:=mul_le1 y0.nonneg y1 f1
 have m2:=mul_le1 (y0.mul f0).nonneg m1 g1
 have p0:=(y0.mul f0).mul g0
 rw [Nat.mul_assoc] at p0
 refine ⟨hcr,FB_le1 y0 hE y1 (by omega),FB_le1 f0 hF0 f1 (by omega),FB_le1 g0 hu0 g1 (by omega),FB_le1 (y0.mul f0) (Nat.mul_ne_zero hE hF0) m1 (by omega),FB_le1 p0 hE0 m2 hB,fun j hj=>?_⟩
 obtain ⟨k1,k2⟩:=out_okB hf hg hs hx ht hi h ha h2 (b:=b) (by omega)
 exact FB_le1 (k1.fr j hj) hE0 (Rat.le_trans (k1.le_tot hj) k2) hB
theorem y_FB {n E B:Nat} {x:List Rat} (hx:Lv n E x) (ht:tot n x ≤ 1) (hE:E ≠ 0) (hB:E < 18446744073709551616 ^ B) {i:Nat} (hi:i < (n + 1) * (n + 1)):FB (x.getD i 0) B:=FB_le1 (hx.fr i hi) hE (Rat.le_trans (hx.le_tot hi) ht) hB
theorem s_FB {n E F u B:Nat} {f:Rat} {x:List Rat} (hf:Ch01 F f) (hu:u ≠ 0) (hs:Supp n x) (hE:E ≠ 0) (hB:E * (F ^ n * u ^ n) < 18446744073709551616 ^ B) {i:Nat} (hi:i < (n + 1) * (n + 1)) (h:¬ (i % (n + 1) = 0∨x.getD i 0 = 0)) {a:Nat} (ha:a ≤ i / (n + 1)):i / (n + 1) + i % (n + 1) ≤ n∧FB (shar f (i / (n + 1)) a) B:=by
 have hcr:i / (n + 1) + i % (n + 1) ≤ n:=by
  rcases Nat.lt_or_ge n (i / (n + 1) + i % (n + 1)) with h1 | h1
  ·exact absurd (.inr (hs.z i hi h1)) h
  ·exact h1
 have hF0:F ^ n ≠ 0:=Nat.ne_of_gt (Nat.pow_pos (Nat.pos_of_ne_zero hf.nz))
 have hu0:u ^ n ≠ 0:=Nat.ne_of_gt (Nat.pow_pos (Nat.pos_of_ne_zero hu))
 have le2:F ^ n ≤ E * (F ^ n * u ^ n):=Nat.le_trans (Nat.le_mul_of_pos_right _ (Nat.pos_of_ne_zero hu0)) (Nat.le_mul_of_pos_left _ (Nat.pos_of_ne_zero hE))
 exact ⟨hcr,FB_le1 (shar_fr (n:=n) hf ha (by omega)) hF0 (shar_le hf ha) (by omega)⟩
open Go Go.Proofs Go.RowKit
structure NxS where
 i:Nat
 es:List (Option HV)
 gf:ShG
 gg:ShG
structure NxB where
 b:Nat
 es:List (Option HV)
 gg:ShG
structure NxC where
 v:Value
 z:HV
 c9:Nat
structure NxD where
 c14:Nat
 c15:Nat
 cf:ShC
 cg:ShC
 gf:ShG
 gg:ShG
section
variable {P:Program} {E:Env P} {n:Sh} {X:Cx} {s:List K} {fr:Fr} {A:List Ch} {ops:Array Oper} {S:World→Prop} {fuel:Nat} {listed:Array Bool}
theorem krw (i:Nat) (c:Int) {m:Int} {d:Nat} {o:Op} {ty:TypeId} {pos:String} {after:Array Edge} (k:TS E n X s S ops fuel (listed.setIfInBounds i true) ((d,I c) :: fr) A) (hi:ops[i]? = some ⟨some d,o,ty,pos,after,none⟩:=by rfl) (hv:evOp E fr o = some (.int .i64 (IntKind.i64.wrap m)):=by rfl) (he:m = c:=by first | rfl | assumption | omega) (hb : -9223372036854775808 ≤ m∧m ≤ 9223372036854775807:=by omega) (hs:Region.noSelect ops = true:=by kernel_rfl) (hf:Region.free .any ops listed i = true:=by kernel_rfl)
  (hr:(Region.ready .any ops listed).contains i = true:=by kernel_rfl) (hnd:noDef ops = true:=by kernel_rfl) (hd:Nat.blt d n.n = true:=by rfl) (hab:∀ w ρ,(⟨some d,o,ty,pos,after,none⟩ : Oper).about P w ρ = none:=by exact fun _ _=>rfl):TS E n X s S ops (fuel + 1) listed fr A:=
 kr i (fun _ _=>by subst he;exact R_wrap (R_auto hv) hb) k hi hs hf hr hnd hd hab
end
structure NxM where
 c23:Nat
 m1:Value
 m2:Value
 gg:ShG
theorem inv_mk (u:Nat):mkRat ((1:Nat):Int) u = 1 / (u:Rat):=by rw [Rat.mkRat_eq_div];rfl
attribute [local irreducible] Fit pt own ro vw mpc lpt vels rels mow lrc dfr
attribute [local irreducible] lmp lme mit velg relg bnd owl dfrl gow shB
abbrev TSh:TypeId:=191
abbrev TPl:TypeId:=85
set_option maxHeartbeats 1000000 in
theorem nxt_tr (tv gv:Value) (htv:tv.oneCell' = true) (hgv:gv.oneCell' = true) (t:List Int) (k u n E B:Nat) (xs:List Rat) (hs:List HV) (hz:solE t k = 0) (hk:k ≤ 40) (hl:t.length ≤ 12) (hn:n ≤ 12) (hu1:1 ≤ u) (hu:u ≤ k)
  (hlen:hs.length = xs.length) (hsu:Supp n xs) (hlv:Lv n E xs) (htot:tot n xs ≤ 1) (hE:E ≠ 0) (hBd:E * ((fT t k u).den ^ n * u ^ n) < 18446744073709551616 ^ B) (hB0:B ≤ 8589934592) :
  Tr Tryz.prog 107 [gV n gv,tv,I k,I u] [vw tv (Is t),vwf gv ((n + 1) * (n + 1)) (rcs xs hs),vfr hs xs] [] (GR n (nextR (fT t k u) (1 / (u:Rat)) n xs)):=by
 have hf:=(fT_ch hz hu1 hu).1
 have hg:=one_over (u:=u) (by omega)
 have hEB:E < 18446744073709551616 ^ B:=Nat.lt_of_le_of_lt (Nat.le_mul_of_pos_right _ (Nat.pos_of_ne_zero (Nat.mul_ne_zero (Nat.ne_of_gt (Nat.pow_pos (Nat.pos_of_ne_zero hf.nz))) (Nat.ne_of_gt (Nat.pow_pos (by omega)))))) hBd
 have hnx:=fun i a b h1 h2 h3 h4 h5=>nx_facts (i:=i) (a:=a) (b:=b) hf hg hsu hlv htot hE hBd h1 h2 h3 h4 h5
 have hyF:=fun i hi=>(y_FB (i:=i) hlv htot hE hEB hi).le hB0
 have hsF:=fun i a hi h ha=>s_FB (i:=i) (a:=a) hf (show u ≠ 0 by omega) hsu hE hBd hi h ha
 have hpf:=PwB_of hf (fT_lt hz hk hl hu1 hu) (by decide)
 have hpg:=PwB_of (B:=1) hg (by have:=(solE_zero hz).1;omega) (by decide)
 have hFf:FB (fT t k u) 8589934592:=by have:=hpf.hp 1 (by decide);rwa [show fT t k u ^ 1 = fT t k u by rw [Rat.pow_succ,Rat.pow_zero,Rat.one_mul]] at this
 have hFg:FB (1 / (u:Rat)) 8589934592:=by have:=hpg.hp 1 (by decide);rwa [show (1 / (u:Rat)) ^ 1 = 1 / (u:Rat) by rw [Rat.pow_succ,Rat.pow_zero,Rat.one_mul]] at this
 have hFree:=Free_tr tv htv t k u hz hk hl hu1 hu
 have hPair:=FPair_tr 1 u (by decide) (by omega) (by omega)
 rw [inv_mk] at hPair
 have hW:=whole_tr 0 (by decide)
 rw [zero_mk] at hW
 have hM:=fun z1 z2 h1 h2=>made_tr n _ 0 z1 z2 h1 h2 rfl hn
 have hSf:=fun v1 v2 h1 h2=>shares_tr (fT t k u) (v1,v2) h1 h2 hFf
 have hSg:=fun v1 v2 h1 h2=>shares_tr (1 / (u:Rat)) (v1,v2) h1 h2 hFg
 have hql:xs.length = (n + 1) * (n + 1):=hlv.len
 have hPl:=places_tr n gv hgv
 unfold FQ2 at hFree hPair
 unfold FQ at hW
 dsimp only at hSf hSg
 have e0:((0:Nat):Int) = 0:=rfl
 have e1:((1:Nat):Int) = 1:=rfl
 rw [e0] at hW
 rw [e1] at hPair
 clear hz hsu htot hBd hEB hf hg hFf hFg hE hlv
 generalize fT t k u = f at *
 generalize 1 / (u:Rat) = g at *
 obtain ⟨o,ho⟩ : ∃ o:Rat,o = 0:=⟨_,rfl⟩
 rw [← ho] at hW hM
 refine Tr.enterM env _ Tryz.func107 (by kernel_rfl) rfl Tryz.ntmps107 rfl (by repeat (first | exact has00 | refine has01 ?_)) fun w0=>?_
 refine TC.fact (fun w hw i hi=>fr_one (hs:=hs) (qs:=xs) hasA hlen (i:=i) hi w hw) fun hone=>?_
 repeat' first|refine bx fun c4=>?_|refine al fun c8=>?_|refine sq ?_|refine rg ?_|refine xc ?_|refine nl ?_
 refine cutY (ι:=NxC) (fun x=>x.v.oneCell' = true∧x.z.1.oneCell' = true∧x.z.2.oneCell' = true) (fun x=>[(1,tv),(2,I k),(3,I u),(4,ptr c4),(8,ptr c8),(9,ptr x.c9)]) (fun x=>[pt x.c9 [I n,x.v] TGr,oww TRt 3 x.v ((n + 1) * (n + 1)) (rcs (List.replicate ((n + 1) * (n + 1)) o) (List.replicate ((n + 1) * (n + 1)) x.z)),own T64 x.z.1 (Us (dg o.num.natAbs)),own T64 x.z.2 (Us (dg o.den)),pt c8 [I 0,nS] TGr,pt c4 [I n,gv] TGr,vw tv (Is t),vwf gv ((n + 1) * (n + 1)) (rcs xs hs),vfr hs xs]) ?_ ?_
 rotate_left
 ·intro b' kb
  refine rs (fun w'=>w'.heap[c4]? = some (.cells [I n,gv].toArray TGr (0,0))) ?_ (fun w' hw=>pt_at memA hw)
  refine tka 0 ?_
  refine tkl 1 (cs:=[I n,gv]) (fun w' h=>h) ?_
  refine t2 2 4 ?_ ?_
  ·refine ca hW ?_
   rintro _ _ ⟨z1,z2,rfl,hz1,hz2,rfl⟩
   refine nl ?_
   refine te (fun w' hw=>pt_at memA hw) ?_
   refine t2 3 4 ?_ ?_
   ·refine ca (hM z1 z2 hz1 hz2) ?_
    rintro _ _ ⟨v,rfl,hv,rfl⟩
    refine nl ?_
    refine te (fun w' hw=>pt_at memA hw) ?_
    refine t1 4 ?_
    refine al fun c9=>?_
    refine nl ?_
    refine te (fun w' hw=>pt_at memA hw) ?_
    refine t1 5 ?_
    refine srz ?_
    refine nl ?_
    refine te (fun w' hw=>pt_at memA hw) ?_
    refine t0 ?_
    repeat' first|refine xc ?_
    exact kb ⟨v,(z1,z2),c9⟩ ⟨hv,hz1,hz2⟩ _ _ (by (repeat (refine Sub.cons rfl (by first | rfl | go_num) ?_));exact Sub.nil) fitA
   ·refine al fun c9=>?_
    refine nl ?_
    refine te (fun w' hw=>pt_at memA hw) ?_
    refine t1 3 ?_
    refine ca (hM z1 z2 hz1 hz2) ?_
    rintro _ _ ⟨v,rfl,hv,rfl⟩
    refine nl ?_
    refine te (fun w' hw=>pt_at memA hw) ?_
    refine t1 5 ?_
    refine srz ?_
    refine nl ?_
    refine te (fun w' hw=>pt_at memA hw) ?_
    refine t0 ?_
    repeat' first|refine xc ?_
    exact kb ⟨v,(z1,z2),c9⟩ ⟨hv,hz1,hz2⟩ _ _ (by (repeat (refine Sub.cons rfl (by first | rfl | go_num) ?_));exact Sub.nil) fitA
  ·refine al fun c9=>?_
   refine nl ?_
   refine te (fun w' hw=>pt_at memA hw) ?_
   refine t1 2 ?_
   refine ca hW ?_
   rintro _ _ ⟨z1,z2,rfl,hz1,hz2,rfl⟩
   refine nl ?_
   refine te (fun w' hw=>pt_at memA hw) ?_
   refine t1 3 ?_
   refine ca (hM z1 z2 hz1 hz2) ?_
   rintro _ _ ⟨v,rfl,hv,rfl⟩
   refine nl ?_
   refine te (fun w' hw=>pt_at memA hw) ?_
   refine t1 5 ?_
   refine srz ?_
   refine nl ?_
   refine te (fun w' hw=>pt_at memA hw) ?_
   refine t0 ?_
   repeat' first|refine xc ?_
   exact kb ⟨v,(z1,z2),c9⟩ ⟨hv,hz1,hz2⟩ _ _ (by (repeat (refine Sub.cons rfl (by first | rfl | go_num) ?_));exact Sub.nil) fitA
 rintro ⟨v,⟨z1,z2⟩,c9⟩ ⟨hv,hz1,hz2⟩
 dsimp only at hv hz1 hz2 ⊢
 clear hW hM
 repeat' first|(refine gca ?_;first|(refine ca hFree ?_;rintro _ _ ⟨f1,f2,rfl,hf1,hf2,rfl⟩)|(refine ca hPair ?_;rintro _ _ ⟨y1,y2,rfl,hy1,hy2,rfl⟩))|refine al fun c=>?_|refine srz ?_|(refine wo ?_;first|refine oa ?_)|refine sq ?_|refine rg ?_|refine xc ?_|refine nl ?_
 rename_i c10
 refine cutY (ι:=NxD) (fun x=>ShOk x.cf x.gf∧ShOk x.cg x.gg) (fun x=>[(4,ptr c4),(8,ptr c8),(9,ptr c9),(14,ptr x.c14),(15,ptr x.c15)]) (fun x=>[pt x.c14 [shV x.cf] TSh,pt x.c15 [shV x.cg] TSh,shB x.cf f (f1,f2) x.gf,shB x.cg g (y1,y2) x.gg,own T64 f1 (Us (dg f.num.natAbs)),own T64 f2 (Us (dg f.den)),own T64 y1 (Us (dg g.num.natAbs)),own T64 y2 (Us (dg g.den)),pt c9 [I n,v] TGr,oww TRt 3 v ((n + 1) * (n + 1)) (rcs (List.replicate ((n + 1) * (n + 1)) o) (List.replicate ((n + 1) * (n + 1)) (z1,z2))),own T64 z1 (Us (dg o.num.natAbs)),own T64 z2 (Us (dg o.den)),pt c8 [I 0,nS] TGr,pt c4 [I n,gv] TGr,vwf gv ((n + 1) * (n + 1)) (rcs xs hs),vfr hs xs]) ?_ ?_
 rotate_left
 ·intro b' kb
  refine rs (fun w'=>w'.heap[c10]? = some (.cells (rrow f (f1,f2)).toArray TRt (0,0))∧w'.heap[c]? = some (.cells (rrow g (y1,y2)).toArray TRt (0,0))) ?_ (fun w' hw=>⟨pt_at memA hw,pt_at memA hw⟩)
  refine tk 0 (v:=.agg (rrow f (f1,f2)).toArray) (fun w' h=>R_loadA (E:=env) (vs:=rrow f (f1,f2)) rfl rfl rfl rfl h.1 rfl rfl) ?_
  refine tk 2 (v:=.agg (rrow g (y1,y2)).toArray) (fun w' h=>R_loadA (E:=env) (vs:=rrow g (y1,y2)) rfl rfl rfl rfl h.2 rfl rfl) ?_
  refine t3 1 4 5 ?_ ?_ ?_
  ·refine ca (hSf f1 f2 hf1 hf2) ?_
   rintro _ _ ⟨cf,gf,rfl,hgf,rfl⟩
   refine nl ?_
   refine te (fun w' hw=>⟨pt_at memA hw,pt_at memA hw⟩) ?_
   refine t3 3 4 5 ?_ ?_ ?_
   ·refine ca (hSg y1 y2 hy1 hy2) ?_
    rintro _ _ ⟨cg,gg,rfl,hgg,rfl⟩
    refine nl ?_
    refine te (fun w' hw=>⟨pt_at memA hw,pt_at memA hw⟩) ?_
    refine t2 4 5 ?_ ?_
    ·refine al fun c14=>?_
     refine nl ?_
     refine te (fun w' hw=>⟨pt_at memA hw,pt_at memA hw⟩) ?_
     refine t1 5 ?_
     refine al fun c15=>?_
     refine nl ?_
     refine te (fun w' hw=>⟨pt_at memA hw,pt_at memA hw⟩) ?_
     refine t1 6 ?_
     refine sr ?_
     refine nl ?_
     refine te (fun w' hw=>⟨pt_at memA hw,pt_at memA hw⟩) ?_
     refine t1 7 ?_
     refine sr ?_
     refine nl ?_
     refine te (fun w' hw=>⟨pt_at memA hw,pt_at memA hw⟩) ?_
     refine t0 ?_
     repeat' first|refine xc ?_
     exact kb ⟨c14,c15,cf,cg,gf,gg⟩ ⟨hgf,hgg⟩ _ _ (by (repeat (refine Sub.cons rfl (by first | rfl | go_num) ?_));exact Sub.nil) fitA
    ·refine al fun c15=>?_
     refine nl ?_
     refine te (fun w' hw=>⟨pt_at memA hw,pt_at memA hw⟩) ?_
     refine t1 4 ?_
     refine al fun c14=>?_
     refine nl ?_
     refine te (fun w' hw=>⟨pt_at memA hw,pt_at memA hw⟩) ?_
     refine t1 6 ?_
     refine sr ?_
     refine nl ?_
     refine te (fun w' hw=>⟨pt_at memA hw,pt_at memA hw⟩) ?_
     refine t1 7 ?_
     refine sr ?_
     refine nl ?_
     refine te (fun w' hw=>⟨pt_at memA hw,pt_at memA hw⟩) ?_
     refine t0 ?_
     repeat' first|refine xc ?_
     exact kb ⟨c14,c15,cf,cg,gf,gg⟩ ⟨hgf,hgg⟩ _ _ (by (repeat (refine Sub.cons rfl (by first | rfl | go_num) ?_));exact Sub.nil) fitA
   ·refine al fun c14=>?_
    refine nl ?_
    refine te (fun w' hw=>⟨pt_at memA hw,pt_at memA hw⟩) ?_
    refine t2 3 5 ?_ ?_
    ·refine ca (hSg y1 y2 hy1 hy2) ?_
     rintro _ _ ⟨cg,gg,rfl,hgg,rfl⟩
     refine nl ?_
     refine te (fun w' hw=>⟨pt_at memA hw,pt_at memA hw⟩) ?_
     refine t1 5 ?_
     refine al fun c15=>?_
     refine nl ?_
     refine te (fun w' hw=>⟨pt_at memA hw,pt_at memA hw⟩) ?_
     refine t1 6 ?_
     refine sr ?_
     refine nl ?_
     refine te (fun w' hw=>⟨pt_at memA hw,pt_at memA hw⟩) ?_
     refine t1 7 ?_
     refine sr ?_
     refine nl ?_
     refine te (fun w' hw=>⟨pt_at memA hw,pt_at memA hw⟩) ?_
     refine t0 ?_
     repeat' first|refine xc ?_
     exact kb ⟨c14,c15,cf,cg,gf,gg⟩ ⟨hgf,hgg⟩ _ _ (by (repeat (refine Sub.cons rfl (by first | rfl | go_num) ?_));exact Sub.nil) fitA
    ·refine al fun c15=>?_
     refine nl ?_
     refine te (fun w' hw=>⟨pt_at memA hw,pt_at memA hw⟩) ?_
     refine t1 3 ?_
     refine ca (hSg y1 y2 hy1 hy2) ?_
     rintro _ _ ⟨cg,gg,rfl,hgg,rfl⟩
     refine nl ?_
     refine te (fun w' hw=>⟨pt_at memA hw,pt_at memA hw⟩) ?_
     refine t1 6 ?_
     refine sr ?_
     refine nl ?_
     refine te (fun w' hw=>⟨pt_at memA hw,pt_at memA hw⟩) ?_
     refine t1 7 ?_
     refine sr ?_
     refine nl ?_
     refine te (fun w' hw=>⟨pt_at memA hw,pt_at memA hw⟩) ?_
     refine t0 ?_
     repeat' first|refine xc ?_
     exact kb ⟨c14,c15,cf,cg,gf,gg⟩ ⟨hgf,hgg⟩ _ _ (by (repeat (refine Sub.cons rfl (by first | rfl | go_num) ?_));exact Sub.nil) fitA
   ·refine al fun c15=>?_
    refine nl ?_
    refine te (fun w' hw=>⟨pt_at memA hw,pt_at memA hw⟩) ?_
    refine t2 3 4 ?_ ?_
    ·refine ca (hSg y1 y2 hy1 hy2) ?_
     rintro _ _ ⟨cg,gg,rfl,hgg,rfl⟩
     refine nl ?_
     refine te (fun w' hw=>⟨pt_at memA hw,pt_at memA hw⟩) ?_
     refine t1 4 ?_
     refine al fun c14=>?_
     refine nl ?_
     refine te (fun w' hw=>⟨pt_at memA hw,pt_at memA hw⟩) ?_
     refine t1 6 ?_
     refine sr ?_
     refine nl ?_
     refine te (fun w' hw=>⟨pt_at memA hw,pt_at memA hw⟩) ?_
     refine t1 7 ?_
     refine sr ?_
     refine nl ?_
     refine te (fun w' hw=>⟨pt_at memA hw,pt_at memA hw⟩) ?_
     refine t0 ?_
     repeat' first|refine xc ?_
     exact kb ⟨c14,c15,cf,cg,gf,gg⟩ ⟨hgf,hgg⟩ _ _ (by (repeat (refine Sub.cons rfl (by first | rfl | go_num) ?_));exact Sub.nil) fitA
    ·refine al fun c14=>?_
     refine nl ?_
     refine te (fun w' hw=>⟨pt_at memA hw,pt_at memA hw⟩) ?_
     refine t1 3 ?_
     refine ca (hSg y1 y2 hy1 hy2) ?_
     rintro _ _ ⟨cg,gg,rfl,hgg,rfl⟩
     refine nl ?_
     refine te (fun w' hw=>⟨pt_at memA hw,pt_at memA hw⟩) ?_
     refine t1 6 ?_
     refine sr ?_
     refine nl ?_
     refine te (fun w' hw=>⟨pt_at memA hw,pt_at memA hw⟩) ?_
     refine t1 7 ?_
     refine sr ?_
     refine nl ?_
     refine te (fun w' hw=>⟨pt_at memA hw,pt_at memA hw⟩) ?_
     refine t0 ?_
     repeat' first|refine xc ?_
     exact kb ⟨c14,c15,cf,cg,gf,gg⟩ ⟨hgf,hgg⟩ _ _ (by (repeat (refine Sub.cons rfl (by first | rfl | go_num) ?_));exact Sub.nil) fitA
  ·refine al fun c14=>?_
   refine nl ?_
   refine te (fun w' hw=>⟨pt_at memA hw,pt_at memA hw⟩) ?_
   refine t2 1 5 ?_ ?_
   ·refine ca (hSf f1 f2 hf1 hf2) ?_
    rintro _ _ ⟨cf,gf,rfl,hgf,rfl⟩
    refine nl ?_
    refine te (fun w' hw=>⟨pt_at memA hw,pt_at memA hw⟩) ?_
    refine t2 3 5 ?_ ?_
    ·refine ca (hSg y1 y2 hy1 hy2) ?_
     rintro _ _ ⟨cg,gg,rfl,hgg,rfl⟩
     refine nl ?_
     refine te (fun w' hw=>⟨pt_at memA hw,pt_at memA hw⟩) ?_
     refine t1 5 ?_
     refine al fun c15=>?_
     refine nl ?_
     refine te (fun w' hw=>⟨pt_at memA hw,pt_at memA hw⟩) ?_
     refine t1 6 ?_
     refine sr ?_
     refine nl ?_
     refine te (fun w' hw=>⟨pt_at memA hw,pt_at memA hw⟩) ?_
     refine t1 7 ?_
     refine sr ?_
     refine nl ?_
     refine te (fun w' hw=>⟨pt_at memA hw,pt_at memA hw⟩) ?_
     refine t0 ?_
     repeat' first|refine xc ?_
     exact kb ⟨c14,c15,cf,cg,gf,gg⟩ ⟨hgf,hgg⟩ _ _ (by (repeat (refine Sub.cons rfl (by first | rfl | go_num) ?_));exact Sub.nil) fitA
    ·refine al fun c15=>?_
     refine nl ?_
     refine te (fun w' hw=>⟨pt_at memA hw,pt_at memA hw⟩) ?_
     refine t1 3 ?_
     refine ca (hSg y1 y2 hy1 hy2) ?_
     rintro _ _ ⟨cg,gg,rfl,hgg,rfl⟩
     refine nl ?_
     refine te (fun w' hw=>⟨pt_at memA hw,pt_at memA hw⟩) ?_
     refine t1 6 ?_
     refine sr ?_
     refine nl ?_
     refine te (fun w' hw=>⟨pt_at memA hw,pt_at memA hw⟩) ?_
     refine t1 7 ?_
     refine sr ?_
     refine nl ?_
     refine te (fun w' hw=>⟨pt_at memA hw,pt_at memA hw⟩) ?_
     refine t0 ?_
     repeat' first|refine xc ?_
     exact kb ⟨c14,c15,cf,cg,gf,gg⟩ ⟨hgf,hgg⟩ _ _ (by (repeat (refine Sub.cons rfl (by first | rfl | go_num) ?_));exact Sub.nil) fitA
   ·refine al fun c15=>?_
    refine nl ?_
    refine te (fun w' hw=>⟨pt_at memA hw,pt_at memA hw⟩) ?_
    refine t1 1 ?_
    refine ca (hSf f1 f2 hf1 hf2) ?_
    rintro _ _ ⟨cf,gf,rfl,hgf,rfl⟩
    refine nl ?_
    refine te (fun w' hw=>⟨pt_at memA hw,pt_at memA hw⟩) ?_
    refine t1 3 ?_
    refine ca (hSg y1 y2 hy1 hy2) ?_
    rintro _ _ ⟨cg,gg,rfl,hgg,rfl⟩
    refine nl ?_
    refine te (fun w' hw=>⟨pt_at memA hw,pt_at memA hw⟩) ?_
    refine t1 6 ?_
    refine sr ?_
    refine nl ?_
    refine te (fun w' hw=>⟨pt_at memA hw,pt_at memA hw⟩) ?_
    refine t1 7 ?_
    refine sr ?_
    refine nl ?_
    refine te (fun w' hw=>⟨pt_at memA hw,pt_at memA hw⟩) ?_
    refine t0 ?_
    repeat' first|refine xc ?_
    exact kb ⟨c14,c15,cf,cg,gf,gg⟩ ⟨hgf,hgg⟩ _ _ (by (repeat (refine Sub.cons rfl (by first | rfl | go_num) ?_));exact Sub.nil) fitA
  ·refine al fun c15=>?_
   refine nl ?_
   refine te (fun w' hw=>⟨pt_at memA hw,pt_at memA hw⟩) ?_
   refine t2 1 4 ?_ ?_
   ·refine ca (hSf f1 f2 hf1 hf2) ?_
    rintro _ _ ⟨cf,gf,rfl,hgf,rfl⟩
    refine nl ?_
    refine te (fun w' hw=>⟨pt_at memA hw,pt_at memA hw⟩) ?_
    refine t2 3 4 ?_ ?_
    ·refine ca (hSg y1 y2 hy1 hy2) ?_
     rintro _ _ ⟨cg,gg,rfl,hgg,rfl⟩
     refine nl ?_
     refine te (fun w' hw=>⟨pt_at memA hw,pt_at memA hw⟩) ?_
     refine t1 4 ?_
     refine al fun c14=>?_
     refine nl ?_
     refine te (fun w' hw=>⟨pt_at memA hw,pt_at memA hw⟩) ?_
     refine t1 6 ?_
     refine sr ?_
     refine nl ?_
     refine te (fun w' hw=>⟨pt_at memA hw,pt_at memA hw⟩) ?_
     refine t1 7 ?_
     refine sr ?_
     refine nl ?_
     refine te (fun w' hw=>⟨pt_at memA hw,pt_at memA hw⟩) ?_
     refine t0 ?_
     repeat' first|refine xc ?_
     exact kb ⟨c14,c15,cf,cg,gf,gg⟩ ⟨hgf,hgg⟩ _ _ (by (repeat (refine Sub.cons rfl (by first | rfl | go_num) ?_));exact Sub.nil) fitA
    ·refine al fun c14=>?_
     refine nl ?_
     refine te (fun w' hw=>⟨pt_at memA hw,pt_at memA hw⟩) ?_
     refine t1 3 ?_
     refine ca (hSg y1 y2 hy1 hy2) ?_
     rintro _ _ ⟨cg,gg,rfl,hgg,rfl⟩
     refine nl ?_
     refine te (fun w' hw=>⟨pt_at memA hw,pt_at memA hw⟩) ?_
     refine t1 6 ?_
     refine sr ?_
     refine nl ?_
     refine te (fun w' hw=>⟨pt_at memA hw,pt_at memA hw⟩) ?_
     refine t1 7 ?_
     refine sr ?_
     refine nl ?_
     refine te (fun w' hw=>⟨pt_at memA hw,pt_at memA hw⟩) ?_
     refine t0 ?_
     repeat' first|refine xc ?_
     exact kb ⟨c14,c15,cf,cg,gf,gg⟩ ⟨hgf,hgg⟩ _ _ (by (repeat (refine Sub.cons rfl (by first | rfl | go_num) ?_));exact Sub.nil) fitA
   ·refine al fun c14=>?_
    refine nl ?_
    refine te (fun w' hw=>⟨pt_at memA hw,pt_at memA hw⟩) ?_
    refine t1 1 ?_
    refine ca (hSf f1 f2 hf1 hf2) ?_
    rintro _ _ ⟨cf,gf,rfl,hgf,rfl⟩
    refine nl ?_
    refine te (fun w' hw=>⟨pt_at memA hw,pt_at memA hw⟩) ?_
    refine t1 3 ?_
    refine ca (hSg y1 y2 hy1 hy2) ?_
    rintro _ _ ⟨cg,gg,rfl,hgg,rfl⟩
    refine nl ?_
    refine te (fun w' hw=>⟨pt_at memA hw,pt_at memA hw⟩) ?_
    refine t1 6 ?_
    refine sr ?_
    refine nl ?_
    refine te (fun w' hw=>⟨pt_at memA hw,pt_at memA hw⟩) ?_
    refine t1 7 ?_
    refine sr ?_
    refine nl ?_
    refine te (fun w' hw=>⟨pt_at memA hw,pt_at memA hw⟩) ?_
    refine t0 ?_
    repeat' first|refine xc ?_
    exact kb ⟨c14,c15,cf,cg,gf,gg⟩ ⟨hgf,hgg⟩ _ _ (by (repeat (refine Sub.cons rfl (by first | rfl | go_num) ?_));exact Sub.nil) fitA
 rintro ⟨c14,c15,cf,cg,gf,gg⟩ ⟨hgf,hgg⟩
 dsimp only at hgf hgg ⊢
 clear hSf hSg hFree hPair
 repeat' first|(refine gca ?_;first|(refine ca hPl ?_;rintro _ _ ⟨bp,rfl,rfl⟩))|refine lda (cs:=[I n,gv]) ?_|refine sq ?_|refine rg ?_|refine xc ?_|refine nl ?_|refine bk ?_
 subst ho
 refine TC.im (gow_none _ ((n + 1) * (n + 1)) (List.replicate ((n + 1) * (n + 1)) 0)) ?_
 rw [← outN_zero n f g xs,← hsE_none (z1,z2)]
 have hrun:=@SeqP.run _ _ _ _ _ _ _ (places1_seq bp n gv xs hs hlen hql hn hone)
 clear hPl
 refine TC.range [lbd [lpt c14 [shV cf] TSh,lpt c15 [shV cg] TSh,vw f1 (Us (dg f.num.natAbs)),vw f2 (Us (dg f.den)),vw y1 (Us (dg g.num.natAbs)),vw y2 (Us (dg g.den)),lpt c9 [I n,v] TGr,vw z1 (Us (dg (0:Rat).num.natAbs)),vw z2 (Us (dg (0:Rat).den)),vfr hs xs],lbd [lpt bp [I n,gv] TGr,vwf gv ((n + 1) * (n + 1)) (rcs xs hs)]] [oww TRt 3 v ((n + 1) * (n + 1)) (rcs (outN n f g xs 0) (hsE (z1,z2) (List.replicate ((n + 1) * (n + 1)) none))),gow (List.replicate ((n + 1) * (n + 1)) none) (outN n f g xs 0),shB cf f (f1,f2) gf,shB cg g (y1,y2) gg] (fun l2 rec Dm pend B'=>∃ s:NxS,B' = [dfr Dm,oww TRt 3 v ((n + 1) * (n + 1)) (rcs (outN n f g xs ((n + 1) * (n + 1))) (hsE (z1,z2) s.es)),gow s.es (outN n f g xs ((n + 1) * (n + 1))),shB cf f (f1,f2) s.gf,shB cg g (y1,y2) s.gg]∧pend = none∧Grd n s.es (outN n f g xs ((n + 1) * (n + 1)))) ?_ ?_ (hp:=has1 (lbd_of (by repeat (first | exact has0 | refine has1 hasA ?_))) (has1 (lbd_of (has1 hasA (has1 hasA has0))) has0))
 ·intro rec l2 Dm hr
  refine Tr.unb (hrun (α:=NxS) (lbd [lpt c14 [shV cf] TSh,lpt c15 [shV cg] TSh,vw f1 (Us (dg f.num.natAbs)),vw f2 (Us (dg f.den)),vw y1 (Us (dg g.num.natAbs)),vw y2 (Us (dg g.den)),lpt c9 [I n,v] TGr,vw z1 (Us (dg (0:Rat).num.natAbs)),vw z2 (Us (dg (0:Rat).den)),vfr hs xs]) l2 (fun s=>bnd [lrc l2 rec .ready none,dfr Dm,oww TRt 3 v ((n + 1) * (n + 1)) (rcs (outN n f g xs s.i) (hsE (z1,z2) s.es)),gow s.es (outN n f g xs s.i),shB cf f (f1,f2) s.gf,shB cg g (y1,y2) s.gg]) (fun s i=>s.i = i∧Grd n s.es (outN n f g xs i)∧ShOk cf s.gf∧ShOk cg s.gg) (fun _=>False) ⟨0,List.replicate ((n + 1) * (n + 1)) none,gf,gg⟩ ⟨rfl,Grd.none n,hgf,hgg⟩ (fun p=>bnd_nob (by repeat (first | exact nb0 | refine nb1 ?_))) ?_) ?_
  ·rintro ⟨i,es,gf,gg⟩ j ⟨hji,hgr,hgf,hgg⟩ hj
   dsimp only at hji hgr hgf hgg
   subst hji
   refine Ty.bnd ?_
   refine Ty.pre (pre:=[lpt c14 [shV cf] TSh,lpt c15 [shV cg] TSh,vw f1 (Us (dg f.num.natAbs)),vw f2 (Us (dg f.den)),vw y1 (Us (dg g.num.natAbs)),vw y2 (Us (dg g.den)),lpt c9 [I n,v] TGr,vw z1 (Us (dg (0:Rat).num.natAbs)),vw z2 (Us (dg (0:Rat).den)),vfr hs xs]) ?_ (has_lbds (C:=[lpt c14 [shV cf] TSh,lpt c15 [shV cg] TSh,vw f1 (Us (dg f.num.natAbs)),vw f2 (Us (dg f.den)),vw y1 (Us (dg g.num.natAbs)),vw y2 (Us (dg g.den)),lpt c9 [I n,v] TGr,vw z1 (Us (dg (0:Rat).num.natAbs)),vw z2 (Us (dg (0:Rat).den)),vfr hs xs]) (List.Mem.head _) _ (by repeat (first | exact has00 | refine has01 ?_)) fun c hc=>hc) (by repeat (first | exact has00 | refine has01 ?_))
   refine Ty.intro env hr (by repeat (first | exact has00 | refine has01 ?_)) fun w1=>?_
   have hF1:=(hyF i hj)
   have hgot:=fun (F:List Ch) (h:vfr hs xs ∈ F)=>has_fr (has_mem h) hlen (i:=i) (by rw [hql];exact hj)
   have hskip:=fun h=>outN_skip (n:=n) (f:=f) (g:=g) (x:=xs) (i:=i) h
   have hstep:=fun h=>outN_step (n:=n) (f:=f) (g:=g) (x:=xs) (i:=i) h
   have hSF:=fun h a ha=>hsF i a hj h ha
   have hXF:∀ a b,¬ (i % (n + 1) = 0∨xs.getD i 0 = 0)→a ≤ i / (n + 1)→¬ shar f (i / (n + 1)) a = 0→b < i % (n + 1)→(FB (shar g (i % (n + 1) - 1) b) B∧FB (xs.getD i 0 * shar f (i / (n + 1)) a) B∧FB (xs.getD i 0 * shar f (i / (n + 1)) a * shar g (i % (n + 1) - 1) b) B)∧∀ j,j < (n + 1) * (n + 1)→FB ((outB n f g (xs.getD i 0) (i / (n + 1)) (i % (n + 1)) a (outA n f g (xs.getD i 0) (i / (n + 1)) (i % (n + 1)) (outN n f g xs i) a) b).getD j 0) B:=fun a b h1 h2 h3 h4=>by
    have h:=hnx i a b hj h1 h2 h3 h4
    exact ⟨⟨h.sg,h.ys,h.p⟩,h.o⟩
   have hx1:(hs.getD i nS2).1.oneCell' = true∧(hs.getD i nS2).2.oneCell' = true:=hone i (by rw [hql];exact hj)
   clear hyF hsF hnx hrun hone
   generalize i / (n + 1) = c at *
   generalize i % (n + 1) = r at *
   generalize xs.getD i 0 = y at *
   generalize hs.getD i nS2 = hx at *
   obtain ⟨x1,x2⟩:=hx
   dsimp only at hx1 hgot
   obtain ⟨hx1,hx2⟩:=hx1
   have hSome:=some_tr y x1 x2 hx1 (by have:=hF1.1;omega)
   repeat' first|refine al fun c17=>?_|refine srz ?_ (hj:=Nat.le_of_ble_eq_true rfl)|refine xbeg ?_|refine sq ?_|refine rg ?_|refine xc ?_|refine nl ?_|refine bk ?_
   rename_i c16
   refine rs (fun w'=>w'.heap[c16]? = some (.cells [I c,I r].toArray TPl (0,0))) ?_ (fun w' hw=>pt_at memA hw)
   refine kr 0 (v:=.pointer (some ⟨c16,0,none⟩)) (fun w' h=>R_ixa (E:=env) (m:=2) (i:=0) rfl rfl rfl rfl (by decide)) ?_
   refine krl 1 (cs:=[I c,I r]) (fun w' h=>h) ?_
   refine kr 2 (v:=.pointer (some ⟨c16,1,none⟩)) (fun w' h=>R_ixa (E:=env) (m:=2) (i:=1) rfl rfl rfl rfl (by decide)) ?_
   refine krl 3 (cs:=[I c,I r]) (fun w' h=>h) ?_
   refine kra 4 ?_
   refine kra 5 ?_
   refine t0 ?_
   refine id ?_
   by_cases hr0:r = 0
   ·rw [← hskip (.inl hr0)] at hgr ⊢
    repeat' first|(refine wo ?_;first|(refine ao ?_;first|refine oa ?_)|refine oa ?_|refine gn ?_|(refine gsi (fun hB=>?_) (fun hB=>?_) <;> try (exfalso;omega)))|(refine gc ?_;first|refine ct ?_)|refine sq ?_|refine rg ?_|refine xc ?_|refine nl ?_|refine xe ?_
    exact yn ⟨⟨i + 1,es,gf,gg⟩,rfl,.inl ⟨rfl,rfl,hgr,hgf,hgg⟩⟩
   by_cases hy0:y = 0
   ·rw [← hskip (.inr hy0)] at hgr ⊢
    rw [show decide (y ≠ 0) = false from decide_eq_false fun h=>h hy0] at hSome
    repeat' first|(refine gca ?_;first|(refine ca hSome ?_ (hp:=has1 (hgot _ memA).1 has0);rintro _ _ ⟨rfl,rfl⟩))|refine lda (cs:=rrow y (x1,x2)) ?_|(refine wo ?_;first|(refine ao ?_;first|refine oa ?_)|refine oa ?_|refine gy ?_|(refine gsi (fun hB=>?_) (fun hB=>?_) <;> try (exfalso;omega)))|(refine gc ?_;first|refine ct ?_)|refine sq ?_|refine rg ?_|refine xc ?_|refine nl ?_|refine xe ?_
    exact yn ⟨⟨i + 1,es,gf,gg⟩,rfl,.inl ⟨rfl,rfl,hgr,hgf,hgg⟩⟩
   have hne:¬ (r = 0∨y = 0):=by rintro (h | h);exact hr0 h;exact hy0 h
   rw [show decide (y ≠ 0) = true from decide_eq_true hy0] at hSome
   have hst:=hstep hne
   have hSF:=hSF hne
   have hXF:=fun a b=>hXF a b hne
   have hcr:c + r ≤ n:=(hSF 0 (Nat.zero_le _)).1
   clear hskip hstep
   generalize outN n f g xs i = F0 at *
   repeat' first|(refine gca ?_;first|(refine ca hSome ?_ (hp:=has1 (hgot _ memA).1 has0);rintro _ _ ⟨rfl,rfl⟩))|refine lda (cs:=rrow y (x1,x2)) ?_|(refine wo ?_;first|(refine ao ?_;first|refine aw ?_|refine oa ?_)|refine oa ?_|refine gy ?_|(refine gsi (fun hB=>?_) (fun hB=>?_) <;> try (exfalso;omega)))|(refine gc ?_;first|(refine cb (fun hB=>?_) (fun hB=>?_) <;> try (exfalso;omega)))|refine sq ?_|refine rg ?_|refine xc ?_|refine nl ?_|refine sk ?_|refine bk ?_|refine xe ?_
   ·exact absurd hB (by decide)
   refine TC.loop (ι:=NxS) (fun g'=>[(63,I g'.i)]) (fun g'=>[oww TRt 3 v ((n + 1) * (n + 1)) (rcs (outA n f g y c r F0 g'.i) (hsE (z1,z2) g'.es)),gow g'.es (outA n f g y c r F0 g'.i),shB cf f (f1,f2) g'.gf,shB cg g (y1,y2) g'.gg]) (fun g'=>g'.i ≤ c + 1∧Grd n g'.es (outA n f g y c r F0 g'.i)∧ShOk cf g'.gf∧ShOk cg g'.gg) (fun g'=>c + 1 - g'.i) ⟨0,es,gf,gg⟩ [9,14,15,17,18,19,62] ⟨Nat.zero_le _,hgr,hgf,hgg⟩ ?_ (hf:=by dsimp only;rw [outA_zero];exact fitA)
   clear hgr hgf hgg
   rintro ⟨a,es,gf,gg⟩ ⟨ha,hgr,hgf,hgg⟩
   dsimp only at ha hgr hgf hgg ⊢
   by_cases hac:a < c + 1
   rotate_left
   ·obtain rfl:a = c + 1:=by omega
    rw [← hst] at hgr ⊢
    repeat' first|(refine wo ?_;first|(refine ao ?_;first|refine oa ?_))|(refine gc ?_;first|(refine ci (fun hB=>?_) (fun hB=>?_) <;> try (exfalso;omega)))|refine sq ?_|refine rg ?_|refine xc ?_|refine nl ?_|refine xe ?_|refine xb ?_
    exact yn ⟨⟨i + 1,es,gf,gg⟩,rfl,.inl ⟨rfl,rfl,hgr,hgf,hgg⟩⟩
   have hShf:=share_tr cf f (f1,f2) gf hf1 hf2 hgf hpf c a (by omega) (by omega)
   have hSF1:=(hSF a (by omega)).2
   have hSm2:=fun s1 s2 hs1=>some_tr (shar f c a) s1 s2 hs1 (by have:=hSF1.1;omega)
   have hskA:=fun h=>outA_skip (n:=n) (f:=f) (g:=g) (y:=y) (c:=c) (r:=r) (l:=F0) (a:=a) h
   have hstA:=fun h=>outA_step (n:=n) (f:=f) (g:=g) (y:=y) (c:=c) (r:=r) (l:=F0) (a:=a) h
   have hXF:=fun b h1 h2=>hXF a b (by omega) h1 h2
   clear hSF hst
   obtain ⟨q,hq⟩ : ∃ q,q = shar f c a:=⟨_,rfl⟩
   simp only [← hq] at hShf hSF1 hSm2 hskA hstA hXF
   by_cases hq0:q = 0
   ·rw [show decide (q ≠ 0) = false from decide_eq_false fun h=>h hq0] at hSm2
    rw [← hskA hq0] at hgr ⊢
    repeat' first|(refine gca ?_;first|(refine ca (hSm2 s1 s2 hs1) ?_;rintro _ _ ⟨rfl,rfl⟩))|(refine cav (cap:=#[ptr cf.bq,ptr cf.bp,ptr cf.bl]) (vs:=[I c,I a]) hShf ?_;rintro _ _ ⟨gf',s1,s2,rfl,hs1,hs2,hgf',rfl⟩)|refine al fun c21=>?_|refine srz ?_|refine lda (vs:=rrow q (s1,s2)) ?_|(refine wo ?_;first|(refine ao ?_;first|refine aw ?_|refine oa ?_)|refine oa ?_|refine ldl ?_)|(refine gc ?_;first|refine ct ?_|(refine ci (fun hB=>?_) (fun hB=>?_) <;> try (exfalso;omega)))|refine sq ?_|refine rg ?_|refine xc ?_|refine nl ?_|refine sk ?_|refine bk ?_|refine xe ?_
    exact lp ⟨a + 1,es,gf',gg⟩ ⟨hac,hgr,hgf',hgg⟩
   rw [show decide (q ≠ 0) = true from decide_eq_true hq0] at hSm2
   have hstA:=hstA hq0
   have hXF:=fun b h2=>hXF b hq0 h2
   clear hskA
   generalize outA n f g y c r F0 a = F1 at *
   repeat' first|(refine gca ?_;first|(refine ca (hSm2 s1 s2 hs1) ?_;rintro _ _ ⟨rfl,rfl⟩))|(refine cav (cap:=#[ptr cf.bq,ptr cf.bp,ptr cf.bl]) (vs:=[I c,I a]) hShf ?_;rintro _ _ ⟨gf',s1,s2,rfl,hs1,hs2,hgf',rfl⟩)|refine al fun c21=>?_|refine srz ?_|refine lda (vs:=rrow q (s1,s2)) ?_|(refine wo ?_;first|(refine ao ?_;first|refine aw ?_|refine oa ?_)|refine oa ?_|refine ldl ?_)|(refine gc ?_;first|(refine ci (fun hB=>?_) (fun hB=>?_) <;> try (exfalso;omega))|(refine cb (fun hB=>?_) (fun hB=>?_) <;> try (exfalso;omega)))|refine sq ?_|refine rg ?_|refine xc ?_|refine nl ?_|refine sk ?_|refine bk ?_|refine xe ?_
   ·exact absurd hB (by decide)
   refine TC.loop (ι:=NxB) (fun g'=>[(74,I g'.b)]) (fun g'=>[oww TRt 3 v ((n + 1) * (n + 1)) (rcs (outB n f g y c r a F1 g'.b) (hsE (z1,z2) g'.es)),gow g'.es (outB n f g y c r a F1 g'.b),shB cg g (y1,y2) g'.gg]) (fun g'=>g'.b ≤ r∧Grd n g'.es (outB n f g y c r a F1 g'.b)∧ShOk cg g'.gg) (fun g'=>r - g'.b) ⟨0,es,gg⟩ [9,14,15,17,18,19,20,21,62,63,73] ⟨Nat.zero_le _,hgr,hgg⟩ ?_ (hf:=by dsimp only;rw [outB_zero];exact fitA)
   clear hgr hgg
   rintro ⟨b,es,gg⟩ ⟨hb,hgr,hgg⟩
   dsimp only at hb hgr hgg ⊢
   by_cases hbr:b < r
   rotate_left
   ·obtain rfl:b = r:=by omega
    rw [← hstA] at hgr ⊢
    repeat' first|(refine wo ?_;first|(refine ao ?_;first|refine aw ?_|refine oa ?_)|refine oa ?_)|(refine gc ?_;first|(refine ci (fun hB=>?_) (fun hB=>?_) <;> try (exfalso;omega)))|refine sq ?_|refine rg ?_|refine xc ?_|refine nl ?_|refine xe ?_|refine xb ?_
    exact lp ⟨a + 1,es,gf',gg⟩ ⟨hac,hgr,hgf',hgg⟩
   have hShg:=share_tr cg g (y1,y2) gg hy1 hy2 hgg hpg (r - 1) b (by omega) (by omega)
   obtain ⟨⟨hG1,hG2,hG3⟩,hG4⟩:=hXF b hbr
   have hrJ:=place_lt (n:=n) (q:=c - a) (r:=r - 1 - b + a) (by omega) (by omega)
   have hG4:=(hG4 _ hrJ).le hB0
   have hAt:=fun xs'=>gat_tr n v xs' (c - a) (r - 1 - b + a) hv hn (by omega) (by omega)
   have hstB:=outB_step n f g y c r a F1 b
   rw [← hq] at hstB
   clear hstA hXF
   obtain ⟨q2,hq2⟩ : ∃ q2,q2 = shar g (r - 1) b:=⟨_,rfl⟩
   rw [← hq2] at hShg hG1 hG3 hstB
   have hMul:=fun lv v1 v2 v3 v4 v5 v6=>FMul3_tr y q q2 lv v1 v2 v3 v4 v5 v6 hF1 (hSF1.le hB0) (hG1.le hB0) (hG2.le hB0)
   obtain ⟨pr,hpr⟩ : ∃ pr,pr = y * q * q2:=⟨_,rfl⟩
   rw [← hpr] at hMul hG3 hstB
   obtain ⟨J,hJ⟩ : ∃ J,J = (c - a) * (n + 1) + (r - 1 - b + a):=⟨_,rfl⟩
   simp only [← hJ] at hrJ hG4 hAt hstB
   unfold FQ2 at hMul
   have hrow:=rcs_row (hs:=hsE (z1,z2) es) (qs:=outB n f g y c r a F1 b) (by rw [hsE_len,hgr.el,hgr.ql]) (i:=J) (by rw [hgr.ql];exact hrJ)
   have hgo:=fun (F:List Ch) (h1:gow es (outB n f g y c r a F1 b) ∈ F) (h2:Has F (vw z1 (Us (dg (0:Rat).num.natAbs)))) (h3:Has F (vw z2 (Us (dg (0:Rat).den))))=>has_gow (z:=(z1,z2)) hgr h1 h2 h3 hrJ
   have hset:=fun q' p'=>rcs_setE (z:=(z1,z2)) hgr hrJ q' p'
   have hgset:=fun q' p'=>hgr.set hrJ q' p'
   have hel:=hgr.el
   have hqlB:=hgr.ql
   obtain ⟨FB0,hFB0⟩ : ∃ F',F' = outB n f g y c r a F1 b:=⟨_,rfl⟩
   rw [← hFB0] at hgr hG4 hstB hrow hqlB ⊢
   simp only [← hFB0] at hgo hset hgset
   unfold addAt at hstB
   obtain ⟨qJ,hqJ⟩ : ∃ q',q' = FB0.getD J 0:=⟨_,rfl⟩
   rw [← hqJ] at hG4 hstB hrow
   simp only [← hqJ] at hgo
   obtain ⟨eJ,heJ⟩ : ∃ e,e = (hsE (z1,z2) es).getD J nS2:=⟨_,rfl⟩
   rw [← heJ] at hrow
   simp only [← heJ] at hgo
   have hAdd:=fun lv m1 m2=>FAdd2_tr qJ pr lv eJ.1 eJ.2 m1 m2 hG4 (hG3.le hB0)
   obtain ⟨qS,hqS⟩ : ∃ q',q' = qJ + pr:=⟨_,rfl⟩
   rw [← hqS] at hstB
   simp only [← hqS] at hAdd
   unfold FQ2 at hAdd
   have hca:(c:Int) - a = ((c - a:Nat):Int):=by omega
   have hto:(r:Int) - 1 - b + a = ((r - 1 - b + a:Nat):Int):=by omega
   have hr1:(r:Int) - 1 = ((r - 1:Nat):Int):=by omega
   repeat' first|(refine wo ?_;first|(refine ao ?_;first|refine oa ?_)|refine oa ?_)|(refine gc ?_;first|(refine ci (fun hB=>?_) (fun hB=>?_) <;> try (exfalso;omega)))|refine sq ?_|refine rg ?_|refine xc ?_|refine nl ?_|refine sk ?_|refine bk ?_
   refine cutY (ι:=NxM) (fun x=>x.m1.oneCell' = true∧x.m2.oneCell' = true∧ShOk cg x.gg) (fun x=>[(9,ptr c9),(14,ptr c14),(15,ptr c15),(17,ptr c17),(18,I c),(19,I r),(20,I a),(21,ptr c21),(22,I b),(23,ptr x.c23),(62,I ((c:Int) + 1)),(63,I a),(73,I r),(74,I b)]) (fun x=>[pt x.c23 (rrow pr (x.m1,x.m2)) TRt,own T64 x.m1 (Us (dg pr.num.natAbs)),own T64 x.m2 (Us (dg pr.den)),shB cg g (y1,y2) x.gg,oww TRt 3 v ((n + 1) * (n + 1)) (rcs FB0 (hsE (z1,z2) es)),gow es FB0,shB cf f (f1,f2) gf',own T64 s1 (Us (dg q.num.natAbs)),own T64 s2 (Us (dg q.den)),pt c21 (rrow q (s1,s2)) TRt,pt c17 (rrow y (x1,x2)) TRt,pt c16 [I c,I r] TPl,lrc l2 rec .busy none,dfr Dm,lpt c14 [shV cf] TSh,lpt c15 [shV cg] TSh,vw f1 (Us (dg f.num.natAbs)),vw f2 (Us (dg f.den)),vw y1 (Us (dg g.num.natAbs)),vw y2 (Us (dg g.den)),lpt c9 [I n,v] TGr,vw z1 (Us (dg (0:Rat).num.natAbs)),vw z2 (Us (dg (0:Rat).den)),vfr hs xs]) ?_ ?_
   rotate_left
   ·intro b' kb
    refine rs (fun w'=>w'.heap[c17]? = some (.cells (rrow y (x1,x2)).toArray TRt (0,0))∧w'.heap[c21]? = some (.cells (rrow q (s1,s2)).toArray TRt (0,0))∧w'.heap[c15]? = some (.cells [shV cg].toArray TSh (0,0))) ?_ (fun w' hw=>⟨pt_at memA hw,pt_at memA hw,lpt_at memA hw⟩)
    refine kr 0 (v:=.agg (rrow y (x1,x2)).toArray) (fun w' h=>R_loadA (E:=env) (vs:=rrow y (x1,x2)) rfl rfl rfl rfl h.1 rfl rfl) ?_
    refine kr 1 (v:=.agg (rrow q (s1,s2)).toArray) (fun w' h=>R_loadA (E:=env) (vs:=rrow q (s1,s2)) rfl rfl rfl rfl h.2.1 rfl rfl) ?_
    refine krl 2 (cs:=[shV cg]) (fun w' h=>h.2.2) ?_
    refine kra 3 ?_
    refine krw 4 ((r - 1:Nat):Int) ?_
    refine kra 5 ?_
    refine t2 6 12 ?_ ?_
    ·refine cav (cap:=#[ptr cg.bq,ptr cg.bp,ptr cg.bl]) (vs:=[I ((r - 1:Nat):Int),I b]) hShg ?_
     rintro _ _ ⟨gg',k1,k2,rfl,hk1,hk2,hgg',rfl⟩
     refine nl ?_
     refine te (fun w' hw=>⟨pt_at memA hw,pt_at memA hw,lpt_at memA hw⟩) ?_
     refine t2 7 12 ?_ ?_
     ·refine slws (sz:=3) (xs:=rrow y (x1,x2) ++ rrow q (s1,s2) ++ rrow q2 (k1,k2)) fun g2=>?_
      refine nl ?_
      refine te (fun w' hw=>⟨pt_at memA hw,pt_at memA hw,lpt_at memA hw⟩) ?_
      refine t2 8 12 ?_ ?_
      ·refine ca (hMul _ x1 x2 s1 s2 k1 k2) ?_ (hp:=has1 (has_oww memA) (has1 (hgot _ memA).1 (has1 (hgot _ memA).2 (has1 hasA (has1 hasA (has1 hasA (has1 hasA has0)))))))
       rintro _ _ ⟨m1,m2,rfl,hm1,hm2,rfl⟩
       refine nl ?_
       refine te (fun w' hw=>⟨pt_at memA hw,pt_at memA hw,lpt_at memA hw⟩) ?_
       refine kra 9 ?_
       refine kra 10 ?_
       refine kra 11 ?_
       refine t1 12 ?_
       refine al fun c23=>?_
       refine nl ?_
       refine te (fun w' hw=>⟨pt_at memA hw,pt_at memA hw,lpt_at memA hw⟩) ?_
       refine t1 13 ?_
       refine srz ?_
       refine nl ?_
       refine te (fun w' hw=>⟨pt_at memA hw,pt_at memA hw,lpt_at memA hw⟩) ?_
       refine kra 14 ?_
       refine t0 ?_
       repeat' first|refine xc ?_
       exact kb ⟨c23,m1,m2,gg'⟩ ⟨hm1,hm2,hgg'⟩ _ _ (by (repeat (refine Sub.cons rfl (by first | rfl | go_num) ?_));exact Sub.nil) fitA
      ·refine al fun c23=>?_
       refine nl ?_
       refine te (fun w' hw=>⟨pt_at memA hw,pt_at memA hw,lpt_at memA hw⟩) ?_
       refine t1 8 ?_
       refine ca (hMul _ x1 x2 s1 s2 k1 k2) ?_ (hp:=has1 (has_oww memA) (has1 (hgot _ memA).1 (has1 (hgot _ memA).2 (has1 hasA (has1 hasA (has1 hasA (has1 hasA has0)))))))
       rintro _ _ ⟨m1,m2,rfl,hm1,hm2,rfl⟩
       refine nl ?_
       refine te (fun w' hw=>⟨pt_at memA hw,pt_at memA hw,lpt_at memA hw⟩) ?_
       refine kra 9 ?_
       refine kra 10 ?_
       refine kra 11 ?_
       refine t1 13 ?_
       refine srz ?_
       refine nl ?_
       refine te (fun w' hw=>⟨pt_at memA hw,pt_at memA hw,lpt_at memA hw⟩) ?_
       refine kra 14 ?_
       refine t0 ?_
       repeat' first|refine xc ?_
       exact kb ⟨c23,m1,m2,gg'⟩ ⟨hm1,hm2,hgg'⟩ _ _ (by (repeat (refine Sub.cons rfl (by first | rfl | go_num) ?_));exact Sub.nil) fitA
     ·refine al fun c23=>?_
      refine nl ?_
      refine te (fun w' hw=>⟨pt_at memA hw,pt_at memA hw,lpt_at memA hw⟩) ?_
      refine t1 7 ?_
      refine slws (sz:=3) (xs:=rrow y (x1,x2) ++ rrow q (s1,s2) ++ rrow q2 (k1,k2)) fun g2=>?_
      refine nl ?_
      refine te (fun w' hw=>⟨pt_at memA hw,pt_at memA hw,lpt_at memA hw⟩) ?_
      refine t1 8 ?_
      refine ca (hMul _ x1 x2 s1 s2 k1 k2) ?_ (hp:=has1 (has_oww memA) (has1 (hgot _ memA).1 (has1 (hgot _ memA).2 (has1 hasA (has1 hasA (has1 hasA (has1 hasA has0)))))))
      rintro _ _ ⟨m1,m2,rfl,hm1,hm2,rfl⟩
      refine nl ?_
      refine te (fun w' hw=>⟨pt_at memA hw,pt_at memA hw,lpt_at memA hw⟩) ?_
      refine kra 9 ?_
      refine kra 10 ?_
      refine kra 11 ?_
      refine t1 13 ?_
      refine srz ?_
      refine nl ?_
      refine te (fun w' hw=>⟨pt_at memA hw,pt_at memA hw,lpt_at memA hw⟩) ?_
      refine kra 14 ?_
      refine t0 ?_
      repeat' first|refine xc ?_
      exact kb ⟨c23,m1,m2,gg'⟩ ⟨hm1,hm2,hgg'⟩ _ _ (by (repeat (refine Sub.cons rfl (by first | rfl | go_num) ?_));exact Sub.nil) fitA
    ·refine al fun c23=>?_
     refine nl ?_
     refine te (fun w' hw=>⟨pt_at memA hw,pt_at memA hw,lpt_at memA hw⟩) ?_
     refine t1 6 ?_
     refine cav (cap:=#[ptr cg.bq,ptr cg.bp,ptr cg.bl]) (vs:=[I ((r - 1:Nat):Int),I b]) hShg ?_
     rintro _ _ ⟨gg',k1,k2,rfl,hk1,hk2,hgg',rfl⟩
     refine nl ?_
     refine te (fun w' hw=>⟨pt_at memA hw,pt_at memA hw,lpt_at memA hw⟩) ?_
     refine t1 7 ?_
     refine slws (sz:=3) (xs:=rrow y (x1,x2) ++ rrow q (s1,s2) ++ rrow q2 (k1,k2)) fun g2=>?_
     refine nl ?_
     refine te (fun w' hw=>⟨pt_at memA hw,pt_at memA hw,lpt_at memA hw⟩) ?_
     refine t1 8 ?_
     refine ca (hMul _ x1 x2 s1 s2 k1 k2) ?_ (hp:=has1 (has_oww memA) (has1 (hgot _ memA).1 (has1 (hgot _ memA).2 (has1 hasA (has1 hasA (has1 hasA (has1 hasA has0)))))))
     rintro _ _ ⟨m1,m2,rfl,hm1,hm2,rfl⟩
     refine nl ?_
     refine te (fun w' hw=>⟨pt_at memA hw,pt_at memA hw,lpt_at memA hw⟩) ?_
     refine kra 9 ?_
     refine kra 10 ?_
     refine kra 11 ?_
     refine t1 13 ?_
     refine srz ?_
     refine nl ?_
     refine te (fun w' hw=>⟨pt_at memA hw,pt_at memA hw,lpt_at memA hw⟩) ?_
     refine kra 14 ?_
     refine t0 ?_
     repeat' first|refine xc ?_
     exact kb ⟨c23,m1,m2,gg'⟩ ⟨hm1,hm2,hgg'⟩ _ _ (by (repeat (refine Sub.cons rfl (by first | rfl | go_num) ?_));exact Sub.nil) fitA
   clear hMul hShg hgot
   rintro ⟨c23,m1,m2,gg'⟩ ⟨hm1,hm2,hgg'⟩
   dsimp only at hm1 hm2 hgg' ⊢
   obtain ⟨e1',e2'⟩:=eJ
   dsimp only at hAdd hgo hrow
   repeat' first|(refine gca ?_;first|(refine ca (hAt _) ?_ (hp:=has1 (has_oww memA) has0);rintro _ _ ⟨rfl,rfl⟩))|refine ldla (cs:=[I n,v]) ?_|(refine aw (m:=(c:Int) - a) ?_;rw [hca])|(refine aw (m:=(r:Int) - 1 - b + a) ?_;rw [hto])|(refine wo ?_;first|(refine ao ?_;first|refine aw ?_)|refine oa ?_)|refine sq ?_|refine rg ?_|refine xc ?_|refine nl ?_
   refine rs (fun w'=>w'.heap[c23]? = some (.cells (rrow pr (m1,m2)).toArray TRt (0,0))) ?_ (fun w' hw=>pt_at memA hw)
   refine kra 0 ?_
   refine kra 1 ?_
   refine kra 2 ?_
   refine kr 4 (v:=.agg (rrow pr (m1,m2)).toArray) (fun w' h=>R_loadA (E:=env) (vs:=rrow pr (m1,m2)) rfl rfl rfl rfl h rfl rfl) ?_
   refine t1 3 ?_
   refine ldaw (N:=((n + 1) * (n + 1))) (xs:=rcs FB0 (hsE (z1,z2) es)) (m:=3 * J) hrow ?_ (hm:=has_oww memA)
   refine nl ?_
   refine te (fun w' hw=>pt_at memA hw) ?_
   refine t1 5 ?_
   refine slws (sz:=3) (xs:=rrow qJ (e1',e2') ++ rrow pr (m1,m2)) fun g2=>?_
   refine nl ?_
   refine te (fun w' hw=>pt_at memA hw) ?_
   refine t1 6 ?_
   refine ca (hAdd _ m1 m2) ?_ (hp:=has1 (has_oww memA) (has1 (hgo _ memA hasA hasA).1 (has1 (hgo _ memA hasA hasA).2 (has1 hasA (has1 hasA has0)))))
   rintro _ _ ⟨n1,d1,rfl,hn1,hd1,rfl⟩
   refine nl ?_
   refine te (fun w' hw=>pt_at memA hw) ?_
   refine kra 7 ?_
   refine kra 8 ?_
   refine kra 9 ?_
   refine kra 10 ?_
   refine t1 11 ?_
   refine sow (sz:=3) (m:=3 * J) (N:=((n + 1) * (n + 1))) (xs:=rcs FB0 (hsE (z1,z2) es)) (vs:=rrow qS (n1,d1)) (by omega) ?_ (h1:=one_cons rfl (one_cons hn1 (one_cons hd1 one_nil)))
   refine nl ?_
   refine te (fun w' hw=>pt_at memA hw) ?_
   refine t0 ?_
   repeat' first|(refine wo ?_;first|(refine ao ?_;first|refine aw ?_)|refine oa ?_)|refine rg ?_|refine xc ?_|refine nl ?_|refine xb ?_
   refine TX.im (gow_set (es:=es) (qs:=FB0) (by rw [hel,hqlB]) (i:=J) (by rw [hqlB];exact hrJ) qS n1 d1 fitA) ?_
   rw [hset qS (n1,d1),← hstB]
   exact lp ⟨b + 1,es.set J (some (n1,d1)),gg'⟩ ⟨hbr,by dsimp only;rw [hstB];exact hgset qS (n1,d1),hgg'⟩
  ·rintro _ _ ⟨s,rfl,⟨hi,g2,g3,g4⟩ | h⟩
   ·exact ⟨_,rfl,.ready,none,_,rfl,by decide,s,by rw [hi],rfl,g2⟩
   ·exact h.elim
 ·rintro l2 rec Dm pend B' ⟨s,rfl,rfl,hgr⟩
  show TX env _ _ _ _ _ _
  refine TX.im (dfrl_nil _) ?_
  refine TX.im (dfrl_push (D:=Dm) (Ds:=[]) fitA) ?_
  rw [outN_all] at hgr ⊢
  generalize nextR f g n xs = q at *
  repeat' first|refine lda (cs:=[I n,v]) ?_|refine srz ?_|refine sq ?_|refine rg ?_|refine xc ?_|refine nl ?_|refine rt ?_|refine xb ?_
  exact mca1 (Ds:=[Dm]) (b:=c8) (cs:=[I n,v]) (vs:=[I n,v]) (T:=TGr) ⟨v,s.es,(z1,z2),rfl,hv,⟨hz1,hz2⟩,hgr,rfl⟩
end Go.Art
namespace Go.Art
open Go Go.Proofs Go.RowKit
abbrev lvD (t:List Int) (k n j:Nat):Nat:=lvE (oneS t k) (fun u=>(fT t k u).den) n k j
theorem lvT_facts {t:List Int} {k n:Nat} (hz:solE t k = 0) (hk:k ≤ 40) (hl:t.length ≤ 12) (hn:n ≤ 12) {B:Nat} (hB:B = 20000) {j:Nat} (hj:j ≤ k) :
  Lv n (lvD t k n j) (lvT t k n j)∧tot n (lvT t k n j) ≤ 1∧lvD t k n j ≠ 0∧lvD t k n j < 18446744073709551616 ^ B:=by
 have hf:∀ u,1 ≤ u→u ≤ k→Ch01 (fT t k u).den (fT t k u):=fun u h1 h2=>(fT_ch hz h1 h2).1
 obtain ⟨h1,h2⟩:=lv_ok (n:=n) (pT_ch hz) hf j hj
 refine ⟨h1,h2,lvE_pos (oneS_pos hz) (fun u h1 h2=>(hf u h1 h2).nz) j hj,?_⟩
 have h3:=lvE_le (n:=n) (B:=18446744073709551616 ^ 11) (F:=fun u=>(fT t k u).den) (D:=oneS t k) (k:=k) (fun u h1 h2=>Nat.le_of_lt (fT_lt hz hk hl h1 h2)) (Nat.le_trans hk (by decide)) (Nat.le_of_lt (Nat.lt_trans (oneS_lt hz hk hl) (by decide))) (by decide) j hj
 rw [← Nat.pow_mul] at h3
 refine Nat.lt_of_le_of_lt h3 (Nat.pow_lt_pow_right (by decide) ?_)
 have h4:2 * n * j ≤ 24 * 40:=Nat.mul_le_mul (by omega) (by omega)
 omega
theorem lvT_succ (t:List Int) (k n j:Nat):lvT t k n (j + 1) = nextR (fT t k (k - j)) (1 / ((k - j:Nat):Rat)) n (lvT t k n j):=rfl
theorem lvD_succ (t:List Int) (k n j:Nat):lvD t k n (j + 1) = lvD t k n j * ((fT t k (k - j)).den ^ n * (k - j) ^ n):=rfl
theorem has_bndC {F C:List Ch} {d:Ch} (h:bnd C ∈ F) (k:Has C d):Has F d:=⟨fun w hw=>k.P w (hw.h _ h),k.wr,k.rd,fun b hb=>⟨_,h,bnd_ft.2 (k.ft b hb)⟩⟩
structure LvG (α:Type) where
 j:Nat
 v:Value
 es:List (Option HV)
 z:HV
 a:α
attribute [local irreducible] Fit pt own ro vw mpc lpt vels rels mow lrc dfr
def grB (n:Nat) (v:Value) (qs:List Rat) (es:List (Option HV)) (z:HV):Ch:=bnd (gP n v qs es z)
instance (n:Nat) (v:Value) (qs:List Rat) (es:List (Option HV)) (z:HV):NoB (grB n v qs es z):=⟨bnd_nob (by repeat (first | exact nb0 | refine nb1 ?_))⟩
abbrev GRB (n:Nat) (qs:List Rat) (u:Value) (D:List Ch):Prop:=∃ v es z,u = gV n v∧v.oneCell' = true∧(z.1.oneCell' = true∧z.2.oneCell' = true)∧Grd n es qs∧D = [grB n v qs es z]
theorem Tr.grb {P:Program} {f:FuncId} {args:List Value} {pre A:List Ch} {n:Nat} {qs:List Rat} (h:Tr P f args pre A (GR n qs)):Tr P f args pre A (GRB n qs):=by
 refine h.post ?_
 rintro u D ⟨v,es,z,hu,h1,h2,h3,rfl⟩
 refine ⟨_,⟨v,es,z,hu,h1,h2,h3,rfl⟩,?_,nb1 nb0⟩
 have:=im_bnd (gP n v qs es z) []
 rwa [List.append_nil] at this
theorem has_grB {F:List Ch} {n:Nat} {v:Value} {qs:List Rat} {es:List (Option HV)} {z:HV} (hg:Grd n es qs) (h:grB n v qs es z ∈ F):Has F (vwf v ((n + 1) * (n + 1)) (rcs qs (hsE z es)))∧Has F (vfr (hsE z es) qs):=
 ⟨has_bndC h (has_oww (List.Mem.head _)),has_bndC h (has_gvfr hg (List.Mem.tail _ (List.Mem.head _)) (has_own (List.Mem.tail _ (List.Mem.tail _ (List.Mem.head _)))) (has_own (List.Mem.tail _ (List.Mem.tail _ (List.Mem.tail _ (List.Mem.head _))))))⟩
structure SeqW (P:Program) (f:FuncId) (cap:Array Value) (U:Ch) (n k:Nat) (L:Nat→List Rat):Prop where
 run:∀ {α:Type} (V:Ch) [Lent V] (l:Nat) (J:α→Ch) (pl:α→Nat→Prop) (S:α→Prop) (a0:α),pl a0 0→(∀ a b,¬ (J a).bd b) →
  (∀ a j v es z,v.oneCell' = true→(z.1.oneCell' = true∧z.2.oneCell' = true)→Grd n es (L j)→pl a j→j ≤ k→Ty P l [I ((k - j:Nat):Int),gV n v] [V] [grB n v (L j) es z,J a] fun ok B=>(ok = true∧∃ a',B = [grB n v (L j) es z,J a']∧pl a' (j + 1))∨(ok = false∧∃ a',B = [J a']∧S a')) →
  Tr P f (yv l :: cap.toList) [V,U] [J a0] fun _ B=>∃ a,B = [J a]∧(pl a (k + 1)∨S a)
attribute [local irreducible] lmp lme mit velg relg bnd owl dfrl gow shB grB
theorem levels_tr (tv:Value) (htv:tv.oneCell' = true) (k n:Int):Tr Tryz.prog 57 [tv,I k,I n] [] [] fun u D=>∃ p1 p2 p3,u = .func (.func 105) #[] #[ptr p1,ptr p2,ptr p3]∧D = [pt p3 [I n] TLI,pt p2 [I k] TLI,pt p1 [tv] TLs]:=by
 refine Tr.enter env _ Tryz.func57 (by kernel_rfl) rfl Tryz.ntmps57 rfl (by repeat (first | exact has00 | refine has01 ?_)) fun w0=>?_
 repeat' first|refine bx1 fun b=>?_|(refine wo ?_;first|refine oa ?_)|refine sq ?_|refine rg ?_|refine xc ?_|refine nl ?_|refine rt ?_
 exact r1 ⟨_,_,_,rfl,rfl⟩
theorem nxtT_tr (tv gv:Value) (htv:tv.oneCell' = true) (hgv:gv.oneCell' = true) (t:List Int) (k n j:Nat) (hs:List HV) (hz:solE t k = 0) (hk:k ≤ 40) (hl:t.length ≤ 12) (hn:n ≤ 12) (hj:j < k) (hlen:hs.length = (lvT t k n j).length) :
  Tr Tryz.prog 107 [gV n gv,tv,I k,I ((k - j:Nat):Int)] [vw tv (Is t),vwf gv ((n + 1) * (n + 1)) (rcs (lvT t k n j) hs),vfr hs (lvT t k n j)] [] (GRB n (lvT t k n (j + 1))):=by
 obtain ⟨B,hB⟩ : ∃ B,B = 20000:=⟨_,rfl⟩
 obtain ⟨b1,b2,b3,b4⟩:=lvT_facts hz hk hl hn hB (j:=j) (by omega)
 obtain ⟨_,_,_,c4⟩:=lvT_facts hz hk hl hn hB (j:=j + 1) (by omega)
 rw [lvD_succ] at c4
 rw [lvT_succ]
 exact (nxt_tr tv gv htv hgv t k (k - j) n (lvD t k n j) B (lvT t k n j) hs hz hk hl hn (by omega) (by omega) hlen (supp_lv _ _ _ _ j) b1 b2 b3 c4 (by omega)).grb
theorem levels1_seq (p1 p2 p3:Nat) (tv:Value) (htv:tv.oneCell' = true) (t:List Int) (k n:Nat) (hz:solE t k = 0) (hk:k ≤ 40) (hl:t.length ≤ 12) (hn:n ≤ 12) :
  SeqW Tryz.prog 105 #[ptr p1,ptr p2,ptr p3] (lbd [lpt p1 [tv] TLs,lpt p2 [I k] TLI,lpt p3 [I n] TLI,vw tv (Is t)]) n k (lvT t k n):=by
 refine ⟨fun {α} V hV l J pl S a0 h0 hnb hy=>?_⟩
 haveI:=hV
 haveI:∀ a,NoB (J a):=fun a=>⟨hnb a⟩
 refine Tr.pre (pre:=[V,lpt p1 [tv] TLs,lpt p2 [I k] TLI,lpt p3 [I n] TLI,vw tv (Is t)]) ?_ (has1 (has_mem (by simp)) (has_lbds (C:=[lpt p1 [tv] TLs,lpt p2 [I k] TLI,lpt p3 [I n] TLI,vw tv (Is t)]) (by simp) _ (by repeat (first | exact has00 | refine has01 ?_)) fun c hc=>hc)) (by repeat (first | exact has00 | refine has01 ?_))
 have hF:=(first_tr tv htv t k n hz hk hl hn).grb
 have hN:=fun j (hj:j < k) gv hgv hs hlen=>nxtT_tr tv gv htv hgv t k n j hs hz hk hl hn hj hlen
 clear hz
 generalize lvT t k n = L at *
 refine Tr.enter env _ Tryz.func105 (by kernel_rfl) rfl Tryz.ntmps105 rfl (by repeat (first | exact has00 | refine has01 ?_)) fun w0=>?_
 repeat' first|(refine gca ?_;first|(refine ca hF ?_;rintro _ _ ⟨v,es,z,rfl,hv,hz,hgr,rfl⟩))|refine al fun c5=>?_|refine srz ?_|(refine wo ?_;first|refine oa ?_|refine ldl ?_)|refine sq ?_|refine rg ?_|refine xc ?_|refine nl ?_|refine bk ?_
 refine TC.loop (ι:=LvG α) (fun g=>[(6,I ((k - g.j:Nat):Int))]) (fun g=>[pt c5 [I n,g.v] TGr,grB n g.v (L g.j) g.es g.z,J g.a]) (fun g=>g.j ≤ k∧g.v.oneCell' = true∧(g.z.1.oneCell' = true∧g.z.2.oneCell' = true)∧Grd n g.es (L g.j)∧pl g.a g.j) (fun g=>k - g.j) ⟨0,v,es,z,a0⟩ [0,1,2,3,5] ⟨Nat.zero_le _,hv,hz,hgr,h0⟩ ?_
 clear hv hz hgr hF
 rintro ⟨j,v,es,z,a⟩ ⟨hj,hv,hz,hgr,ha⟩
 dsimp only at hj hv hz hgr ha ⊢
 have hyj:=hy a j v es z hv hz hgr ha hj
 by_cases hlt:j < k
 ·have hNj:=hN j hlt v hv (hsE z es) (by rw [hsE_len,hgr.el,hgr.ql])
  have hs1:((k - j:Nat):Int) - 1 = ((k - (j + 1):Nat):Int):=by omega
  repeat' first|(refine gca ?_;first|(refine ca hNj ?_ (hp:=has1 hasA (has1 (has_grB hgr memA).1 (has1 (has_grB hgr memA).2 has0)));rintro _ _ ⟨v2,es2,z2,rfl,hv2,hz2,hgr2,rfl⟩))|refine lda (cs:=[I n,v]) ?_|(refine cy hyj ?_ (hp:=has1 (has_mem memA) has0);rintro ok _ (⟨rfl,a2,rfl,h3⟩ | ⟨rfl,a2,rfl,h3⟩))|refine srz ?_ (hj:=Nat.le_of_ble_eq_true rfl)|(refine aw (m:=((k - j:Nat):Int) - 1) ?_;rw [hs1])|(refine wo ?_;first|(refine ao ?_;first|refine oa ?_)|refine oa ?_|refine ldl ?_|refine gy ?_|refine gn ?_)|(refine gc ?_;first|refine cf ?_|(refine ci (fun hB=>?_) (fun hB=>?_) <;> try (exfalso;omega)))|refine sq ?_|refine rg ?_|refine xc ?_|refine nl ?_|refine sk ?_|refine bk ?_|refine xe ?_|refine xb ?_
  ·exact lp ⟨j + 1,v2,es2,z2,a2⟩ ⟨hlt,hv2,hz2,hgr2,h3⟩
  ·exact e0 ⟨a2,rfl,.inr h3⟩
 ·obtain rfl:j = k:=by omega
  rw [Nat.sub_self] at hyj
  repeat' first|refine lda (cs:=[I n,v]) ?_|(refine cy hyj ?_ (hp:=has1 (has_mem memA) has0) (hv:=by rw [Nat.sub_self];rfl);rintro ok _ (⟨rfl,a2,rfl,h3⟩ | ⟨rfl,a2,rfl,h3⟩))|(refine wo ?_;first|(refine ao ?_;first|refine oa ?_)|refine oa ?_|refine gy ?_|refine gn ?_)|(refine gc ?_;first|refine cf ?_|(refine ci (fun hB=>?_) (fun hB=>?_) <;> try (exfalso;omega)))|refine sq ?_|refine rg ?_|refine xc ?_|refine nl ?_|refine xe ?_
  ·exact e0 ⟨a2,rfl,.inl h3⟩
  ·exact e0 ⟨a2,rfl,.inr h3⟩
end Go.Art
namespace Go.Art
open Go Go.Proofs Go.RowKit
section
variable {P:Program} {E:Env P} {Q0:Exit→Act→World→Prop} {s:List K} {fr:Fr} {w:World}
theorem SC_rangeI {m l0:Nat} {ds:List Deferred} {g:Operand} {f:FuncId} {cap:Array Value} {ps:List Tmp} {assign body:Code} {rec0:Loop} {st0:LoopState} {pend0:Option Code} (h0:RAt w l0 rec0 st0 pend0) (hg:ev fr g = some (.func (.func f) #[] cap))
  (h:∀ (rec:Loop) (w1:World),RecOk rec m fr ps assign body rec0.defers→Ext w w1→w1.heap.size = w.heap.size + 1→RAt w1 w.heap.size rec .ready none →
   Fn P f (yv w.heap.size :: cap.toList) w1 fun _ w3=>∃ st pend,st ≠ LoopState.busy∧RAt w3 w.heap.size rec st pend ∧
    ∀ w4,Upd w3 w4 [w.heap.size]→afterR E ⟨m,ds,some l0⟩ Q0 s fr w4 pend) :
  SC E ⟨m,ds,some l0⟩ Q0 s (.rangeFunc g ps.toArray assign body) fr w:=⟨fun a ha=>by
 refine wpIn_rangeFunc fun fn _=>?_
 obtain ⟨rec,hrec⟩ : ∃ rec:Loop,rec = { state:=.ready,pending:=none,fn,tmps:=a.tmps,params:=ps.toArray,assign,body,defers:=rec0.defers }:=⟨_,rfl⟩
 obtain ⟨w1,hw1⟩ : ∃ w1,w1 = w.alloc (.loop rec):=⟨_,rfl⟩
 have hfn:=h rec w1 (by subst hrec;exact ⟨rfl,rfl,rfl,rfl,a,rfl,ha.size,rfl,ha.slot⟩) (by subst hw1;exact Upd.alloc w _) (by subst hw1;simp) (by subst hw1;subst hrec;exact World.alloc_heap_new w _)
 have hcf:=run_callFunc_fn hfn.can (yv w.heap.size :: cap.toList).toArray w1
 refine ⟨w.heap.size,[],w1,{ target:=.fn (.func f) cap,args:=#[yv w.heap.size] },w1,f,(yv w.heap.size :: cap.toList).toArray,w1,?_,?_,fun _ _=>trivial,?_,fun e=>(by cases e),?_⟩
 ·subst hw1;subst hrec;exact run_enterLoop_inner h0 fn a.tmps ps.toArray assign body
 ·simp only [resolve,rangeCall,ha.ev hg]
  simp [Deferred.ofValue,Act.eval]
 ·have e1 : #[yv w.heap.size] ++ cap = (yv w.heap.size :: cap.toList).toArray:=by apply Array.ext';simp
  simp only [invoke,e1]
  exact hcf
 ·refine callsFF (hfn.calls.mono fun e w3 ⟨v,he,st,pend,hst,hR,hk⟩=>?_)
  subst he
  refine ⟨pend,w3.putObj w.heap.size (.loop { rec with state:=.exhausted,pending:=pend }),run_endLoop hR hst,?_⟩
  have hh:=hk _ (putObj_upd w3 w.heap.size (.loop { rec with state:=.exhausted,pending:=pend }))
  have ha':Holds ⟨m,ds,some l0⟩ { a with defers:=[] ++ a.defers } fr:=⟨ha.size,by show [] ++ a.defers = _;rw [ha.defers];rfl,ha.slot⟩
  cases pend with
  | none=>exact hh.run _ ha'
  | some c=>exact hh.run _ ha'⟩
end
section
variable {P:Program} {E:Env P} {X:Cx} {s:List K} {fr:Fr} {A F:List Ch} {m l0:Nat} {assign body:Code} {rec0:Loop} {st0:LoopState} {pend0:Option Code}
theorem TC.rangeI {ds:List Deferred} {g:Operand} {f:FuncId} {cap:Array Value} {ps:List Tmp} (hl0:lrc l0 rec0 st0 pend0 ∈ A) (pre J:List Ch) (Aft:Nat→Loop→Option Code→List Ch→Prop)
  (hit:∀ rec l,RecOk rec m fr ps assign body rec0.defers→Tr P f (yv l :: cap.toList) pre (lrc l rec .ready none :: J) fun _ B=>∃ st pend B',B = lrc l rec st pend :: B'∧st ≠ LoopState.busy∧Aft l rec pend B')
  (aft:∀ l rec pend B',Aft l rec pend B'→afterT E ⟨m,ds,some l0⟩ X s fr (B' ++ F) pend) (hg:ev fr g = some (.func (.func f) #[] cap):=by rfl) (hs:Fit A J F:=by exact fitA)
  (hp:∀ c ∈ pre,Has F c:=by (repeat (first | exact has0 | refine has1 hasA ?_));first | done | fail):TC E ⟨m,ds,some l0⟩ X s (.rangeFunc g ps.toArray assign body) fr A:=⟨fun w hw=>by
 refine SC_rangeI (hw.mem hl0) hg fun rec w1 hr hE hz hl=>?_
 have h0:=hw.im hs
 have h1:=h0.ext hE
 have h2:St X (lrc w.heap.size rec .ready none :: (J ++ F)) w1:=by
  have hnew:∀ b,fts [lrc w.heap.size rec .ready none] b→w.heap.size ≤ b:=by
   rintro b ⟨c,hc,hb⟩
   rw [List.mem_singleton.1 hc] at hb
   rcases hb with hb | hb | hb
   ·have:b = w.heap.size:=hb;omega
   ·exact hb.elim
   ·exact hb.elim
  refine h0.step (A:=[]) (B:=[lrc w.heap.size rec .ready none]) (Mv.upd hE (by simp) (fun b hb=>.inr (hnew b hb.ft)) (fun b hb=>.inr (.inr (hnew b hb.ft)))) (Sat.one hl) ?_
  intro c hc b hb
  rw [List.mem_singleton.1 hc] at hb
  exact hb
 refine ((hit rec w.heap.size hr).at (F:=F) (by exact Im.refl _) hp h2).mono fun v w3 ⟨D,⟨st,pend,B',hB,hst,hA⟩,hS⟩=>?_
 subst hB
 refine ⟨st,pend,hst,hS.mem (List.Mem.head _),fun w4 hU=>?_⟩
 have h4:St X (B' ++ F) w4:=by
  have:=hS.step (A:=[lrc w.heap.size rec st pend]) (B:=[]) (F:=B' ++ F) (w':=w4) (Mv.upd hU (fun b hb=>.inl (wrs_one.2 (List.mem_singleton.1 hb))) (fun b hb=>absurd hb wrs_nil) (fun b hb=>absurd hb rds_nil)) (Sat.nil _) (by simp)
  exact this
 have h5:=aft _ _ _ _ hA
 cases pend with
 | none=>exact TX.run h5 w4 h4
 | some c=>exact TC.run h5 w4 h4⟩
end
end Go.Art
namespace Go.Art
open Go Go.Proofs Go.RowKit
theorem Ty.bndK {P:Program} {l:Nat} {vs:List Value} {K pre C:List Ch} {R:Bool→List Ch→Prop} (h:Ty P l vs pre (C ++ K) fun b D=>∃ C' K',D = C' ++ K'∧R b (K' ++ [Go.Art.bnd C'])):Ty P l vs pre (K ++ [Go.Art.bnd C]) R:=by
 refine ⟨fun w hw=>?_,h.lent⟩
 have p1:(pre ++ (K ++ [Go.Art.bnd C])).Perm (Go.Art.bnd C :: (pre ++ K)):=by
  have:((pre ++ K) ++ [Go.Art.bnd C]).Perm (Go.Art.bnd C :: (pre ++ K)):=List.perm_append_comm (l₁:=pre ++ K) (l₂:=[Go.Art.bnd C])
  simpa using this
 have h1:Sat (pre ++ (C ++ K)) w:=(bnd_sat.1 (hw.perm p1)).perm (List.perm_append_comm_assoc C pre K)
 have e1:∀ (C K:List Ch) (b:Nat),wrs (C ++ K) b ↔ wrs (K ++ [Go.Art.bnd C]) b:=fun C K b=>by
  constructor
  ·rintro ⟨c,hc,hb⟩
   rcases List.mem_append.1 hc with hc | hc
   ·exact ⟨Go.Art.bnd C,by simp,c,hc,hb⟩
   ·exact ⟨c,List.mem_append_left _ hc,hb⟩
  ·rintro ⟨c,hc,hb⟩
   rcases List.mem_append.1 hc with hc | hc
   ·exact ⟨c,List.mem_append_right _ hc,hb⟩
   ·rw [List.mem_singleton.1 hc] at hb
    obtain ⟨d,hd,h⟩:=hb
    exact ⟨d,List.mem_append_left _ hd,h⟩
 have e2:∀ (C K:List Ch) (b:Nat),rds (C ++ K) b ↔ rds (K ++ [Go.Art.bnd C]) b:=fun C K b=>by
  constructor
  ·rintro ⟨c,hc,hb⟩
   rcases List.mem_append.1 hc with hc | hc
   ·exact ⟨Go.Art.bnd C,by simp,c,hc,hb⟩
   ·exact ⟨c,List.mem_append_left _ hc,hb⟩
  ·rintro ⟨c,hc,hb⟩
   rcases List.mem_append.1 hc with hc | hc
   ·exact ⟨c,List.mem_append_right _ hc,hb⟩
   ·rw [List.mem_singleton.1 hc] at hb
    obtain ⟨d,hd,h⟩:=hb
    exact ⟨d,List.mem_append_left _ hd,h⟩
 refine (h.run w h1).mono fun b w' ⟨B,⟨C',K',hB',hR⟩,hS,hM,hnb⟩=>?_
 subst hB'
 refine ⟨K' ++ [Go.Art.bnd C'],hR,?_,⟨hM.os,hM.tape,hM.output,hM.size,fun k hk hn=>hM.block k hk fun h=>hn ((e1 C K k).1 h),fun x hx=>(hM.wr x ((e1 C' K' x).2 hx)).imp_left (e1 C K x).1,fun x hx=>(hM.rd x ((e2 C' K' x).2 hx)).imp (e1 C K x).1 (Or.imp_left (e2 C K x).1)⟩,fun c hc x hx=>?_⟩
 ·exact (bnd_sat.2 hS).perm (List.perm_append_comm (l₁:=[Go.Art.bnd C']) (l₂:=K'))
 ·rcases List.mem_append.1 hc with hc | hc
  ·exact hnb c (List.mem_append_right _ hc) x hx
  ·rw [List.mem_singleton.1 hc] at hx
   obtain ⟨y,hy,h2⟩:=hx
   exact hnb y (List.mem_append_left _ hy) x h2
def ripE (t:List Int) (k n:Int):Int:=if k < 1∨1024 < k∨n < 0∨4096 < n then 3 else solE t k
theorem ripE_zero {t:List Int} {k n:Int} (h:ripE t k n = 0):(1 ≤ k∧k ≤ 1024)∧(0 ≤ n∧n ≤ 4096)∧solE t k = 0:=by
 unfold ripE at h
 split at h
 ·cases h
 ·exact ⟨by omega,by omega,h⟩
def psN (n u:Nat) (x:List Rat) (i:Nat):Rat:=sR (fun i=>if u = 0∨i % (n + 1) = 0 then x.getD i 0 else 0) (List.range i)
theorem psN_all (n u:Nat) (x:List Rat):psN n u x ((n + 1) * (n + 1)) = stuckR n u x:=rfl
theorem psN_zero (n u:Nat) (x:List Rat):psN n u x 0 = 0:=rfl
theorem psN_in {n u:Nat} {x:List Rat} {i:Nat} (h:u = 0∨i % (n + 1) = 0):psN n u x (i + 1) = psN n u x i + x.getD i 0:=by unfold psN;rw [sR_last,if_pos h]
theorem psN_out {n u:Nat} {x:List Rat} {i:Nat} (h:¬ (u = 0∨i % (n + 1) = 0)):psN n u x (i + 1) = psN n u x i:=by unfold psN;rw [sR_last,if_neg h,Rat.add_zero]
theorem psN_fr {n E u:Nat} {x:List Rat} (hx:Lv n E x) {i:Nat} (hi:i ≤ (n + 1) * (n + 1)):FrQ E (psN n u x i):=FrQ.sum fun j hj=>by
 have:=List.mem_range.1 hj
 split
 ·exact hx.fr j (by omega)
 ·exact FrQ.zero E
theorem psN_le {n E u:Nat} {x:List Rat} (hx:Lv n E x) {i:Nat} (hi:i ≤ (n + 1) * (n + 1)):psN n u x i ≤ tot n x:=by
 rw [tot_eq]
 obtain ⟨q,hq⟩:=Nat.exists_eq_add_of_le hi
 rw [hq,List.range_add,sR_app]
 have h1:psN n u x i ≤ sR (fun i=>x.getD i 0) (List.range i):=sR_le fun j hj=>by
  have:=List.mem_range.1 hj
  split
  ·exact Rat.le_refl
  ·exact (hx.fr j (by omega)).nonneg
 have h2:0 ≤ sR (fun i=>x.getD i 0) ((List.range q).map (i + ·)):=sR_nonneg fun j hj=>by
  obtain ⟨a,ha,rfl⟩:=List.mem_map.1 hj
  have:=List.mem_range.1 ha
  exact (hx.fr _ (by omega)).nonneg
 grind
def stL (t:List Int) (k n:Nat):List Rat:=(List.range (k + 1)).map (stT t k n)
theorem stL_len (t:List Int) (k n:Nat):(stL t k n).length = k + 1:=by simp [stL]
theorem stL_get {t:List Int} {k n i:Nat} (h:i < k + 1):(stL t k n).getD i 0 = stT t k n i:=by simp [stL,List.getD_eq_getElem?_getD,h]
theorem zrs_rcs:∀ N:Nat,zrs N = rcs (List.replicate N 0) (hsE nS2 (List.replicate N none))
 | 0=>rfl
 | N + 1=>by
  have ih:=zrs_rcs N
  unfold zrs rcs hsE at *
  rw [List.replicate_succ,List.flatten_cons,ih,List.replicate_succ,List.replicate_succ,List.map_cons,List.zipWith_cons_cons,List.flatten_cons]
  rfl
theorem getD_setO (l:List (Option HV)) (i j:Nat) (x:Option HV) (hj:j < l.length):(l.set j x).getD i none = if i = j then x else l.getD i none:=by
 simp only [List.getD_eq_getElem?_getD,List.getElem?_set]
 by_cases e:i = j
 ·subst e;simp [hj]
 ·rw [if_neg (fun h=>e h.symm),if_neg e]
theorem has_gowS {F:List Ch} {es:List (Option HV)} {qs:List Rat} (hl:es.length = qs.length) (h:gow es qs ∈ F) {i:Nat} (hi:i < qs.length) {p:HV} (he:es.getD i none = some p) :
  Has F (vw p.1 (Us (dg (qs.getD i 0).num.natAbs)))∧Has F (vw p.2 (Us (dg (qs.getD i 0).den))):=by
 have h1:=gps_get (es:=es) (qs:=qs) (i:=i) (by omega) hi
 rw [he] at h1
 exact ⟨has_bndI (.inr h) (List.mem_of_getElem? h1) (has_bndI (.inr (List.mem_singleton.2 rfl)) (List.Mem.head _) (has_own (List.mem_singleton.2 rfl))),
  has_bndI (.inr h) (List.mem_of_getElem? h1) (has_bndI (.inr (List.mem_singleton.2 rfl)) (List.Mem.tail _ (List.Mem.head _)) (has_own (List.mem_singleton.2 rfl)))⟩
theorem gow_ofr (F:List Ch):∀ {es:List (Option HV)} {qs:List Rat},es.length = qs.length→(∀ i,i < qs.length→(es.getD i none).isSome)→Im (gow es qs :: F) (ofr (hsE nS2 es) qs :: F)
 | [],[],_,_=>(un_bnd [] F).trans (owl_nil F)
 | [],_ :: _,h,_=>by simp at h
 | _ :: _,[],h,_=>by simp at h
 | e :: es,q :: qs,h,H=>by
  have h0:=H 0 (by simp)
  cases e with
  | none=>cases h0
  | some p=>
   have ih:=gow_ofr (own T64 p.1 (Us (dg q.num.natAbs)) :: own T64 p.2 (Us (dg q.den)) :: F) (es:=es) (qs:=qs) (by simpa using h) fun i hi=>by
    have:=H (i + 1) (by simpa using hi)
    simpa [List.getD_eq_getElem?_getD] using this
   have a1:Im (gow (some p :: es) (q :: qs) :: F) (bnd [own T64 p.1 (Us (dg q.num.natAbs)),own T64 p.2 (Us (dg q.den))] :: gow es qs :: F):=bnd_uncons _ _ F
   refine a1.trans ((un_bnd _ _).trans ?_)
   show Im (own T64 p.1 (Us (dg q.num.natAbs)) :: own T64 p.2 (Us (dg q.den)) :: gow es qs :: F) _
   refine (im_swap3 _ _ _ F).trans (ih.trans ?_)
   show Im (owl T64 wU (hpc (hsE nS2 es)) (pcl qs) :: own T64 p.1 (Us (dg q.num.natAbs)) :: own T64 p.2 (Us (dg q.den)) :: F) (bnd (own T64 p.1 ((Zs (dg q.num.natAbs)).map wU) :: own T64 p.2 ((Zs (dg q.den)).map wU) :: owls T64 wU (hpc (hsE nS2 es)) (pcl qs)) :: F)
   rw [← Us_eq,← Us_eq]
   refine (Im.perm ((List.perm_middle (l₁:=[own T64 p.1 (Us (dg q.num.natAbs)),own T64 p.2 (Us (dg q.den))])).symm)).trans ?_
   exact (Im.cons _ (bnd_cons (own T64 p.2 (Us (dg q.den))) _ F)).trans (bnd_cons (own T64 p.1 (Us (dg q.num.natAbs))) _ F)
attribute [local irreducible] Fit pt own ro vw mpc lpt vels rels mow lrc dfr
attribute [local irreducible] lmp lme mit velg relg bnd owl dfrl gow shB grB
theorem riprefuses_tr (tv:Value) (t:List Int) (k n:Int):Tr Tryz.prog 56 [tv,I k,I n] [vw tv (Is t)] [] fun u D=>u = I (ripE t k n)∧D = []:=by
 have hC:=SoCheck_tr tv t k
 have h13:=@solE_13 t k
 unfold ripE
 by_cases hc:k < 1∨1024 < k∨n < 0∨4096 < n
 ·rw [if_pos hc]
  refine Tr.enter env _ Tryz.func56 (by kernel_rfl) rfl Tryz.ntmps56 rfl (by repeat (first | exact has00 | refine has01 ?_)) fun w0=>?_
  repeat' first|(refine wo ?_;first|(refine ao ?_;first|refine oa ?_)|refine oa ?_|refine gy ?_|refine gn ?_|(refine gsi (fun hB=>?_) (fun hB=>?_) <;> try (exfalso;omega)))|(refine gc ?_;first|refine ct ?_|(refine ci (fun hB=>?_) (fun hB=>?_) <;> try (exfalso;omega)))|refine sq ?_|refine rg ?_|refine xc ?_|refine nl ?_|refine bk ?_|refine rt ?_
  all_goals exact r1 ⟨rfl,rfl⟩
 ·rw [if_neg hc]
  by_cases hz:solE t k = 0
  ·rw [hz] at hC ⊢
   refine Tr.enter env _ Tryz.func56 (by kernel_rfl) rfl Tryz.ntmps56 rfl (by repeat (first | exact has00 | refine has01 ?_)) fun w0=>?_
   repeat' first|(refine gca ?_;first|(refine ca hC ?_;rintro _ _ ⟨rfl,rfl⟩))|(refine wo ?_;first|(refine ao ?_;first|refine oa ?_)|refine oa ?_|refine gy ?_|(refine gsi (fun hB=>?_) (fun hB=>?_) <;> try (exfalso;omega)))|(refine gc ?_;first|refine cf ?_|(refine ci (fun hB=>?_) (fun hB=>?_) <;> try (exfalso;omega)))|refine sq ?_|refine rg ?_|refine xc ?_|refine nl ?_|refine sk ?_|refine bk ?_|refine rt ?_|refine xb ?_
   exact r1 ⟨rfl,rfl⟩
  ·rw [h13 hz] at hC ⊢
   refine Tr.enter env _ Tryz.func56 (by kernel_rfl) rfl Tryz.ntmps56 rfl (by repeat (first | exact has00 | refine has01 ?_)) fun w0=>?_
   repeat' first|(refine gca ?_;first|(refine ca hC ?_;rintro _ _ ⟨rfl,rfl⟩))|(refine wo ?_;first|(refine ao ?_;first|refine oa ?_)|refine oa ?_|refine gy ?_|(refine gsi (fun hB=>?_) (fun hB=>?_) <;> try (exfalso;omega)))|(refine gc ?_;first|refine ct ?_|(refine ci (fun hB=>?_) (fun hB=>?_) <;> try (exfalso;omega)))|refine sq ?_|refine rg ?_|refine xc ?_|refine nl ?_|refine bk ?_|refine rt ?_
   exact r1 ⟨rfl,rfl⟩
end Go.Art
namespace Go.Art
open Go Go.Proofs Go.RowKit
section
variable {P:Program} {E:Env P} {n:Sh} {fr:Fr} {A A' D G:List Ch} {m:Nat}
theorem m2t {Ds:List Nat} {w0:World} {A0:List Ch} {R':Value→List Ch→Prop} {fn:Func} {t t2:Nat} {v1 v2:Value} (h:R' (.tuple #[v1,v2]) D) (hr:fn.results = #[.tmp t,.tmp t2]:=by rfl) (hv:get fr t = some v1:=by rfl) (hv2:get fr t2 = some v2:=by rfl)
  (hm:Tk (dfrl Ds) A A':=by exact tkA) (hf:Fit A' D G:=by exact fitA) (nb:∀ c ∈ D,∀ b,¬ c.bd b:=by (repeat (first | exact nb0 | refine nb1 ?_));first | done | fail) (hn:n = ⟨m,marks Ds,none⟩:=by rfl) :
  TX E n ⟨bodyPostM (FF none) 0 P fn (RetP (PR w0 A0 R')),w0,A0⟩ [] .ret fr A:=by
 subst hn
 exact mG (.inl rfl) h (fun w hw a ha=>by rw [results_tmp2 hr a.tmps P w,ha.slot _ _ hv,ha.slot _ _ hv2]) hm hf nb
end
structure SkG where
 qs:List Rat
 es:List (Option HV)
structure SkI (t:List Int) (k n j:Nat) (g:SkG):Prop where
 ql:g.qs.length = k + 1
 el:g.es.length = k + 1
 in_:∀ i,i < k + 1→k + 1 ≤ i + j→g.qs.getD i 0 = stT t k n i∧(g.es.getD i none).isSome
structure SkP where
 i:Nat
 p:HV
theorem stI_set {t:List Int} {k n j:Nat} {g:SkG} (h:SkI t k n j g) (hj:j ≤ k) (p:HV):SkI t k n (j + 1) ⟨g.qs.set (k - j) (stT t k n (k - j)),g.es.set (k - j) (some p)⟩:=by
 refine ⟨by rw [List.length_set,h.ql],by rw [List.length_set,h.el],fun i hi h2=>?_⟩
 rw [getD_setR _ _ _ _ (by rw [h.ql];omega),getD_setO _ _ _ _ (by rw [h.el];omega)]
 by_cases e:i = k - j
 ·subst e;rw [if_pos rfl,if_pos rfl];exact ⟨rfl,rfl⟩
 ·rw [if_neg e,if_neg e];exact h.in_ i hi (by omega)
theorem stI_all {t:List Int} {k n:Nat} {g:SkG} (h:SkI t k n (k + 1) g):g.qs = stL t k n∧∀ i,i < g.qs.length→(g.es.getD i none).isSome:=by
 refine ⟨List.ext_getElem (by rw [h.ql,stL_len]) fun i h1 h2=>?_,fun i hi=>(h.in_ i (by rw [h.ql] at hi;exact hi) (by omega)).2⟩
 have h3:=(h.in_ i (by rw [h.ql] at h1;exact h1) (by omega)).1
 rw [← stL_get (by rw [h.ql] at h1;exact h1)] at h3
 simpa [List.getD_eq_getElem?_getD,h1,h2] using h3
theorem rcs_setS {z:HV} {es:List (Option HV)} {qs:List Rat} (hl:es.length = qs.length) {i:Nat} (hi:i < qs.length) (q:Rat) (p:HV):(rcs qs (hsE z es)).take (3 * i) ++ rrow q p ++ (rcs qs (hsE z es)).drop (3 * i + 3) = rcs (qs.set i q) (hsE z (es.set i (some p))):=by
 rw [rcs_set (by rw [hsE_len,hl]) hi,hsE_set]
attribute [local irreducible] Fit pt own ro vw mpc lpt vels rels mow lrc dfr
attribute [local irreducible] lmp lme mit velg relg bnd owl dfrl gow shB grB
abbrev TRs:TypeId:=26
set_option maxHeartbeats 1000000 in
theorem Stuck_tr (tv:Value) (htv:tv.oneCell' = true) (t:List Int) (k n:Nat) (hz:solE t k = 0) (hk:k ≤ 40) (hl:t.length ≤ 12) (hn:n ≤ 12):Tr Tryz.prog 18 [tv,I k,I n] [vw tv (Is t)] []
  fun u D=>∃ v hs,u = tup2 v (I 0)∧v.oneCell' = true∧hs.length = k + 1∧D = [oww TRt 3 v (k + 1) (rcs (stL t k n) hs),ofr hs (stL t k n)]:=by
 have hk1:=(solE_zero hz).1
 have hR:=riprefuses_tr tv t k n
 rw [show ripE t k n = 0 by unfold ripE;rw [if_neg (by omega)];exact hz] at hR
 have hLv:=levels_tr tv htv (k:Int) (n:Int)
 have hW:=whole_tr 0 (by decide)
 rw [zero_mk] at hW
 have hrunL:=fun p1 p2 p3=>@SeqW.run _ _ _ _ _ _ _ (levels1_seq p1 p2 p3 tv htv t k n hz hk hl hn)
 obtain ⟨B,hB⟩ : ∃ B,B = 20000:=⟨_,rfl⟩
 have hB9:B ≤ 8589934592:=by omega
 have hfact:=fun j (hj:j ≤ k)=>lvT_facts hz hk hl hn hB (j:=j) hj
 have hPF:∀ j u i,j ≤ k→i ≤ ((n + 1) * (n + 1))→FB (psN n u (lvT t k n j) i) 8589934592:=fun j u i hj hi=>by
  obtain ⟨b1,b2,b3,b4⟩:=hfact j hj
  exact (FB_le1 (psN_fr b1 hi) b3 (Rat.le_trans (psN_le b1 hi) b2) b4).le hB9
 have hXF:∀ j i,j ≤ k→i < ((n + 1) * (n + 1))→FB ((lvT t k n j).getD i 0) 8589934592:=fun j i hj hi=>by
  obtain ⟨b1,b2,b3,b4⟩:=hfact j hj
  exact (y_FB b1 b2 b3 b4 hi).le hB9
 have hst:∀ j,j ≤ k→stuckR n (k - j) (lvT t k n j) = stT t k n (k - j):=fun j hj=>by unfold stT;rw [show k - (k - j) = j by omega]
 have hset:=fun j g (h:SkI t k n j g) (hj:j ≤ k) p=>stI_set h hj p
 have hall:=fun g (h:SkI t k n (k + 1) g)=>stI_all h
 have hql:∀ j,(lvT t k n j).length = ((n + 1) * (n + 1)):=fun j=>(supp_lv _ _ _ _ j).len
 have hPl:=fun v hv=>places_tr n v hv
 have hst0:SkI t k n 0 ⟨List.replicate (k + 1) 0,List.replicate (k + 1) none⟩:=⟨by simp,by simp,fun i h1 h2=>by omega⟩
 unfold FQ at hW
 have e0:((0:Nat):Int) = 0:=rfl
 rw [e0] at hW
 clear hz hfact hB hB9
 generalize lvT t k n = L at *
 generalize stL t k n = LL at *
 have hkk:(k:Int) + 1 = ((k + 1:Nat):Int):=rfl
 refine Tr.enterM env _ Tryz.func18 (by kernel_rfl) rfl Tryz.ntmps18 rfl (by repeat (first | exact has00 | refine has01 ?_)) fun w0=>?_
 repeat' first|(refine gca ?_;first|(refine ca hR ?_;rintro _ _ ⟨rfl,rfl⟩)|(refine ca hLv ?_;rintro _ _ ⟨p1,p2,p3,rfl,rfl⟩))|(refine aw (m:=(k:Int) + 1) ?_;rw [hkk])|(refine mkw (sz:=3) (c:=((k + 1:Nat):Int)) (fun sv hsv=>?_);rw [Int.toNat_natCast,zrs_eq,zrs_rcs])|refine al fun c9=>?_|(refine wo ?_;first|(refine ao ?_;first|refine oa ?_)|refine oa ?_|refine sr ?_)|(refine gc ?_;first|refine cf ?_)|refine sq ?_|refine rg ?_|refine xc ?_|refine nl ?_|refine sk ?_|refine bk ?_
 refine TC.im (gow_none _ (k + 1) (List.replicate (k + 1) 0)) ?_
 have hrun:=@hrunL p1 p2 p3
 clear hrunL hLv hR
 refine TC.range [lbd [lpt c9 [sv] TRs],lbd [lpt p1 [tv] TLs,lpt p2 [I k] TLI,lpt p3 [I n] TLI,vw tv (Is t)]] [oww TRt 3 sv (k + 1) (rcs (List.replicate (k + 1) 0) (hsE nS2 (List.replicate (k + 1) none))),gow (List.replicate (k + 1) none) (List.replicate (k + 1) 0)] (fun l2 rec Dm pend B'=>∃ g:SkG,B' = [dfr Dm,oww TRt 3 sv (k + 1) (rcs g.qs (hsE nS2 g.es)),gow g.es g.qs]∧pend = none∧SkI t k n (k + 1) g) ?_ ?_ (hp:=has1 (lbd_of (has1 hasA has0)) (has1 (lbd_of (has1 hasA (has1 hasA (has1 hasA (has1 hasA has0))))) has0))
 rotate_left
 ·rintro l2 rec Dm pend B' ⟨⟨qs,es⟩,rfl,rfl,hS⟩
  obtain ⟨e1,e2⟩:=hall _ hS
  have h1:=hS.ql
  have h2:=hS.el
  dsimp only at e1 e2 h1 h2 ⊢
  subst e1
  show TX env _ _ _ _ _ _
  refine TX.im (dfrl_nil _) ?_
  refine TX.im (dfrl_push (D:=Dm) (Ds:=[]) fitA) ?_
  repeat' first|(refine wo ?_;first|refine oa ?_|refine ld ?_)|refine sq ?_|refine rg ?_|refine xc ?_|refine nl ?_|refine rt ?_|refine xb ?_
  refine TX.im (Im.trans (Im.perm (List.perm_middle (l₁:=[dfrl [Dm],oww TRt 3 sv (k + 1) (rcs qs (hsE nS2 es))]))) (gow_ofr _ (by omega) e2)) ?_
  exact m2t (Ds:=[Dm]) ⟨sv,hsE nS2 es,rfl,hsv,by rw [hsE_len];exact h2,rfl⟩
 intro rec l2 Dm hr
 refine Tr.unb (hrun (α:=SkG) (lbd [lpt c9 [sv] TRs]) l2 (fun g=>bnd [lrc l2 rec .ready none,dfr Dm,oww TRt 3 sv (k + 1) (rcs g.qs (hsE nS2 g.es)),gow g.es g.qs]) (fun g j=>SkI t k n j g) (fun _=>False) ⟨List.replicate (k + 1) 0,List.replicate (k + 1) none⟩ hst0 (fun p=>bnd_nob (by repeat (first | exact nb0 | refine nb1 ?_))) ?_) ?_
 rotate_left
 ·rintro _ _ ⟨g,rfl,h | h⟩
  ·exact ⟨_,rfl,.ready,none,_,rfl,by decide,g,rfl,rfl,h⟩
  ·exact h.elim
 clear hrun hst0 hall
 rintro ⟨qs,es⟩ j v ez z hv hz hgr hS hj
 have hset:=hset j _ hS hj
 have hqs:=hS.ql
 have hes:=hS.el
 dsimp only at hset hqs hes ⊢
 refine Ty.bndK (K:=[grB n v (L j) ez z]) ?_
 refine Ty.pre (pre:=[lpt c9 [sv] TRs]) ?_ (has_lbds (C:=[lpt c9 [sv] TRs]) (List.Mem.head _) _ (by repeat (first | exact has00 | refine has01 ?_)) fun c hc=>hc) (by repeat (first | exact has00 | refine has01 ?_))
 refine Ty.intro env hr (by repeat (first | exact has00 | refine has01 ?_)) fun w1=>?_
 have hPl:=hPl v hv
 have hPF:=fun i hi=>hPF j (k - j) i hj hi
 have hXF:=fun i hi=>hXF j i hj hi
 rw [← hst j hj] at hset
 clear hst hS
 have hql:=hql j
 have hhl:(hsE z ez).length = (L j).length:=by rw [hsE_len,hgr.el,hgr.ql]
 generalize L j = x at *
 have hu:k - j < k + 1:=by omega
 generalize k - j = u at *
 repeat' first|refine al fun c11=>?_|refine srz ?_ (hj:=Nat.le_of_ble_eq_true rfl)|refine xbeg ?_|(refine wo ?_;first|refine sr ?_)|refine sq ?_|refine rg ?_|refine xc ?_|refine nl ?_|refine bk ?_
 rename_i c10
 have hul:=show u < qs.length by omega
 have hrs:=fun (q':Rat) (p':HV)=>rcs_setS (z:=nS2) (es:=es) (qs:=qs) (by omega) (i:=u) hul q' p'
 refine rs (fun w'=>w'.heap[c9]? = some (.cells [sv].toArray TRs (0,0))∧w'.heap[c10]? = some (.cells [I u].toArray TLI (0,0))∧∃ xs,SlW w' sv (k + 1) xs) ?_ (fun w' hw=>⟨lpt_at memA hw,pt_at memA hw,_,(has_oww (e:=TRt) (sz:=3) (v:=sv) (n:=k + 1) memA).P w' hw⟩)
 refine krl 0 (cs:=[sv]) (fun w' h=>h.1) ?_
 refine krl 1 (cs:=[I u]) (fun w' h=>h.2.1) ?_
 refine t1 2 ?_
 refine ca hW ?_
 rintro _ _ ⟨n1,d1,rfl,hn1,hd1,rfl⟩
 refine nl ?_
 refine te (fun w' hw=>⟨lpt_at memA hw,pt_at memA hw,_,(has_oww (e:=TRt) (sz:=3) (v:=sv) (n:=k + 1) memA).P w' hw⟩) ?_
 refine kr 3 (v:=.pointer (some (adr sv (3 * u)))) (hi:=rfl) (fun w' h=>by obtain ⟨xs,hx⟩:=h.2.2;exact R_idxW (E:=env) (i:=(u:Int)) rfl rfl rfl rfl hx ⟨by omega,by omega⟩) ?_
 refine t1 4 ?_
 refine sow (sz:=3) (m:=3 * u) (N:=k + 1) (xs:=rcs qs (hsE nS2 es)) (vs:=rrow 0 (n1,d1)) (by omega) ?_ (h1:=one_cons rfl (one_cons hn1 (one_cons hd1 one_nil)))
 refine nl ?_
 refine te (fun w' hw=>⟨lpt_at memA hw,pt_at memA hw,_,(has_oww (e:=TRt) (sz:=3) (v:=sv) (n:=k + 1) memA).P w' hw⟩) ?_
 refine t0 ?_
 refine id ?_
 repeat' first|(refine gca ?_;first|(refine ca hPl ?_;rintro _ _ ⟨bp,rfl,rfl⟩))|refine lda (cs:=[I n,v]) ?_|refine sq ?_|refine rg ?_|refine xc ?_|refine nl ?_|refine bk ?_
 refine TC.im (gow_set (es:=es) (qs:=qs) (by omega) (i:=u) hul 0 n1 d1 fitA) ?_
 rw [hrs,← psN_zero n u x]
 refine TC.fact (fun w hw i hi=>fr_one (hs:=hsE z ez) (qs:=x) (has_grB hgr memA).2 hhl (i:=i) hi w hw) fun hone=>?_
 have hrun2:=@SeqP.run _ _ _ _ _ _ _ (places1_seq bp n v x (hsE z ez) hhl hql hn hone)
 refine TC.rangeI (l0:=l2) (rec0:=rec) memA [lbd [lpt c9 [sv] TRs,lpt c10 [I u] TLI,vfr (hsE z ez) x],lbd [lpt bp [I n,v] TGr,vwf v ((n + 1) * (n + 1)) (rcs x (hsE z ez))]] [oww TRt 3 sv (k + 1) (rcs (qs.set u (psN n u x 0)) (hsE nS2 (es.set u (some (n1,d1))))),gow (es.set u (some (n1,d1))) (qs.set u (psN n u x 0))] (fun l3 rec3 pend B'=>∃ p:HV,B' = [oww TRt 3 sv (k + 1) (rcs (qs.set u (psN n u x ((n + 1) * (n + 1)))) (hsE nS2 (es.set u (some p)))),gow (es.set u (some p)) (qs.set u (psN n u x ((n + 1) * (n + 1))))]∧pend = none) ?_ ?_ (hp:=has1 (lbd_of (has1 hasA (has1 hasA (has1 (has_grB hgr memA).2 has0)))) (has1 (lbd_of (has1 hasA (has1 (has_grB hgr memA).1 has0))) has0))
 rotate_left
 ·rintro l3 rec3 pend B' ⟨p,rfl,rfl⟩
  rw [psN_all]
  have hsp:=hset p
  generalize stuckR n u x = sr' at *
  show TX env _ _ _ _ _ _
  repeat' first|refine xb ?_
  exact yn ⟨[lrc l2 rec .ready none,dfr Dm,oww TRt 3 sv (k + 1) (rcs (qs.set u sr') (hsE nS2 (es.set u (some p)))),gow (es.set u (some p)) (qs.set u sr')],[grB n v x ez z],rfl,.inl ⟨rfl,⟨qs.set u sr',es.set u (some p)⟩,rfl,hsp⟩⟩
 intro rec3 l3 hr3
 refine Tr.unb (hrun2 (α:=SkP) (lbd [lpt c9 [sv] TRs,lpt c10 [I u] TLI,vfr (hsE z ez) x]) l3 (fun g=>bnd [lrc l3 rec3 .ready none,oww TRt 3 sv (k + 1) (rcs (qs.set u (psN n u x g.i)) (hsE nS2 (es.set u (some g.p)))),gow (es.set u (some g.p)) (qs.set u (psN n u x g.i))]) (fun g i=>g.i = i∧g.p.1.oneCell' = true∧g.p.2.oneCell' = true) (fun _=>False) ⟨0,(n1,d1)⟩ ⟨rfl,hn1,hd1⟩ (fun p=>bnd_nob (by repeat (first | exact nb0 | refine nb1 ?_))) ?_) ?_
 rotate_left
 ·rintro _ _ ⟨g,rfl,⟨hi,_⟩ | h⟩
  ·exact ⟨_,rfl,.ready,none,_,rfl,by decide,g.p,by rw [hi],rfl⟩
  ·exact h.elim
 clear hrun2 hset hW hPl
 rintro ⟨i,p⟩ i' ⟨hii,hp1,hp2⟩ hi
 dsimp only at hii hp1 hp2
 subst hii
 refine Ty.bnd ?_
 refine Ty.pre (pre:=[lpt c9 [sv] TRs,lpt c10 [I u] TLI,vfr (hsE z ez) x]) ?_ (has_lbds (C:=[lpt c9 [sv] TRs,lpt c10 [I u] TLI,vfr (hsE z ez) x]) (List.Mem.head _) _ (by repeat (first | exact has00 | refine has01 ?_)) fun c hc=>hc) (by repeat (first | exact has00 | refine has01 ?_))
 refine Ty.intro env hr3 (by repeat (first | exact has00 | refine has01 ?_)) fun w2=>?_
 have hPi:=hPF i (by omega)
 have hXi:=hXF i hi
 have hin:=fun h=>psN_in (n:=n) (u:=u) (x:=x) (i:=i) h
 have hout:=fun h=>psN_out (n:=n) (u:=u) (x:=x) (i:=i) h
 have hgot:=fun (F:List Ch) (h:vfr (hsE z ez) x ∈ F)=>has_fr (has_mem h) hhl (i:=i) (by rw [hql];exact hi)
 have hx1:=hone i (by rw [hql];exact hi)
 clear hPF hXF hone
 dsimp only
 generalize (hsE z ez).getD i nS2 = hx at *
 obtain ⟨x1,x2⟩:=hx
 dsimp only at hx1 hgot
 obtain ⟨hx1,hx2⟩:=hx1
 generalize i / (n + 1) = c at *
 generalize i % (n + 1) = r at *
 generalize x.getD i 0 = y at *
 obtain ⟨q0,hq0⟩ : ∃ q0,q0 = psN n u x i:=⟨_,rfl⟩
 rw [← hq0] at hPi ⊢
 simp only [← hq0] at hin hout
 by_cases hc:u = 0∨r = 0
 rotate_left
 ·have ho:=hout hc
  repeat' first|refine al fun c13=>?_|refine srz ?_ (hj:=Nat.le_of_ble_eq_true rfl)|refine xbeg ?_|refine ixa (m:=2) (i:=1) ?_|(refine wo ?_;first|(refine ao ?_;first|refine oa ?_)|refine oa ?_|refine ld ?_|refine ldl ?_|refine gy ?_|(refine gsi (fun hB=>?_) (fun hB=>?_) <;> try (exfalso;omega)))|(refine gc ?_;first|(refine ci (fun hB=>?_) (fun hB=>?_) <;> try (exfalso;omega)))|refine sq ?_|refine rg ?_|refine xc ?_|refine nl ?_|refine sk ?_|refine bk ?_|refine xb ?_
  rw [← ho]
  exact yn ⟨⟨i + 1,p⟩,rfl,.inl ⟨rfl,rfl,hp1,hp2⟩⟩
 have hi1:=hin hc
 obtain ⟨pa,pb⟩:=p
 dsimp only at hp1 hp2 ⊢
 have hAdd:=fun lv=>FAdd2_tr q0 y lv pa pb x1 x2 hPi hXi
 rw [← hi1] at hAdd
 obtain ⟨q1,hq1⟩ : ∃ q1,q1 = psN n u x (i + 1):=⟨_,rfl⟩
 rw [← hq1] at hAdd
 unfold FQ2 at hAdd
 have hQs:(qs.set u q0).set u q1 = qs.set u q1:=List.set_set ..
 have hEs:∀ p',(es.set u (some (pa,pb))).set u p' = es.set u p':=fun p'=>List.set_set ..
 have hQl:(qs.set u q0).length = k + 1:=by rw [List.length_set,hqs]
 have hEl:(es.set u (some (pa,pb))).length = k + 1:=by rw [List.length_set,hes]
 have hQu:(qs.set u q0).getD u 0 = q0:=by rw [getD_setR _ _ _ _ hul,if_pos rfl]
 have hEu:(es.set u (some (pa,pb))).getD u none = some (pa,pb):=by rw [getD_setO _ _ _ _ (by omega),if_pos rfl]
 generalize qs.set u q0 = Q at *
 generalize es.set u (some (pa,pb)) = ES at *
 have hrow:=rcs_row (hs:=hsE nS2 ES) (qs:=Q) (by rw [hsE_len,hEl,hQl]) (i:=u) (by omega)
 rw [hQu,hsE_get (by omega),hEu] at hrow
 have hrs2:=fun (q':Rat) (p':HV)=>rcs_setS (z:=nS2) (es:=ES) (qs:=Q) (by omega) (i:=u) (by omega) q' p'
 have hgs:=fun (F:List Ch) (h:gow ES Q ∈ F)=>has_gowS (es:=ES) (qs:=Q) (by omega) h (i:=u) (by omega) hEu
 rw [hQu] at hgs
 dsimp only [Option.getD] at hrow
 dsimp only at hgs
 clear hin hout hrs hXi hPi
 by_cases hu0:u = 0
 ·repeat' first|refine al fun c13=>?_|refine srz ?_ (hj:=Nat.le_of_ble_eq_true rfl)|refine xbeg ?_|refine ixa (m:=2) (i:=1) ?_|(refine wo ?_;first|(refine ao ?_;first|refine oa ?_)|refine oa ?_|refine ldl ?_|refine gn ?_|(refine gsi (fun hB=>?_) (fun hB=>?_) <;> try (exfalso;omega)))|(refine gc ?_;first|refine ct ?_)|refine sq ?_|refine rg ?_|refine xc ?_|refine nl ?_|refine bk ?_
  refine rs (fun w'=>w'.heap[c9]? = some (.cells [sv].toArray TRs (0,0))∧w'.heap[c10]? = some (.cells [I u].toArray TLI (0,0))∧w'.heap[c13]? = some (.cells (rrow y (x1,x2)).toArray TRt (0,0))∧∃ xs,SlW w' sv (k + 1) xs) ?_ (fun w' hw=>⟨lpt_at memA hw,lpt_at memA hw,pt_at memA hw,_,(has_oww (e:=TRt) (sz:=3) (v:=sv) (n:=k + 1) memA).P w' hw⟩)
  refine krl 0 (cs:=[sv]) (fun w' h=>h.1) ?_
  refine krl 1 (cs:=[I u]) (fun w' h=>h.2.1) ?_
  refine krl 2 (cs:=[sv]) (fun w' h=>h.1) ?_
  refine krl 3 (cs:=[I u]) (fun w' h=>h.2.1) ?_
  refine kr 4 (v:=.pointer (some (adr sv (3 * u)))) (hi:=rfl) (fun w' h=>by obtain ⟨xs,hx⟩:=h.2.2.2;exact R_idxW (E:=env) (i:=(u:Int)) rfl rfl rfl rfl hx ⟨by omega,by omega⟩) ?_
  refine kr 6 (v:=.agg (rrow y (x1,x2)).toArray) (fun w' h=>R_loadA (E:=env) (vs:=rrow y (x1,x2)) rfl rfl rfl rfl h.2.2.1 rfl rfl) ?_
  refine t1 5 ?_
  refine ldaw (N:=k + 1) (xs:=rcs Q (hsE nS2 ES)) (m:=3 * u) hrow ?_ (hm:=has_oww memA)
  refine nl ?_
  refine te (fun w' hw=>⟨lpt_at memA hw,lpt_at memA hw,pt_at memA hw,_,(has_oww (e:=TRt) (sz:=3) (v:=sv) (n:=k + 1) memA).P w' hw⟩) ?_
  refine t1 7 ?_
  refine slws (sz:=3) (xs:=rrow q0 (pa,pb) ++ rrow y (x1,x2)) fun g2=>?_
  refine nl ?_
  refine te (fun w' hw=>⟨lpt_at memA hw,lpt_at memA hw,pt_at memA hw,_,(has_oww (e:=TRt) (sz:=3) (v:=sv) (n:=k + 1) memA).P w' hw⟩) ?_
  refine t1 8 ?_
  refine ca (hAdd _) ?_ (hp:=has1 (has_oww memA) (has1 (hgs _ memA).1 (has1 (hgs _ memA).2 (has1 (hgot _ memA).1 (has1 (hgot _ memA).2 has0)))))
  rintro _ _ ⟨n2,d2,rfl,hn2,hd2,rfl⟩
  refine nl ?_
  refine te (fun w' hw=>⟨lpt_at memA hw,lpt_at memA hw,pt_at memA hw,_,(has_oww (e:=TRt) (sz:=3) (v:=sv) (n:=k + 1) memA).P w' hw⟩) ?_
  refine kra 9 ?_
  refine kra 10 ?_
  refine kra 11 ?_
  refine kr 12 (v:=.pointer (some (adr sv (3 * u)))) (hi:=rfl) (fun w' h=>by obtain ⟨xs,hx⟩:=h.2.2.2;exact R_idxW (E:=env) (i:=(u:Int)) rfl rfl rfl rfl hx ⟨by omega,by omega⟩) ?_
  refine t1 13 ?_
  refine sow (sz:=3) (m:=3 * u) (N:=k + 1) (xs:=rcs Q (hsE nS2 ES)) (vs:=rrow q1 (n2,d2)) (by omega) ?_ (h1:=one_cons rfl (one_cons hn2 (one_cons hd2 one_nil)))
  refine nl ?_
  refine te (fun w' hw=>⟨lpt_at memA hw,lpt_at memA hw,pt_at memA hw,_,(has_oww (e:=TRt) (sz:=3) (v:=sv) (n:=k + 1) memA).P w' hw⟩) ?_
  refine t0 ?_
  repeat' first|refine xb ?_
  refine TX.im (gow_set (es:=ES) (qs:=Q) (by rw [hEl,hQl]) (i:=u) (by rw [hQl];exact hu) q1 n2 d2 fitA) ?_
  rw [hrs2 q1 (n2,d2),hQs,hEs,hq1]
  exact yn ⟨⟨i + 1,(n2,d2)⟩,rfl,.inl ⟨rfl,rfl,hn2,hd2⟩⟩
 have hr0:r = 0:=hc.resolve_left hu0
 repeat' first|refine al fun c13=>?_|refine srz ?_ (hj:=Nat.le_of_ble_eq_true rfl)|refine xbeg ?_|refine ixa (m:=2) (i:=1) ?_|(refine wo ?_;first|(refine ao ?_;first|refine oa ?_)|refine oa ?_|refine ld ?_|refine ldl ?_|refine gy ?_|(refine gsi (fun hB=>?_) (fun hB=>?_) <;> try (exfalso;omega)))|(refine gc ?_;first|(refine ci (fun hB=>?_) (fun hB=>?_) <;> try (exfalso;omega)))|refine sq ?_|refine rg ?_|refine xc ?_|refine nl ?_|refine bk ?_
 refine rs (fun w'=>w'.heap[c9]? = some (.cells [sv].toArray TRs (0,0))∧w'.heap[c10]? = some (.cells [I u].toArray TLI (0,0))∧w'.heap[c13]? = some (.cells (rrow y (x1,x2)).toArray TRt (0,0))∧∃ xs,SlW w' sv (k + 1) xs) ?_ (fun w' hw=>⟨lpt_at memA hw,lpt_at memA hw,pt_at memA hw,_,(has_oww (e:=TRt) (sz:=3) (v:=sv) (n:=k + 1) memA).P w' hw⟩)
 refine krl 0 (cs:=[sv]) (fun w' h=>h.1) ?_
 refine krl 1 (cs:=[I u]) (fun w' h=>h.2.1) ?_
 refine krl 2 (cs:=[sv]) (fun w' h=>h.1) ?_
 refine krl 3 (cs:=[I u]) (fun w' h=>h.2.1) ?_
 refine kr 4 (v:=.pointer (some (adr sv (3 * u)))) (hi:=rfl) (fun w' h=>by obtain ⟨xs,hx⟩:=h.2.2.2;exact R_idxW (E:=env) (i:=(u:Int)) rfl rfl rfl rfl hx ⟨by omega,by omega⟩) ?_
 refine kr 6 (v:=.agg (rrow y (x1,x2)).toArray) (fun w' h=>R_loadA (E:=env) (vs:=rrow y (x1,x2)) rfl rfl rfl rfl h.2.2.1 rfl rfl) ?_
 refine t1 5 ?_
 refine ldaw (N:=k + 1) (xs:=rcs Q (hsE nS2 ES)) (m:=3 * u) hrow ?_ (hm:=has_oww memA)
 refine nl ?_
 refine te (fun w' hw=>⟨lpt_at memA hw,lpt_at memA hw,pt_at memA hw,_,(has_oww (e:=TRt) (sz:=3) (v:=sv) (n:=k + 1) memA).P w' hw⟩) ?_
 refine t1 7 ?_
 refine slws (sz:=3) (xs:=rrow q0 (pa,pb) ++ rrow y (x1,x2)) fun g2=>?_
 refine nl ?_
 refine te (fun w' hw=>⟨lpt_at memA hw,lpt_at memA hw,pt_at memA hw,_,(has_oww (e:=TRt) (sz:=3) (v:=sv) (n:=k + 1) memA).P w' hw⟩) ?_
 refine t1 8 ?_
 refine ca (hAdd _) ?_ (hp:=has1 (has_oww memA) (has1 (hgs _ memA).1 (has1 (hgs _ memA).2 (has1 (hgot _ memA).1 (has1 (hgot _ memA).2 has0)))))
 rintro _ _ ⟨n2,d2,rfl,hn2,hd2,rfl⟩
 refine nl ?_
 refine te (fun w' hw=>⟨lpt_at memA hw,lpt_at memA hw,pt_at memA hw,_,(has_oww (e:=TRt) (sz:=3) (v:=sv) (n:=k + 1) memA).P w' hw⟩) ?_
 refine kra 9 ?_
 refine kra 10 ?_
 refine kra 11 ?_
 refine kr 12 (v:=.pointer (some (adr sv (3 * u)))) (hi:=rfl) (fun w' h=>by obtain ⟨xs,hx⟩:=h.2.2.2;exact R_idxW (E:=env) (i:=(u:Int)) rfl rfl rfl rfl hx ⟨by omega,by omega⟩) ?_
 refine t1 13 ?_
 refine sow (sz:=3) (m:=3 * u) (N:=k + 1) (xs:=rcs Q (hsE nS2 ES)) (vs:=rrow q1 (n2,d2)) (by omega) ?_ (h1:=one_cons rfl (one_cons hn2 (one_cons hd2 one_nil)))
 refine nl ?_
 refine te (fun w' hw=>⟨lpt_at memA hw,lpt_at memA hw,pt_at memA hw,_,(has_oww (e:=TRt) (sz:=3) (v:=sv) (n:=k + 1) memA).P w' hw⟩) ?_
 refine t0 ?_
 repeat' first|refine xb ?_
 refine TX.im (gow_set (es:=ES) (qs:=Q) (by rw [hEl,hQl]) (i:=u) (by rw [hQl];exact hu) q1 n2 d2 fitA) ?_
 rw [hrs2 q1 (n2,d2),hQs,hEs,hq1]
 exact yn ⟨⟨i + 1,(n2,d2)⟩,rfl,.inl ⟨rfl,rfl,hn2,hd2⟩⟩
end Go.Art
namespace Go.Art
open Go Go.Proofs Go.RowKit
def slSubW (sz:Nat):Value→Nat→Nat→Value
 | .slice a _ cap,lo,hi=>.slice (if cap = lo then a else a.map (·.add (lo * sz))) (hi - lo) (cap - lo)
 | v,_,_=>v
theorem SlW.sub {w:World} {v:Value} {n:Nat} {xs:List Value} (h:SlW w v n xs) {sz lo:Nat} (h1:lo ≤ n) (hx:xs.length ≤ n * sz):SlW w (slSubW sz v lo n) (n - lo) (xs.drop (lo * sz)):=by
 obtain ⟨a,cap,rfl,h2,h3,h4,h5⟩:=h
 refine ⟨if cap = lo then a else a.map (·.add (lo * sz)),cap - lo,rfl,by omega,by omega,fun h6=>?_,fun i u hi=>?_⟩
 ·obtain ⟨x,rfl⟩:=h4 (by omega)
  rw [if_neg (by omega)]
  exact ⟨_,rfl⟩
 ·rw [List.getElem?_drop] at hi
  obtain ⟨x,rfl,hc⟩:=h5 _ u hi
  have hlt:=(List.getElem?_eq_some_iff.1 hi).1
  have hne:¬ cap = lo:=fun e=>by
   have:lo = n:=by omega
   subst this
   omega
  rw [if_neg hne]
  refine ⟨x.add (lo * sz),rfl,?_⟩
  rw [Deep.add_add];exact hc
theorem has_subW {F:List Ch} {e:TypeId} {sz n lo m:Nat} {v:Value} {xs ys:List Value} (h:oww e sz v n xs ∈ F) (hx:xs.length ≤ n * sz) (hlo:lo ≤ n) (hm:n - lo = m) (hy:xs.drop (lo * sz) = ys):Has F (vwf (slSubW sz v lo n) m ys):=by
 subst hm hy
 refine ⟨fun w hw=>(OwnV.slw (hw.h (oww e sz v n xs) h)).sub hlo hx,fun _ h=>h,fun _ h=>h,fun b hb=>⟨_,h,?_⟩⟩
 rcases hb with hb | hb | ⟨_,hb⟩
 ·exact hb.elim
 ·exact hb.elim
 ·refine .inl ?_
  show v.ownBlock = some b
  cases v <;> try exact hb
  rename_i a l c
  cases a with
  | none=>simp [slSubW,Value.ownBlock] at hb
  | some a=>
   simp only [slSubW] at hb
   split at hb
   ·exact hb
   ·simp only [Option.map_some,Value.ownBlock,Option.some.injEq] at hb ⊢
    rw [← hb,add_block]
theorem ofr_uncons (h:HV) (hs:List HV) (q:Rat) (qs:List Rat) (F:List Ch):Im (ofr (h :: hs) (q :: qs) :: F) (own T64 h.2 (Us (dg q.den)) :: own T64 h.1 (Us (dg q.num.natAbs)) :: ofr hs qs :: F):=by
 show Im (owl T64 wU (h.1 :: h.2 :: hpc hs) (Zs (dg q.num.natAbs) :: Zs (dg q.den) :: pcl qs) :: F) (own T64 h.2 (Us (dg q.den)) :: own T64 h.1 (Us (dg q.num.natAbs)) :: owl T64 wU (hpc hs) (pcl qs) :: F)
 rw [Us_eq,Us_eq]
 refine (owl_uncons F).trans ?_
 refine (Im.perm (List.Perm.swap _ _ _)).trans ((owl_uncons _).trans ?_)
 exact Im.cons _ (Im.perm (List.Perm.swap _ _ _))
theorem ofr_pop {h:HV} {hs:List HV} {q:Rat} {qs:List Rat} {A F:List Ch} (hf:Fit A [ofr (h :: hs) (q :: qs)] F):Im A (own T64 h.2 (Us (dg q.den)) :: own T64 h.1 (Us (dg q.num.natAbs)) :: ofr hs qs :: F):=Im.trans hf (ofr_uncons h hs q qs F)
theorem foldl_sR:∀ (l:List Rat) (a:Rat),l.foldl (· + ·) a = a + sR id l
 | [],a=>(Rat.add_zero a).symm
 | x :: l,a=>by rw [List.foldl_cons,foldl_sR l];show a + x + sR id l = a + (x + sR id l);rw [Rat.add_assoc]
def failQ (t:List Int) (k n:Nat):Rat:=sR (fun u=>stT t k n (u + 1)) (List.range k)
theorem stL_drop (t:List Int) (k n:Nat):(stL t k n).drop 1 = (List.range k).map fun u=>stT t k n (u + 1):=by
 unfold stL
 rw [List.range_succ_eq_map,List.map_cons,List.drop_succ_cons,List.drop_zero,List.map_map]
 rfl
theorem stL_part (t:List Int) (k n i:Nat) (hi:i ≤ k):(((stL t k n).drop 1).take i).foldl (· + ·) 0 = sR (fun u=>stT t k n (u + 1)) (List.range i):=by
 rw [stL_drop,foldl_sR,Rat.zero_add,← List.map_take,List.take_range,Nat.min_eq_left hi,sR_map]
 rfl
theorem part_nat {t:List Int} {k:Nat} (hz:solE t k = 0) (n i:Nat) (hi:i ≤ k):∃ a,a ≤ oneS t k ^ n∧sR (fun u=>stT t k n (u + 1)) (List.range i) = (a:Rat) / ((oneS t k ^ n:Nat):Rat):=by
 have h1:=ripple_tab hz (fun u=>if 0 < u∧u ≤ i then 1 else 0) n
 have h2:=natG_tG (fun ls=>decide (0 < (largeL k ls).length∧(largeL k ls).length ≤ i)) (itemS t k) (oneS_pos hz) n [] 1
 have h3:=natG_leW (W:=fun ls=>decide (0 < (largeL k ls).length∧(largeL k ls).length ≤ i)) (V:=fun _=>true) (fun _ _=>rfl) (itemS t k) n [] 1
 rw [natG_all (itemS_sum hz),Nat.one_mul] at h3
 generalize natG (fun ls=>decide (0 < (largeL k ls).length∧(largeL k ls).length ≤ i)) (itemS t k) n [] 1 = a at *
 refine ⟨a,h3,?_⟩
 rw [sR_shift,if_neg (fun h=>Nat.lt_irrefl 0 h.1)] at h1
 obtain ⟨m,rfl⟩:=Nat.exists_eq_add_of_le hi
 rw [List.range_add,sR_app,sR_congr (l:=List.range i) (g:=fun u=>stT t (i + m) n (u + 1)) fun u hu=>by rw [if_pos ⟨Nat.succ_pos u,List.mem_range.1 hu⟩,Rat.one_mul],
  sR_congr (l:=(List.range m).map (i + ·)) (g:=fun _=>0) fun u hu=>by obtain ⟨a,_,rfl⟩:=List.mem_map.1 hu;rw [if_neg (by omega),Rat.zero_mul],sR_zero] at h1
 rw [tG_same (item_ev t (i + m))] at h2
 simp only [List.nil_append,decide_eq_true_eq] at h2
 rw [← h1] at h2
 have h0:=nz (Nat.ne_of_gt (Nat.pow_pos (n:=n) (Nat.pos_of_ne_zero (oneS_pos hz))))
 push_cast at h0 ⊢
 rw [h2,show ((1:Nat):Rat) = 1 from rfl]
 grind
theorem part_FB {t:List Int} {k n i:Nat} (hz:solE t k = 0) (hk:k ≤ 40) (hl:t.length ≤ 12) (hn:n ≤ 12) (hi:i ≤ k):FB (sR (fun u=>stT t k n (u + 1)) (List.range i)) 8589934592:=by
 obtain ⟨a,ha,he⟩:=part_nat hz n i hi
 rw [he]
 have h1:=oneS_lt hz hk hl
 have h2:oneS t k ^ n < 18446744073709551616 ^ 121:=by
  refine Nat.lt_of_le_of_lt (Nat.pow_le_pow_left (Nat.le_of_lt h1) n) ?_
  rw [← Nat.pow_mul]
  exact Nat.pow_lt_pow_right (by decide) (by omega)
 exact (FB_nat (B:=121) (Nat.ne_of_gt (Nat.pow_pos (Nat.pos_of_ne_zero (oneS_pos hz)))) (Nat.lt_of_le_of_lt ha h2) h2).le (by decide)
theorem st_FB {t:List Int} {k n u:Nat} (hz:solE t k = 0) (hk:k ≤ 40) (hl:t.length ≤ 12) (hn:n ≤ 12) (hu:u ≤ k):FB (stT t k n u) 8589934592:=by
 obtain ⟨B,hB⟩ : ∃ B,B = 20000:=⟨_,rfl⟩
 have hB9:B ≤ 8589934592:=by omega
 obtain ⟨b1,b2,b3,b4⟩:=lvT_facts hz hk hl hn hB (j:=k - u) (by omega)
 unfold stT
 rw [← psN_all]
 exact (FB_le1 (psN_fr b1 (Nat.le_refl _)) b3 (Rat.le_trans (psN_le b1 (Nat.le_refl _)) b2) b4).le hB9
section
variable {P:Program} {E:Env P} {n:Sh} {X:Cx} {s:List K} {fr:Fr} {A A':List Ch} {ops:Array Oper} {rest:List Oper} {d m N sz by_:Nat} {ty t t' el:TypeId} {pos:String} {after:Array Edge} {v u z:Value} {x y:Operand} {xs vs:List Value} {dt:TypeDesc} {k1 k':IntKind} {w:World}
theorem slw1 {lo:Nat} (k:TO E n X s ops rest ((d,slSubW sz v lo N) :: fr) A) (hlo:lo ≤ N) (hx:ev fr x = some v:=by rfl) (hy:ev fr y = some (.int k1 lo):=by rfl) (hm:Has A (vwf v N xs):=by exact hasA) (ht:lk E.und t = some (.slice el):=by rfl) (he:lk E.inf el = some (z,sz,by_):=by rfl) (hd:Nat.blt d n.n = true:=by rfl) :
  TO E n X s ops (⟨some d,.slice t x (some y) none none,ty,pos,after,none⟩ :: rest) fr A:=TO.val (v:=slSubW sz v lo N) (fun w h=>⟨fun a ha _ _ _ _=>by
 obtain ⟨a0,cap,rfl,h2,h3,_⟩:=(hm.P w h:SlW w v N xs)
 obtain ⟨inf,hi',_,hs,_⟩:=E.info he
 have hu:=run_underlying (P:=P) (E.un ht) w
 have hr:(Instr.sliceAt t (.slice a0 N cap) (some (.int k1 lo)) none none).run P w = .ok (slSubW sz (.slice a0 N cap) lo N) w:=by
  simp [Instr.sliceAt,Instr.slice,hu,Instr.sliceBounds,Instr.sliceBound,asIntOf,sizeOf,typeInfo,hi',hs,slSubW,hlo]
 simp only [execOp,ha.ev hx]
 simp [ha.ev hy,hr]⟩) k hd
end
def failV (t:List Int) (k n:Int):Fr3 × Int:=if ripE t k n = 0 then (rqf (failQ t k.toNat n.toNat),0) else (rqn,ripE t k n)
attribute [local irreducible] Fit pt own ro vw mpc lpt vels rels mow lrc dfr
attribute [local irreducible] lmp lme mit velg relg bnd owl dfrl gow shB grB
theorem Fail_ok (tv:Value) (htv:tv.oneCell' = true) (t:List Int) (k n:Nat) (hz:solE t k = 0) (hk:k ≤ 40) (hl:t.length ≤ 12) (hn:n ≤ 12):Tr Tryz.prog 20 [tv,I k,I n] [vw tv (Is t)] [] (FQ2 (failQ t k n) 0):=by
 have hS:=Stuck_tr tv htv t k n hz hk hl hn
 have hF1:=fun i (hi:i < k)=>st_FB hz hk hl hn (u:=i + 1) hi
 have hF2:=fun i (hi:i ≤ k)=>part_FB hz hk hl hn hi
 have hpart:=stL_part t k n
 have hget:=fun i (hi:i < k)=>stL_get (t:=t) (n:=n) (i:=i + 1) (Nat.succ_lt_succ hi)
 have hLL:=stL_len t k n
 have hq:failQ t k n = ((stL t k n).drop 1).foldl (· + ·) 0:=by
  have:=hpart k (Nat.le_refl k)
  rw [List.take_of_length_le (by rw [List.length_drop,hLL];omega)] at this
  exact this.symm
 rw [hq]
 clear hq
 generalize stL t k n = LL at *
 cases LL with
 | nil=>simp at hLL
 | cons q0 qs=>
 have hql:qs.length = k:=by simpa using hLL
 rw [List.drop_succ_cons,List.drop_zero] at hpart ⊢
 have hAdd:=fun v hs (hl':hs.length = qs.length)=>FAdd_tr v qs hs hl' (fun i hi=>by
  have:=hget i (by omega)
  rw [List.getD_cons_succ] at this
  rw [this];exact hF1 i (by omega)) (fun i hi=>by rw [hpart i (by omega)];exact hF2 i (by omega))
 clear hF1 hF2 hpart hget
 unfold FQ2 at hAdd ⊢
 rw [hql] at hAdd
 generalize qs.foldl (· + ·) (0:Rat) = p at *
 refine Tr.enter env _ Tryz.func20 (by kernel_rfl) rfl Tryz.ntmps20 rfl (by repeat (first | exact has00 | refine has01 ?_)) fun w0=>?_
 repeat' first|refine al fun c=>?_|refine srz ?_|refine (ca hS ?_) ; rintro _ _ ⟨v,hs,rfl,hv,hhs,rfl⟩|(refine wo ?_;first|(refine ao ?_;first|refine oa ?_)|refine oa ?_)|(refine gc ?_;first|refine cf ?_)|refine sq ?_|refine rg ?_|refine xc ?_|refine nl ?_|refine sk ?_
 obtain ⟨h0,hr,rfl⟩ : ∃ h0 hr,hs = h0 :: hr:=by cases hs with | nil=>simp at hhs | cons a b=>exact ⟨a,b,rfl⟩
 have hrl:hr.length = qs.length:=by simp at hhs;omega
 refine TO.im (ofr_pop (h:=h0) (hs:=hr) (q:=q0) (qs:=qs) fitA) ?_
 have hlen:(rcs (q0 :: qs) (h0 :: hr)).length ≤ (k + 1) * 3:=by rw [rcs_len (by simpa using hrl),List.length_cons,hql];exact Nat.le_refl _
 have hdr:(rcs (q0 :: qs) (h0 :: hr)).drop (1 * 3) = rcs qs hr:=rfl
 repeat' first|(refine gca ?_;first|(refine ca (hAdd _ hr (by omega)) ?_ (hp:=has1 (has_subW (e:=TRt) (sz:=3) memA hlen (by omega) (by omega) hdr) (has1 (has_ofr hrl memA) has0));rintro _ _ ⟨vn,vd,rfl,hvn,hvd,rfl⟩))|refine slw1 (sz:=3) (lo:=1) (N:=k + 1) ?_ (Nat.le_add_left 1 k) (hm:=has_oww memA)|refine srz ?_|(refine wo ?_;first|refine oa ?_)|refine xc ?_|refine nl ?_|refine rt ?_
 exact rca (cs:=[.bool (decide (p.num < 0)),vn,vd]) (vs:=[.bool (decide (p.num < 0)),vn,vd]) (T:=TRt) ⟨vn,vd,rfl,hvn,hvd,rfl⟩
end Go.Art
namespace Go.Art
open Go Go.Proofs Go.RowKit
theorem mk_one_num (n:Nat):(mkRat (n:Int) 1).num = n∧(mkRat (n:Int) 1).den = 1:=by
 have e:mkRat (n:Int) 1 = (n:Rat):=by rw [Rat.mkRat_eq_div];push_cast;rw [Rat.div_def];grind
 rw [e]
 exact ⟨Rat.num_natCast n,Rat.den_natCast n⟩
theorem mk_div1 (a c:Nat) (hc:c ≠ 0):mkRat (a:Int) 1 / mkRat (c:Int) 1 = mkRat (a:Int) c:=by
 have h:=nz hc
 rw [Rat.mkRat_eq_div,Rat.mkRat_eq_div,Rat.mkRat_eq_div]
 push_cast
 grind
theorem FB_whole {n B:Nat} (h:(dg n).length ≤ B) (hB:1 ≤ B):FB (mkRat (n:Int) 1) B:=by
 obtain ⟨e1,e2⟩:=mk_one_num n
 refine ⟨by rw [e1,Int.natAbs_natCast];exact h,by rw [e2];exact Nat.le_trans (dg_len1 (by decide)) hB⟩
theorem evI_zero (k:Nat) (ω:Nat→Rat) (u j:Nat):evI 0 k ω u j = 0:=rfl
theorem evI_succ (m k:Nat) (ω:Nat→Rat) (u j:Nat):evI (m + 1) k ω u j = evI m k ω u j + ω m * ((chs u j:Rat) * fillC (k - u) (m + 1) j):=by
 unfold evI
 rw [List.range_succ,sR_app]
 congr 1
 show _ + 0 = _
 rw [Rat.add_zero]
structure RqC where
 c:Nat
 n:Value
 d:Value
attribute [local irreducible] Fit pt own ro vw mpc lpt vels rels mow lrc dfr
attribute [local irreducible] lmp lme mit velg relg bnd owl dfrl evI evQ solE
theorem RC24_tr (tv:Value) (t:List Int) (k u:Nat) (hz:solE t k = 0) (hk:k ≤ 40) (hu:u ≤ k):Tr Tryz.prog 219 [tv,I k,I u] [vw tv (Is t)] [] fun v D=>v = I 0∧D = []:=by
 have hk1:=(solE_zero hz).1
 have hC:=RSoCheck_tr tv t k
 rw [hz] at hC
 clear hz
 refine Tr.enter env _ Tryz.func219 (by kernel_rfl) rfl Tryz.ntmps219 rfl (by repeat (first | exact has00 | refine has01 ?_)) fun w0=>?_
 repeat' first|(refine gca ?_;first|(refine ca hC ?_;rintro _ _ ⟨rfl,rfl⟩))|(refine wo ?_;first|(refine ao ?_;first|refine oa ?_)|refine oa ?_|refine gy ?_|(refine gsi (fun hB=>?_) (fun hB=>?_) <;> try (exfalso;omega)))|(refine gc ?_;first|refine cf ?_|(refine ci (fun hB=>?_) (fun hB=>?_) <;> try (exfalso;omega)))|refine sq ?_|refine rg ?_|refine xc ?_|refine nl ?_|refine sk ?_|refine rt ?_
 exact r1 ⟨rfl,rfl⟩
theorem Rwh24_tr (v:Value) (n:Nat) (hl:(dg n).length ≤ 100000):Tr Tryz.prog 220 [v] [vw v (Us (dg n))] [] (FQ (mkRat (n:Int) 1)):=by
 have hI:=RIMake_tr false v (dg n) (Dg_dg _) (by omega)
 rw [nv_dg,show sg false n = (n:Int) from rfl] at hI
 have hM:=fun o q=>RFMake_tr (n:Int) o q [1] (Dg.one (by decide)) (by unfold dz;rw [Int.natAbs_natCast];omega) (by decide) (by decide)
 rw [show nv [1] = 1 from rfl] at hM
 unfold IR at hI
 unfold FQ2 at hM
 unfold iv dz at hM
 rw [Int.natAbs_natCast] at hI hM
 unfold FQ
 generalize decide ((n:Int) < 0) = b at *
 generalize mkRat (n:Int) 1 = s at *
 generalize dg n = l at *
 refine Tr.enter env _ Tryz.func220 (by kernel_rfl) rfl Tryz.ntmps220 rfl (by repeat (first | exact has00 | refine has01 ?_)) fun w0=>?_
 repeat' first|(refine gca ?_;first|(refine ca hI ?_;rintro _ _ ⟨o,rfl,ho,rfl⟩)|(refine ca (hM o q) ?_;rintro _ _ ⟨vn,vd,rfl,hvn,hvd,rfl⟩))|refine al fun c=>?_|(refine slu [1] fun q hq=>?_)|refine lda ?_|refine srz ?_|(refine wo ?_;first|refine oa ?_)|refine sq ?_|refine rg ?_|refine xc ?_|refine nl ?_|refine rt ?_
 exact rca1 (cs:=[.bool (decide (s.num < 0)),vn,vd]) (vs:=[.bool (decide (s.num < 0)),vn,vd]) (T:=TRt) ⟨vn,vd,rfl,hvn,hvd,rfl⟩
theorem Rof_tr (k u j d:Nat) (hk:k ≤ 40) (hu:u ≤ k) (hj:j ≤ u) (h1:1 ≤ d) (hd:d ≤ k):Tr Tryz.prog 223 [I k,I u,I j,I d] [] [] (FQ (mkRat ((chs u j * fillN (k - u) d j:Nat):Int) (chs k d))):=by
 have hc0:chs k d ≠ 0:=chs_pos hd
 by_cases hdj:d < j∨k - u < d - j
 ·have e0:fillN (k - u) d j = 0:=by
   unfold fillN
   split
   ·exact chs_over (by omega)
   ·rfl
  rw [e0,Nat.mul_zero,show mkRat ((0:Nat):Int) (chs k d) = mkRat ((0:Nat):Int) 1 by simp]
  have hW:=Rwh24_tr nS 0 (by rw [dg_zero];exact Nat.zero_le _)
  rw [dg_zero] at hW
  unfold FQ at hW ⊢
  generalize mkRat ((0:Nat):Int) 1 = s at *
  clear hc0 e0
  rcases Nat.lt_or_ge d j with g | g
  ·refine Tr.enter env _ Tryz.func223 (by kernel_rfl) rfl Tryz.ntmps223 rfl (by repeat (first | exact has00 | refine has01 ?_)) fun w0=>?_
   repeat' first|(refine gca ?_;first|(refine ca hW ?_;rintro _ _ ⟨vn,vd,rfl,hvn,hvd,rfl⟩))|refine al fun c=>?_|refine srz ?_|(refine wo ?_;first|(refine ao ?_;first|refine oa ?_)|refine oa ?_|refine gn ?_|(refine gsi (fun hB=>?_) (fun hB=>?_) <;> try (exfalso;omega)))|(refine gc ?_;first|refine ct ?_)|refine sq ?_|refine rg ?_|refine xc ?_|refine nl ?_|refine rt ?_
   exact rca1 (cs:=[.bool (decide (s.num < 0)),vn,vd]) (vs:=[.bool (decide (s.num < 0)),vn,vd]) (T:=TRt) ⟨vn,vd,rfl,hvn,hvd,rfl⟩
  ·have g2:(k:Int) - u < (d:Int) - j:=by omega
   refine Tr.enter env _ Tryz.func223 (by kernel_rfl) rfl Tryz.ntmps223 rfl (by repeat (first | exact has00 | refine has01 ?_)) fun w0=>?_
   repeat' first|(refine gca ?_;first|(refine ca hW ?_;rintro _ _ ⟨vn,vd,rfl,hvn,hvd,rfl⟩))|refine al fun c=>?_|refine srz ?_|(refine wo ?_;first|(refine ao ?_;first|refine aw ?_|refine oa ?_)|refine oa ?_|refine gy ?_|refine gn ?_|(refine gsi (fun hB=>?_) (fun hB=>?_) <;> try (exfalso;omega)))|(refine gc ?_;first|refine ct ?_)|refine sq ?_|refine rg ?_|refine xc ?_|refine nl ?_|refine rt ?_
   exact rca1 (cs:=[.bool (decide (s.num < 0)),vn,vd]) (vs:=[.bool (decide (s.num < 0)),vn,vd]) (T:=TRt) ⟨vn,vd,rfl,hvn,hvd,rfl⟩
 ·obtain ⟨dj,hdj'⟩ : ∃ dj,d - j = dj:=⟨_,rfl⟩
  obtain ⟨ku,hku⟩ : ∃ ku,k - u = ku:=⟨_,rfl⟩
  have e1:fillN (k - u) d j = chs ku dj:=by unfold fillN;rw [if_pos (by omega),hdj',hku]
  rw [e1]
  have hA:=RChoose_tr u j (by omega) hj
  have hBc:=RChoose_tr ku dj (by omega) (by omega)
  have hC:=RChoose_tr k d (by omega) hd
  have hla:=chs_bnd u j
  have hlb:=chs_bnd ku dj
  have hlc:=chs_bnd k d
  have b40:∀ m,m ≤ 40→(2:Nat) ^ m ≤ 2 ^ 40:=fun m hm=>Nat.pow_le_pow_right (by decide) hm
  have hda:(dg (chs u j)).length ≤ 1:=dg_len1 (Nat.lt_of_le_of_lt (Nat.le_trans hla (b40 u (by omega))) (by decide))
  have hdb:(dg (chs ku dj)).length ≤ 1:=dg_len1 (Nat.lt_of_le_of_lt (Nat.le_trans hlb (b40 ku (by omega))) (by decide))
  have hdc:(dg (chs k d)).length ≤ 1:=dg_len1 (Nat.lt_of_le_of_lt (Nat.le_trans hlc (b40 k (by omega))) (by decide))
  have hab:(dg (chs u j * chs ku dj)).length ≤ 2:=dg_mul_len hda hdb
  have hM:=fun a b=>RMul_tr a b (dg (chs u j)) (dg (chs ku dj)) (Dg_dg _) (Dg_dg _) (by omega) (by omega)
  simp only [nv_dg] at hM
  have hW1:=fun v=>Rwh24_tr v (chs u j * chs ku dj) (by omega)
  have hW2:=fun v=>Rwh24_tr v (chs k d) (by omega)
  have hD:=fun v1 v2 v3 v4 g1 g2 g3 g4=>RFDiv_tr (mkRat ((chs u j * chs ku dj:Nat):Int) 1) (mkRat ((chs k d:Nat):Int) 1) v1 v2 v3 v4 g1 g2 g3 g4 (by rw [(mk_one_num _).1];omega) (FB_whole (by omega) (by decide)) (FB_whole (by omega) (by decide))
  rw [mk_div1 _ _ hc0] at hD
  unfold eNat at hA hBc hC
  unfold FQ at hW1 hW2 ⊢
  unfold FQ2 at hD
  clear hla hlb hlc b40 hda hdb hdc hab hc0 e1
  generalize mkRat ((chs u j * chs ku dj:Nat):Int) (chs k d) = s at *
  generalize mkRat ((chs u j * chs ku dj:Nat):Int) 1 = s1 at *
  generalize mkRat ((chs k d:Nat):Int) 1 = s2 at *
  generalize dg (chs u j * chs ku dj) = l1 at *
  generalize dg (chs k d) = l2 at *
  generalize dg (chs u j) = l3 at *
  generalize dg (chs ku dj) = l4 at *
  have g1:(k:Int) - u = ku:=by omega
  have g2:(d:Int) - j = dj:=by omega
  have g3:¬ (d:Int) < j:=by omega
  have g4:(dj:Int) ≤ ku:=by omega
  refine Tr.enter env _ Tryz.func223 (by kernel_rfl) rfl Tryz.ntmps223 rfl (by repeat (first | exact has00 | refine has01 ?_)) fun w0=>?_
  repeat' first|(refine gca ?_;first|(refine ca hA ?_;rintro _ _ ⟨o1,rfl,ho1,rfl⟩)|(refine ca hBc ?_;rintro _ _ ⟨o2,rfl,ho2,rfl⟩)|(refine ca hC ?_;rintro _ _ ⟨o3,rfl,ho3,rfl⟩)|(refine ca (hM o1 o2) ?_;rintro o4 _ ⟨ho4,rfl⟩)|(refine ca (hW1 o4) ?_;rintro _ _ ⟨n1,d1,rfl,hn1,hd1,rfl⟩)|(refine ca (hW2 o3) ?_;rintro _ _ ⟨n2,d2,rfl,hn2,hd2,rfl⟩)|(refine ca (hD n1 d1 n2 d2 hn1 hd1 hn2 hd2) ?_;rintro _ _ ⟨n3,d3,rfl,hn3,hd3,rfl⟩))|refine al fun c=>?_|(refine aw (m:=(ku:Int)) ?_ (h:=by rw [← g1];rfl))|(refine aw (m:=(dj:Int)) ?_ (h:=by rw [← g2];rfl))|refine lda ?_|refine srz ?_|(refine wo ?_;first|(refine ao ?_;first|refine oa ?_)|refine oa ?_|refine gy ?_|(refine gsi (fun hB=>?_) (fun hB=>?_) <;> try (exfalso;omega)))|(refine gc ?_;first|(refine ci (fun hB=>?_) (fun hB=>?_) <;> try (exfalso;omega)))|refine sq ?_|refine rg ?_|refine xc ?_|refine nl ?_|refine sk ?_|refine rt ?_
  exact rca1 (cs:=[.bool (decide (s.num < 0)),n3,d3]) (vs:=[.bool (decide (s.num < 0)),n3,d3]) (T:=TRt) ⟨n3,d3,rfl,hn3,hd3,rfl⟩
theorem RIn24_tr (tv:Value) (t:List Int) (k u j:Nat) (hz:solE t k = 0) (hk:k ≤ 40) (hl:t.length ≤ 12) (hu:u ≤ k) (hj:j ≤ u):Tr Tryz.prog 171 [tv,I k,I u,I j] [vw tv (Is t)] [] (FQ2 (evI t.length k (omg t k) u j) 0):=by
 obtain ⟨z1,z2,z3,z4⟩:=solE_zero hz
 have hsp:=sum_posT z3 z4
 have hsb:=(sum_wOk z3).2
 obtain ⟨T,hT⟩ : ∃ T:Nat,t.sum = T:=⟨t.sum.toNat,by omega⟩
 have hTb:T ≤ 268435456:=by
  have:(16777215:Int) * t.length ≤ 16777215 * 12:=by omega
  omega
 have hR:=RC24_tr tv t k u hz hk hu
 have hTot:=RSoTotal_tr tv t (by omega) z3
 rw [hT] at hTot
 have hW:=Rwh24_tr nS 0 (by rw [dg_zero];exact Nat.zero_le _)
 rw [dg_zero] at hW
 have hOf:=fun d h1 h2=>Rof_tr k u j d hk hu hj h1 h2
 have hterm:=fun i (hi:i < t.length)=>in_step (u:=u) (j:=j) hz hi
 have hTF:=fun i (hi:i < t.length)=>term_FB (u:=u) (j:=j) hz hk hl hu hi
 have hEF:=fun m (hm:m ≤ t.length)=>evI_FB (u:=u) (j:=j) hz hk hl hu hm
 have hS:=fun i=>evI_succ i k (omg t k) u j
 have hwt:∀ i,i < t.length→∃ w:Nat,t.getD i 0 = w∧w ≤ 16777215:=fun i hi=>by
  have hm:t.getD i 0 ∈ t:=by rw [List.getD_eq_getElem?_getD,List.getElem?_eq_getElem hi];exact List.getElem_mem hi
  have:=z3 _ hm
  exact ⟨(t.getD i 0).toNat,by omega,by omega⟩
 have hz0:mkRat ((0:Nat):Int) 1 = evI 0 k (omg t k) u j:=by rw [evI_zero];simp
 rw [hz0] at hW
 rw [show t.sum.toNat = T by omega] at hterm
 have hT0:T ≠ 0:=by omega
 have hOB:∀ d,d ≤ k→FB (mkRat ((chs u j * fillN (k - u) d j:Nat):Int) (chs k d)) 2:=fun d hd=>by
  refine FB_mk (chs_pos hd) (dg_mul_len (i:=1) (j:=1) (dg_len1 ?_) (dg_len1 ?_)) (Nat.le_trans (dg_len1 ?_) (by decide))
  ·exact Nat.lt_of_le_of_lt (Nat.le_trans (chs_bnd u j) (Nat.pow_le_pow_right (by decide) (show u ≤ 40 by omega))) (by decide)
  ·exact Nat.lt_of_le_of_lt (Nat.le_trans (fillN_le _ _ _) (Nat.pow_le_pow_right (by decide) (show k - u ≤ 40 by omega))) (by decide)
  ·exact Nat.lt_of_le_of_lt (Nat.le_trans (chs_bnd k d) (Nat.pow_le_pow_right (by decide) hk)) (by decide)
 unfold FQ at hW hOf
 unfold FQ2
 obtain ⟨ev,hev⟩ : ∃ ev:Nat→Rat,ev = fun m=>evI m k (omg t k) u j:=⟨_,rfl⟩
 have he:∀ m,evI m k (omg t k) u j = ev m:=fun m=>by rw [hev]
 simp only [he] at hW hEF hS ⊢
 clear hev he hz hz0 z3 z4
 refine Tr.enter env _ Tryz.func171 (by kernel_rfl) rfl Tryz.ntmps171 rfl (by repeat (first | exact has00 | refine has01 ?_)) fun w0=>?_
 refine TC.leni (v:=tv) (l:=t) fun htl=>?_
 repeat' first|(refine gca ?_;first|(refine ca hR ?_;rintro _ _ ⟨rfl,rfl⟩)|(refine ca hW ?_;rintro _ _ ⟨n0,d0,rfl,hn0,hd0,rfl⟩))|refine al fun c=>?_|refine srz ?_|(refine wo ?_;first|(refine ao ?_;first|refine oa ?_)|refine oa ?_|refine gy ?_)|(refine gc ?_;first|refine cf ?_|(refine ci (fun hB=>?_) (fun hB=>?_) <;> try (exfalso;omega)))|refine sq ?_|refine rg ?_|refine xc ?_|refine nl ?_|refine sk ?_|refine bk ?_
 rename_i c8
 refine TC.loop (ι:=RfG) (fun g=>[(12,I g.i)]) (fun g=>[pt c (rrow (ev g.i) (g.vn,g.vd)) TRt,own T64 g.vn (Us (dg (ev g.i).num.natAbs)),own T64 g.vd (Us (dg (ev g.i).den))]) (fun g=>g.i ≤ t.length∧g.vn.oneCell' = true∧g.vd.oneCell' = true) (fun g=>t.length - g.i) ⟨0,n0,d0⟩ [0,1,2,3,8,11] ⟨Nat.zero_le _,hn0,hd0⟩ ?_
 rintro ⟨i,vn,vd⟩ ⟨hi,hvn,hvd⟩
 dsimp only at hi hvn hvd ⊢
 by_cases hlt:i < t.length
 rotate_left
 ·obtain rfl:i = t.length:=by omega
  generalize ev t.length = p at *
  repeat' first|refine lda (cs:=rrow p (vn,vd)) ?_|refine srz ?_|refine srz ?_ (hj:=Nat.le_of_ble_eq_true rfl)|(refine wo ?_;first|(refine ao ?_;first|refine oa ?_)|refine oa ?_|refine lnm ?_)|(refine gc ?_;first|(refine ci (fun hB=>?_) (fun hB=>?_) <;> try (exfalso;omega)))|refine sq ?_|refine rg ?_|refine xc ?_|refine nl ?_|refine xe ?_|refine rt ?_
  exact rca (cs:=rrow p (vn,vd)) (vs:=rrow p (vn,vd)) (T:=TRt) ⟨vn,vd,rfl,hvn,hvd,rfl⟩
 obtain ⟨w,hw,hwb⟩:=hwt i hlt
 have hwc:(Is t)[i]? = some (I w):=by rw [← hw];simp [Is,List.getD_eq_getElem?_getD,hlt]
 have hOf1:=hOf (i + 1) (by omega) (by omega)
 have hOB1:=hOB (i + 1) (by omega)
 have hte:=hterm i hlt
 rw [hw] at hte
 have hTF1:=hTF i hlt
 rw [← hte] at hTF1
 have hS1:=hS i
 rw [← hte] at hS1
 have hE0:=hEF i (by omega)
 have hPr:=RFPair_tr w T (by omega) (by omega) hT0
 have hPB:FB (mkRat ((w:Nat):Int) T) 1:=FB_mk1 hT0 (by omega) (by omega)
 have hMul:=fun lv v1 v2 v3 v4=>RFMul2_tr (mkRat ((w:Nat):Int) T) (mkRat ((chs u j * fillN (k - u) (i + 1) j:Nat):Int) (chs k (i + 1))) lv v1 v2 v3 v4 (hPB.le (by decide)) (hOB1.le (by decide))
 have hAdd:=fun lv v1 v2 v3 v4=>RFAdd2_tr (ev i) (mkRat ((w:Nat):Int) T * mkRat ((chs u j * fillN (k - u) (i + 1) j:Nat):Int) (chs k (i + 1))) lv v1 v2 v3 v4 (hE0.le (by decide)) (hTF1.le (by decide))
 rw [← hS1] at hAdd
 unfold FQ2 at hPr hMul hAdd
 clear hOf hOB hterm hTF hS hEF hte hTF1 hS1 hE0 hOB1 hPB hwt
 generalize mkRat ((w:Nat):Int) T * mkRat ((chs u j * fillN (k - u) (i + 1) j:Nat):Int) (chs k (i + 1)) = m' at *
 generalize mkRat ((w:Nat):Int) T = w' at *
 generalize mkRat ((chs u j * fillN (k - u) (i + 1) j:Nat):Int) (chs k (i + 1)) = x at *
 generalize hpn:ev (i + 1) = pn at *
 generalize ev i = p at *
 have hix:(i:Int) + 1 = ((i + 1:Nat):Int):=rfl
 repeat' first|(refine wo ?_;first|(refine ao ?_;first|refine oa ?_)|refine oa ?_|refine lnm ?_)|(refine gc ?_;first|(refine ci (fun hB=>?_) (fun hB=>?_) <;> try (exfalso;omega)))|refine sq ?_|refine rg ?_|refine xc ?_|refine nl ?_|refine sk ?_|refine bk ?_
 refine cutY (ι:=RqC) (fun g=>g.n.oneCell' = true∧g.d.oneCell' = true) (fun g=>[(12,I i),(0,tv),(1,I k),(2,I u),(3,I j),(8,ptr c8),(11,ptr c),(13,ptr g.c)]) (fun g=>[pt g.c (rrow w' (g.n,g.d)) TRt,own T64 g.n (Us (dg w'.num.natAbs)),own T64 g.d (Us (dg w'.den)),pt c8 [.bool false,nS,nS] TRt,pt c (rrow p (vn,vd)) TRt,own T64 vn (Us (dg p.num.natAbs)),own T64 vd (Us (dg p.den)),vw tv (Is t)]) ?_ ?_
 ·rintro ⟨c13,wn,wd⟩ ⟨hwn,hwd⟩
  dsimp only at hwn hwd ⊢
  repeat' first|refine sq ?_
  refine cutY (ι:=RqC) (fun g=>g.n.oneCell' = true∧g.d.oneCell' = true) (fun g=>[(12,I i),(0,tv),(1,I k),(2,I u),(3,I j),(8,ptr c8),(11,ptr c),(15,ptr g.c)]) (fun g=>[pt g.c (rrow m' (g.n,g.d)) TRt,own T64 g.n (Us (dg m'.num.natAbs)),own T64 g.d (Us (dg m'.den)),pt c8 [.bool false,nS,nS] TRt,pt c (rrow p (vn,vd)) TRt,own T64 vn (Us (dg p.num.natAbs)),own T64 vd (Us (dg p.den)),vw tv (Is t)]) ?_ ?_
  ·rintro ⟨c15,mn,md⟩ ⟨hmn,hmd⟩
   dsimp only at hmn hmd ⊢
   repeat' first|(refine gca ?_;first|(refine ca (hAdd _ vn vd mn md) ?_ (hp:=has1 (has_oww memA) (has1 hasA (has1 hasA (has1 hasA (has1 hasA has0)))));rintro _ _ ⟨an,ad,rfl,han,had,rfl⟩))|refine lda ?_|refine srz ?_ (hj:=Nat.le_of_ble_eq_true rfl)|refine slws (sz:=3) (xs:=rrow p (vn,vd) ++ rrow m' (mn,md)) fun g3=>?_|(refine wo ?_;first|(refine ao ?_;first|refine aw ?_)|refine oa ?_)|refine rg ?_|refine xc ?_|refine nl ?_|refine xb ?_
   exact lp ⟨i + 1,an,ad⟩ ⟨hlt,han,had⟩ (hf:=by dsimp only;rw [hpn];exact fitA)
  ·intro b' kb
   refine rs (fun w0=>w0.heap[c13]? = some (.cells (rrow w' (wn,wd)).toArray TRt (0,0))) ?_ (fun w0 hw=>pt_at memA hw)
   refine tk 0 (v:=.agg (rrow w' (wn,wd)).toArray) (fun w0 h=>R_loadA (E:=env) (vs:=rrow w' (wn,wd)) rfl rfl rfl rfl h rfl rfl) ?_
   refine tka 1 ?_
   refine tka 2 ?_
   refine tka 3 ?_
   refine tka 4 ?_
   refine tkw 5 ((i + 1:Nat):Int) ?_
   refine t2 6 12 ?_ ?_
   ·refine ca hOf1 ?_
    rintro _ _ ⟨xn,xd,rfl,hxn,hxd,rfl⟩
    refine nl ?_
    refine te (fun w0 hw=>pt_at memA hw) ?_
    refine t2 7 12 ?_ ?_
    ·refine slws (sz:=3) (xs:=rrow w' (wn,wd) ++ rrow x (xn,xd)) fun g2=>?_
     refine nl ?_
     refine te (fun w0 hw=>pt_at memA hw) ?_
     refine t2 8 12 ?_ ?_
     ·refine ca (hMul _ wn wd xn xd) ?_ (hp:=has1 (has_oww memA) (has1 hasA (has1 hasA (has1 hasA (has1 hasA has0)))))
      rintro _ _ ⟨mn,md,rfl,hmn,hmd,rfl⟩
      refine nl ?_
      refine te (fun w0 hw=>pt_at memA hw) ?_
      refine tka 9 ?_
      refine tka 10 ?_
      refine tka 11 ?_
      refine t1 12 ?_
      refine al fun c15=>?_
      refine nl ?_
      refine te (fun w0 hw=>pt_at memA hw) ?_
      refine t1 13 ?_
      refine srz ?_
      refine nl ?_
      refine te (fun w0 hw=>pt_at memA hw) ?_
      refine tka 14 ?_
      refine t0 ?_
      repeat' first|refine xc ?_
      exact kb ⟨c15,mn,md⟩ ⟨hmn,hmd⟩ _ _ (by (repeat (refine Sub.cons rfl (by first | rfl | go_num) ?_));exact Sub.nil) fitA
     ·refine al fun c15=>?_
      refine nl ?_
      refine te (fun w0 hw=>pt_at memA hw) ?_
      refine t1 8 ?_
      refine ca (hMul _ wn wd xn xd) ?_ (hp:=has1 (has_oww memA) (has1 hasA (has1 hasA (has1 hasA (has1 hasA has0)))))
      rintro _ _ ⟨mn,md,rfl,hmn,hmd,rfl⟩
      refine nl ?_
      refine te (fun w0 hw=>pt_at memA hw) ?_
      refine tka 9 ?_
      refine tka 10 ?_
      refine tka 11 ?_
      refine t1 13 ?_
      refine srz ?_
      refine nl ?_
      refine te (fun w0 hw=>pt_at memA hw) ?_
      refine tka 14 ?_
      refine t0 ?_
      repeat' first|refine xc ?_
      exact kb ⟨c15,mn,md⟩ ⟨hmn,hmd⟩ _ _ (by (repeat (refine Sub.cons rfl (by first | rfl | go_num) ?_));exact Sub.nil) fitA
    ·refine al fun c15=>?_
     refine nl ?_
     refine te (fun w0 hw=>pt_at memA hw) ?_
     refine t1 7 ?_
     refine slws (sz:=3) (xs:=rrow w' (wn,wd) ++ rrow x (xn,xd)) fun g2=>?_
     refine nl ?_
     refine te (fun w0 hw=>pt_at memA hw) ?_
     refine t1 8 ?_
     refine ca (hMul _ wn wd xn xd) ?_ (hp:=has1 (has_oww memA) (has1 hasA (has1 hasA (has1 hasA (has1 hasA has0)))))
     rintro _ _ ⟨mn,md,rfl,hmn,hmd,rfl⟩
     refine nl ?_
     refine te (fun w0 hw=>pt_at memA hw) ?_
     refine tka 9 ?_
     refine tka 10 ?_
     refine tka 11 ?_
     refine t1 13 ?_
     refine srz ?_
     refine nl ?_
     refine te (fun w0 hw=>pt_at memA hw) ?_
     refine tka 14 ?_
     refine t0 ?_
     repeat' first|refine xc ?_
     exact kb ⟨c15,mn,md⟩ ⟨hmn,hmd⟩ _ _ (by (repeat (refine Sub.cons rfl (by first | rfl | go_num) ?_));exact Sub.nil) fitA
   ·refine al fun c15=>?_
    refine nl ?_
    refine te (fun w0 hw=>pt_at memA hw) ?_
    refine t1 6 ?_
    refine ca hOf1 ?_
    rintro _ _ ⟨xn,xd,rfl,hxn,hxd,rfl⟩
    refine nl ?_
    refine te (fun w0 hw=>pt_at memA hw) ?_
    refine t1 7 ?_
    refine slws (sz:=3) (xs:=rrow w' (wn,wd) ++ rrow x (xn,xd)) fun g2=>?_
    refine nl ?_
    refine te (fun w0 hw=>pt_at memA hw) ?_
    refine t1 8 ?_
    refine ca (hMul _ wn wd xn xd) ?_ (hp:=has1 (has_oww memA) (has1 hasA (has1 hasA (has1 hasA (has1 hasA has0)))))
    rintro _ _ ⟨mn,md,rfl,hmn,hmd,rfl⟩
    refine nl ?_
    refine te (fun w0 hw=>pt_at memA hw) ?_
    refine tka 9 ?_
    refine tka 10 ?_
    refine tka 11 ?_
    refine t1 13 ?_
    refine srz ?_
    refine nl ?_
    refine te (fun w0 hw=>pt_at memA hw) ?_
    refine tka 14 ?_
    refine t0 ?_
    repeat' first|refine xc ?_
    exact kb ⟨c15,mn,md⟩ ⟨hmn,hmd⟩ _ _ (by (repeat (refine Sub.cons rfl (by first | rfl | go_num) ?_));exact Sub.nil) fitA
 ·intro b' kb
  refine rs (fun w0=>Sl w0 tv (Is t)) ?_ (fun w0 hw=>has_sl (xs:=Is t) hw hasA)
  refine tka 0 ?_
  refine tka 1 ?_
  refine tk 2 (v:=.pointer (some (addrAt tv i))) (fun w0 h=>R_idx (E:=env) (i:=(i:Int)) rfl rfl rfl rfl h ⟨by omega,by rw [Is_len];omega⟩) ?_
  refine tk 3 (v:=I w) (fun w0 h=>R_load (E:=env) rfl rfl rfl (h.cell hwc)) ?_
  refine tka 4 ?_
  refine t2 5 10 ?_ ?_
  ·refine ca hTot ?_
   rintro _ _ ⟨rfl,rfl⟩
   refine nl ?_
   refine te (fun w0 hw=>has_sl (xs:=Is t) hw hasA) ?_
   refine t2 6 10 ?_ ?_
   ·refine ca hPr ?_
    rintro _ _ ⟨wn,wd,rfl,hwn,hwd,rfl⟩
    refine nl ?_
    refine te (fun w0 hw=>has_sl (xs:=Is t) hw hasA) ?_
    refine tka 7 ?_
    refine tka 8 ?_
    refine tka 9 ?_
    refine t1 10 ?_
    refine al fun c13=>?_
    refine nl ?_
    refine te (fun w0 hw=>has_sl (xs:=Is t) hw hasA) ?_
    refine t1 11 ?_
    refine srz ?_
    refine nl ?_
    refine te (fun w0 hw=>has_sl (xs:=Is t) hw hasA) ?_
    refine tka 12 ?_
    refine t0 ?_
    repeat' first|refine xc ?_
    exact kb ⟨c13,wn,wd⟩ ⟨hwn,hwd⟩ _ _ (by (repeat (refine Sub.cons rfl (by first | rfl | go_num) ?_));exact Sub.nil) fitA
   ·refine al fun c13=>?_
    refine nl ?_
    refine te (fun w0 hw=>has_sl (xs:=Is t) hw hasA) ?_
    refine t1 6 ?_
    refine ca hPr ?_
    rintro _ _ ⟨wn,wd,rfl,hwn,hwd,rfl⟩
    refine nl ?_
    refine te (fun w0 hw=>has_sl (xs:=Is t) hw hasA) ?_
    refine tka 7 ?_
    refine tka 8 ?_
    refine tka 9 ?_
    refine t1 11 ?_
    refine srz ?_
    refine nl ?_
    refine te (fun w0 hw=>has_sl (xs:=Is t) hw hasA) ?_
    refine tka 12 ?_
    refine t0 ?_
    repeat' first|refine xc ?_
    exact kb ⟨c13,wn,wd⟩ ⟨hwn,hwd⟩ _ _ (by (repeat (refine Sub.cons rfl (by first | rfl | go_num) ?_));exact Sub.nil) fitA
  ·refine al fun c13=>?_
   refine nl ?_
   refine te (fun w0 hw=>has_sl (xs:=Is t) hw hasA) ?_
   refine t1 5 ?_
   refine ca hTot ?_
   rintro _ _ ⟨rfl,rfl⟩
   refine nl ?_
   refine te (fun w0 hw=>has_sl (xs:=Is t) hw hasA) ?_
   refine t1 6 ?_
   refine ca hPr ?_
   rintro _ _ ⟨wn,wd,rfl,hwn,hwd,rfl⟩
   refine nl ?_
   refine te (fun w0 hw=>has_sl (xs:=Is t) hw hasA) ?_
   refine tka 7 ?_
   refine tka 8 ?_
   refine tka 9 ?_
   refine t1 11 ?_
   refine srz ?_
   refine nl ?_
   refine te (fun w0 hw=>has_sl (xs:=Is t) hw hasA) ?_
   refine tka 12 ?_
   refine t0 ?_
   repeat' first|refine xc ?_
   exact kb ⟨c13,wn,wd⟩ ⟨hwn,hwd⟩ _ _ (by (repeat (refine Sub.cons rfl (by first | rfl | go_num) ?_));exact Sub.nil) fitA
end Go.Art
namespace Go.Art
open Go Go.Proofs Go.RowKit
theorem rowQ_drop2 {t:List Int} {k u:Nat} (h:2 ≤ u):∃ q0 q1,rowQ t k u 0 = q0 :: q1 :: rowQ t k u 2:=by
 obtain ⟨m,rfl⟩ : ∃ m,u = m + 2:=⟨u - 2,by omega⟩
 refine ⟨evI t.length k (omg t k) (m + 2) (0 + 0),evI t.length k (omg t k) (m + 2) (0 + 1),?_⟩
 unfold rowQ
 rw [show m + 2 + 1 - 0 = (m + 1 + 1) + 1 by omega,List.range_succ_eq_map,List.map_cons,List.map_map,List.range_succ_eq_map,List.map_cons,List.map_map,show m + 2 + 1 - 2 = m + 1 by omega]
 refine congrArg _ (congrArg _ (List.map_congr_left fun i _=>?_))
 show evI t.length k (omg t k) (m + 2) (0 + (i + 1 + 1)) = evI t.length k (omg t k) (m + 2) (2 + i)
 congr 1;omega
structure RrG where
 i:Nat
 v:Value
 hs:List (Value × Value)
attribute [local irreducible] Fit pt own ro vw mpc lpt vels rels mow lrc dfr
attribute [local irreducible] lmp lme mit velg relg bnd owl dfrl evI evQ solE
theorem RRow24_tr (tv:Value) (t:List Int) (k u:Nat) (hz:solE t k = 0) (hk:k ≤ 40) (hl:t.length ≤ 12) (hu:u ≤ k):Tr Tryz.prog 270 [tv,I k,I u] [vw tv (Is t)] [] fun w D=>∃ v hs,w = tup2 v (I 0)∧v.oneCell' = true∧hs.length = u + 1∧D = [oww TRt 3 v (u + 1) (rcs (rowQ t k u 0) hs),ofr hs (rowQ t k u 0)]:=by
 have hR:=RC24_tr tv t k u hz hk hu
 have hIn:=fun j (hj:j ≤ u)=>RIn24_tr tv t k u j hz hk hl hu hj
 have hget:=fun i (hi:i < u + 1)=>rowQ_get (t:=t) (k:=k) (u:=u) (j:=0) (i:=i) (by omega)
 have hlen:=rowQ_len t k u 0
 simp only [Nat.zero_add] at hget
 generalize rowQ t k u 0 = L at *
 have hLl:L.length = u + 1:=by omega
 unfold FQ2 at hIn
 clear hz
 refine Tr.enter env _ Tryz.func270 (by kernel_rfl) rfl Tryz.ntmps270 rfl (by repeat (first | exact has00 | refine has01 ?_)) fun w0=>?_
 repeat' first|(refine gca ?_;first|(refine ca hR ?_;rintro _ _ ⟨rfl,rfl⟩))|(refine wo ?_;first|(refine ao ?_;first|refine oa ?_)|refine oa ?_)|(refine gc ?_;first|refine cf ?_)|refine sq ?_|refine rg ?_|refine xc ?_|refine nl ?_|refine sk ?_|refine bk ?_
 refine TC.im (oww_nil TRt 3 _) ?_
 refine TC.im (owl_nil (e:=T64) (g:=wU) _) ?_
 refine TC.loop (ι:=RrG) (fun g=>[(10,I g.i),(9,g.v)]) (fun g=>[oww TRt 3 g.v g.i (rcs (L.take g.i) g.hs),ofr g.hs (L.take g.i)]) (fun g=>g.i ≤ u + 1∧g.hs.length = g.i∧g.v.oneCell' = true) (fun g=>u + 1 - g.i) ⟨0,nS,[]⟩ [0,1,2] ⟨Nat.zero_le _,rfl,rfl⟩ ?_
 rintro ⟨i,v,hs⟩ ⟨hi,hhl,hv⟩
 dsimp only at hi hhl hv ⊢
 by_cases hlt:i < u + 1
 ·have hI:=hIn i (by omega)
  have htl:(L.take i).length = i:=by rw [List.length_take];omega
  have hsn:=(take_succ' (l:=L) (i:=i) (by omega) 0).symm
  rw [hget i hlt] at hsn
  clear hIn hget
  generalize evI t.length k (omg t k) u i = q at *
  have hrc:∀ x1 x2,rcs (L.take i) hs ++ rrow q (x1,x2) = rcs (L.take (i + 1)) (hs ++ [(x1,x2)]):=fun x1 x2=>by rw [← hsn,rcs_app (by omega),rcs_one]
  have hor:=fun x1 x2 (A F:List Ch) (hf:Fit A _ F)=>ofr_snoc (hs:=hs) (qs:=L.take i) (by omega) q x1 x2 hf
  rw [hsn] at hor
  repeat' first|(refine gca ?_;first|(refine ca hI ?_;rintro _ _ ⟨x1,x2,rfl,hx1,hx2,rfl⟩))|refine al fun c=>?_|refine srz ?_|refine lda ?_|refine slws (sz:=3) (xs:=rrow q (x1,x2)) fun g2=>?_|refine apw (e:=TRt) (sz:=3) (N:=i) (M:=1) (xs:=rcs (L.take i) hs) (ys:=rrow q (x1,x2)) (by decide) rfl (one_cons rfl (one_cons hx1 (one_cons hx2 one_nil))) (fun v' hv'=>?_)|(refine wo ?_;first|(refine ao ?_;first|refine aw ?_|refine oa ?_)|refine oa ?_)|(refine gc ?_;first|(refine ci (fun hB=>?_) (fun hB=>?_) <;> try (exfalso;omega)))|refine sq ?_|refine rg ?_|refine xc ?_|refine nl ?_|refine sk ?_|refine bk ?_|refine xb ?_
  refine TX.im (hor x1 x2 _ _ fitA) ?_
  rw [hrc]
  exact lp ⟨i + 1,v',hs ++ [(x1,x2)]⟩ ⟨hlt,by simp [hhl],hv'⟩
 ·obtain rfl:i = u + 1:=by omega
  rw [List.take_of_length_le (by omega)]
  repeat' first|(refine wo ?_;first|(refine ao ?_;first|refine oa ?_)|refine oa ?_)|(refine gc ?_;first|(refine ci (fun hB=>?_) (fun hB=>?_) <;> try (exfalso;omega)))|refine sq ?_|refine rg ?_|refine xc ?_|refine nl ?_|refine xe ?_|refine rt ?_
  exact r2 ⟨v,hs,rfl,hv,hhl,rfl⟩
theorem RCloud24_tr (tv:Value) (t:List Int) (k u:Nat) (hz:solE t k = 0) (hk:k ≤ 40) (hl:t.length ≤ 12) (hu:u ≤ k):Tr Tryz.prog 226 [tv,I k,I u] [vw tv (Is t)] [] (FQ2 (evQ t.length k (omg t k) u) 0):=by
 have hR:=RRow24_tr tv t k u hz hk hl hu
 by_cases hu2:2 ≤ u
 rotate_left
 ·have h0:evQ t.length k (omg t k) u = mkRat ((0:Nat):Int) 1:=by
   rw [evQ_sum,show u - 1 = 0 by omega]
   simp [sR]
  rw [h0]
  have hW:=Rwh24_tr nS 0 (by rw [dg_zero];exact Nat.zero_le _)
  rw [dg_zero] at hW
  unfold FQ at hW
  unfold FQ2
  generalize mkRat ((0:Nat):Int) 1 = q at *
  clear hz h0
  refine Tr.enter env _ Tryz.func226 (by kernel_rfl) rfl Tryz.ntmps226 rfl (by repeat (first | exact has00 | refine has01 ?_)) fun w0=>?_
  repeat' first|(refine gca ?_;first|(refine ca hR ?_;rintro _ _ ⟨v,hs,rfl,hv,hhs,rfl⟩)|(refine ca hW ?_;rintro _ _ ⟨n1,d1,rfl,hn1,hd1,rfl⟩))|refine al fun c=>?_|refine srz ?_|(refine wo ?_;first|(refine ao ?_;first|refine oa ?_)|refine oa ?_)|(refine gc ?_;first|refine cf ?_|(refine ci (fun hB=>?_) (fun hB=>?_) <;> try (exfalso;omega)))|refine sq ?_|refine rg ?_|refine xc ?_|refine nl ?_|refine sk ?_|refine rt ?_
  exact rca (cs:=[.bool (decide (q.num < 0)),n1,d1]) (vs:=[.bool (decide (q.num < 0)),n1,d1]) (T:=TRt) ⟨n1,d1,rfl,hn1,hd1,rfl⟩
 have hO:=oneS_lt hz hk hl
 have hQ:=rowQ_evQ t k u
 have hF1:∀ i,i < (rowQ t k u 2).length→FB ((rowQ t k u 2).getD i 0) 100000:=fun i hi=>by
  rw [rowQ_len] at hi
  rw [rowQ_get hi]
  exact (evI_FB hz hk hl hu (Nat.le_refl _)).le (by decide)
 have hF2:∀ i,i < (rowQ t k u 2).length→FB (((rowQ t k u 2).take i).foldl (· + ·) 0) 100000:=fun i hi=>by
  rw [rowQ_len] at hi
  rw [rowQ_sum t k u 2 i (by omega)]
  exact (FB_le1 (FrQ.sum fun j _=>evI_fr t.length k _ (oneS t k) u (2 + j)) (oneS_pos hz) (rowQ_le hz hu (by omega)) hO).le (by decide)
 have hql:=rowQ_len t k u 2
 obtain ⟨q0,q1,hcons⟩:=rowQ_drop2 (t:=t) (k:=k) hu2
 rw [hcons] at hR
 rw [← hQ]
 clear hQ hcons hO
 generalize rowQ t k u 2 = qs at *
 have hAdd:=fun v hs (hl':hs.length = qs.length)=>RFAdd_tr v qs hs hl' (by omega) hF1 hF2
 clear hF1 hF2
 unfold FQ2 at hAdd ⊢
 generalize qs.foldl (· + ·) (0:Rat) = p at *
 rw [show qs.length = u - 1 by omega] at hAdd
 clear hz
 refine Tr.enter env _ Tryz.func226 (by kernel_rfl) rfl Tryz.ntmps226 rfl (by repeat (first | exact has00 | refine has01 ?_)) fun w0=>?_
 repeat' first|(refine gca ?_;first|(refine ca hR ?_;rintro _ _ ⟨v,hs,rfl,hv,hhs,rfl⟩))|refine al fun c=>?_|refine srz ?_|(refine wo ?_;first|(refine ao ?_;first|refine oa ?_)|refine oa ?_)|(refine gc ?_;first|refine cf ?_|(refine ci (fun hB=>?_) (fun hB=>?_) <;> try (exfalso;omega)))|refine sq ?_|refine rg ?_|refine xc ?_|refine nl ?_|refine sk ?_
 obtain ⟨h0,h1,hr,rfl⟩ : ∃ h0 h1 hr,hs = h0 :: h1 :: hr:=by
  match hs,hhs with
  | a :: b :: c,_=>exact ⟨a,b,c,rfl⟩
  | [a],h=>simp at h;omega
  | [],h=>simp at h
 have hrl:hr.length = qs.length:=by simp at hhs;omega
 refine TO.im (ofr_pop (h:=h0) (hs:=h1 :: hr) (q:=q0) (qs:=q1 :: qs) fitA) ?_
 refine TO.im (ofr_pop (h:=h1) (hs:=hr) (q:=q1) (qs:=qs) fitA) ?_
 have hlen:(rcs (q0 :: q1 :: qs) (h0 :: h1 :: hr)).length ≤ (u + 1) * 3:=by rw [rcs_len (by simpa using hrl),List.length_cons,List.length_cons];omega
 have hdr:(rcs (q0 :: q1 :: qs) (h0 :: h1 :: hr)).drop (2 * 3) = rcs qs hr:=rfl
 repeat' first|(refine gca ?_;first|(refine ca (hAdd _ hr (by omega)) ?_ (hp:=has1 (has_subW (e:=TRt) (sz:=3) memA hlen (by omega) (by omega) hdr) (has1 (has_ofr hrl memA) has0));rintro _ _ ⟨vn,vd,rfl,hvn,hvd,rfl⟩))|refine slw1 (sz:=3) (lo:=2) (N:=u + 1) ?_ (by omega) (hm:=has_oww memA)|refine srz ?_|(refine wo ?_;first|refine oa ?_)|refine xc ?_|refine nl ?_|refine rt ?_
 exact rca (cs:=[.bool (decide (p.num < 0)),vn,vd]) (vs:=[.bool (decide (p.num < 0)),vn,vd]) (T:=TRt) ⟨vn,vd,rfl,hvn,hvd,rfl⟩
theorem RFree24_tr (tv:Value) (t:List Int) (k u:Nat) (hz:solE t k = 0) (hk:k ≤ 40) (hl:t.length ≤ 12) (h1:1 ≤ u) (hu:u ≤ k):Tr Tryz.prog 175 [tv,I k,I u] [vw tv (Is t)] [] (FQ2 (fT t k u) 0):=by
 have hC:=RCloud24_tr tv t k u hz hk hl hu
 have hO:=oneS_lt hz hk hl
 have hO0:=oneS_pos hz
 have hQ1:=evQ_le (m:=t.length) (k:=k) (ω:=omg t k) (fun i _=>omg_nonneg t k i) (tabX_one hz) hu
 have hQ0:=evQ_nonneg (m:=t.length) (k:=k) (ω:=omg t k) (fun i _=>omg_nonneg t k i) u
 have hQF:=evQ_fr t.length k (fun i=>wS t k (i + 1)) (oneS t k) u
 have hQB:FB (evQ t.length k (omg t k) u) 10:=FB_le1 hQF hO0 hQ1 hO
 unfold FQ2 at hC
 by_cases he:evQ t.length k (omg t k) u = 0
 ·have hf:fT t k u = mkRat ((0:Nat):Int) 1:=by unfold fT freeR;rw [if_pos he];simp
  rw [hf]
  have hW:=Rwh24_tr nS 0 (by rw [dg_zero];exact Nat.zero_le _)
  rw [dg_zero] at hW
  have hln:(dg (evQ t.length k (omg t k) u).num.natAbs).length = 0:=by rw [he,z_num];rfl
  unfold FQ at hW
  unfold FQ2
  generalize mkRat ((0:Nat):Int) 1 = z at *
  generalize evQ t.length k (omg t k) u = q at *
  generalize dg q.num.natAbs = ln at *
  clear hQF hQB hQ1 hQ0 he hf hO hz
  refine Tr.enter env _ Tryz.func175 (by kernel_rfl) rfl Tryz.ntmps175 rfl (by repeat (first | exact has00 | refine has01 ?_)) fun w0=>?_
  repeat' first|(refine gca ?_;first|(refine ca hC ?_;rintro _ _ ⟨n1,d1,rfl,hn1,hd1,rfl⟩)|(refine ca hW ?_;rintro _ _ ⟨n2,d2,rfl,hn2,hd2,rfl⟩))|refine al fun c=>?_|refine srz ?_|refine lda ?_|(refine wo ?_;first|(refine ao ?_;first|refine oa ?_)|refine oa ?_|refine ld ?_|refine lnm ?_)|(refine gc ?_;first|refine cf ?_|(refine ci (fun hB=>?_) (fun hB=>?_) <;> try (exfalso;omega)))|refine sq ?_|refine rg ?_|refine xc ?_|refine nl ?_|refine sk ?_|refine rt ?_
  exact rca (cs:=[.bool (decide (z.num < 0)),n2,d2]) (vs:=[.bool (decide (z.num < 0)),n2,d2]) (T:=TRt) ⟨n2,d2,rfl,hn2,hd2,rfl⟩
 ·have hu2:2 ≤ u:=by
   rcases Nat.lt_or_ge u 2 with h | h
   ·exact absurd (by rw [evQ_sum,show u - 1 = 0 by omega];rfl) he
   ·exact h
  obtain ⟨hs,hpos⟩:=num_sign hQ0 he
  have hP:=RFPair_tr 2 u (by decide) (by omega) (by omega)
  have hI:=RIn24_tr tv t k u 2 hz hk hl hu hu2
  have hIB:=(evI_FB (j:=2) hz hk hl hu (Nat.le_refl _)).le (show 12 ≤ 100000 by decide)
  have hF1:FB (mkRat ((2:Nat):Int) u) 100000:=(FB_mk1 (by omega) (by decide) (by omega)).le (by decide)
  have hMul:=fun lv v1 v2 v3 v4=>RFMul2_tr (mkRat ((2:Nat):Int) u) (evI t.length k (omg t k) u 2) lv v1 v2 v3 v4 hF1 hIB
  have hXB:FB (mkRat ((2:Nat):Int) u * evI t.length k (omg t k) u 2) 12:=by
   obtain ⟨a,ha,hq⟩:=(evI_fr t.length k (fun i=>wS t k (i + 1)) (oneS t k) u 2).le hO0 (evI_le1 hz hu hu2)
   have e:mkRat ((2:Nat):Int) u * evI t.length k (omg t k) u 2 = ((2 * a:Nat):Rat) / ((u * oneS t k:Nat):Rat):=by
    rw [hq,two_mk]
    have z1:=nz hO0
    have z2:=nz (show u ≠ 0 by omega)
    push_cast;grind
   rw [e]
   refine FB_nat (Nat.mul_ne_zero (by omega) hO0) ?_ ?_
   ·exact Nat.lt_of_le_of_lt (Nat.mul_le_mul_left 2 (Nat.le_trans ha (Nat.le_of_lt hO))) (by decide)
   ·exact Nat.lt_of_le_of_lt (Nat.mul_le_mul (show u ≤ 40 by omega) (Nat.le_of_lt hO)) (by decide)
  have hD:=fun v1 v2 v3 v4 g1 g2 g3 g4=>RFDiv_tr (mkRat ((2:Nat):Int) u * evI t.length k (omg t k) u 2) (evQ t.length k (omg t k) u) v1 v2 v3 v4 g1 g2 g3 g4 hpos (hXB.le (by decide)) (hQB.le (by decide))
  have hf:fT t k u = mkRat ((2:Nat):Int) u * evI t.length k (omg t k) u 2 / evQ t.length k (omg t k) u:=by unfold fT freeR;rw [if_neg he,two_mk]
  rw [hf]
  have hln:(dg (evQ t.length k (omg t k) u).num.natAbs).length ≠ 0:=by have:=dg_len_pos (n:=(evQ t.length k (omg t k) u).num.natAbs) (by omega);omega
  unfold FQ2 at hP hI hMul hD ⊢
  clear hQF hQB hQ1 hQ0 he hf hO hXB hF1 hIB hs hpos hO0
  generalize mkRat ((2:Nat):Int) u * evI t.length k (omg t k) u 2 / evQ t.length k (omg t k) u = p at *
  generalize mkRat ((2:Nat):Int) u * evI t.length k (omg t k) u 2 = m at *
  generalize mkRat ((2:Nat):Int) u = x at *
  generalize evI t.length k (omg t k) u 2 = y at *
  generalize evQ t.length k (omg t k) u = q at *
  clear hz
  refine Tr.enter env _ Tryz.func175 (by kernel_rfl) rfl Tryz.ntmps175 rfl (by repeat (first | exact has00 | refine has01 ?_)) fun w0=>?_
  repeat' first|(refine gca ?_;first|(refine ca hC ?_;rintro _ _ ⟨n1,d1,rfl,hn1,hd1,rfl⟩)|(refine ca hI ?_;rintro _ _ ⟨n2,d2,rfl,hn2,hd2,rfl⟩)|(refine ca hP ?_;rintro _ _ ⟨n3,d3,rfl,hn3,hd3,rfl⟩)|(refine ca (hMul _ n3 d3 n2 d2) ?_ (hp:=has1 (has_oww memA) (has1 hasA (has1 hasA (has1 hasA (has1 hasA has0)))));rintro _ _ ⟨n4,d4,rfl,hn4,hd4,rfl⟩)|(refine ca (hD n4 d4 n1 d1 hn4 hd4 hn1 hd1) ?_;rintro _ _ ⟨n5,d5,rfl,hn5,hd5,rfl⟩))|refine al fun c=>?_|refine srz ?_|refine lda ?_|refine slws (sz:=3) (xs:=rrow x (n3,d3) ++ rrow y (n2,d2)) fun g2=>?_|(refine wo ?_;first|(refine ao ?_;first|refine oa ?_)|refine oa ?_|refine ld ?_|refine lnm ?_)|(refine gc ?_;first|refine cf ?_|(refine ci (fun hB=>?_) (fun hB=>?_) <;> try (exfalso;omega)))|refine sq ?_|refine rg ?_|refine xc ?_|refine nl ?_|refine sk ?_|refine rt ?_
  exact rca (cs:=[.bool (decide (p.num < 0)),n5,d5]) (vs:=[.bool (decide (p.num < 0)),n5,d5]) (T:=TRt) ⟨n5,d5,rfl,hn5,hd5,rfl⟩
end Go.Art
namespace Go.Art
open Go Go.Proofs Go.RowKit
theorem gd_set {α:Type} (l:List α) (i j:Nat) (v z:α):(l.set i v).getD j z = if j = i∧i < l.length then v else l.getD j z:=by
 rw [List.getD_eq_getElem?_getD,List.getElem?_set,List.getD_eq_getElem?_getD]
 by_cases e:i = j
 ·subst e
  by_cases h:i < l.length
  ·rw [if_pos rfl,if_pos h,if_pos ⟨rfl,h⟩];rfl
  ·rw [if_pos rfl,if_neg h,if_neg (fun g=>h g.2),List.getElem?_eq_none (by omega)]
 ·rw [if_neg e,if_neg fun g=>e g.1.symm]
structure GM (N:Nat) (C:Nat→Nat) where
 h:List Value
 c:List (List Value)
 m:List (List Nat)
 hl:h.length = N
 cl:c.length = N
 ml:m.length = N
 cc:∀ i,i < N→(c.getD i []).length = C i
 mc:∀ i,i < N→(m.getD i []).length = C i
def GM.get {N:Nat} {C:Nat→Nat} (G:GM N C) (i j:Nat):Nat:=(G.m.getD i []).getD j 0
def GM.put {N:Nat} {C:Nat→Nat} (G:GM N C) (i j:Nat) (o:Value) (x:Nat):GM N C:=⟨G.h,G.c.set i ((G.c.getD i []).set j o),G.m.set i ((G.m.getD i []).set j x),G.hl,by rw [List.length_set,G.cl],by rw [List.length_set,G.ml],
 fun a ha=>by
  rw [gd_set]
  split
  ·rename_i e;rw [List.length_set,G.cc i (by have:=e.2;rw [G.cl] at this;exact this),e.1]
  ·exact G.cc a ha,
 fun a ha=>by
  rw [gd_set]
  split
  ·rename_i e;rw [List.length_set,G.mc i (by have:=e.2;rw [G.ml] at this;exact this),e.1]
  ·exact G.mc a ha⟩
theorem GM.get_put {N:Nat} {C:Nat→Nat} (G:GM N C) {i j:Nat} (hi:i < N) (hj:j < C i) (o:Value) (x a b:Nat):(G.put i j o x).get a b = if a = i∧b = j then x else G.get a b:=by
 unfold GM.get GM.put
 dsimp only
 rw [gd_set]
 by_cases e:a = i
 ·subst e
  rw [if_pos ⟨rfl,by rw [G.ml];exact hi⟩,gd_set]
  by_cases e2:b = j
  ·rw [if_pos ⟨e2,by rw [G.mc a hi];exact hj⟩,if_pos ⟨rfl,e2⟩]
  ·rw [if_neg fun g=>e2 g.1,if_neg fun g=>e2 g.2]
 ·rw [if_neg fun g=>e g.1,if_neg fun g=>e g.1]
abbrev numZ (ms:List Nat):List (List Int):=ms.map fun x=>Zs (dg x)
theorem numZ_get {ms:List Nat} {j:Nat} (h:j < ms.length):(numZ ms).getD j [] = Zs (dg (ms.getD j 0)):=by simp [List.getD_eq_getElem?_getD,h]
theorem numZ_set (ms:List Nat) (j x:Nat):(numZ ms).set j (Zs (dg x)) = numZ (ms.set j x):=by unfold numZ;rw [List.map_set]
def rwP (h:Value) (cs:List Value) (ms:List Nat):Ch:=bnd [own TN h cs,owl T64 wU cs (numZ ms)]
def rowG {N:Nat} {C:Nat→Nat} (G:GM N C) (i:Nat):Ch:=rwP (G.h.getD i nS) (G.c.getD i []) (G.m.getD i [])
def mxL {N:Nat} {C:Nat→Nat} (v:Value) (G:GM N C):List Ch:=own TNN v G.h :: (List.range N).map (rowG G)
def mxP {N:Nat} {C:Nat→Nat} (v:Value) (G:GM N C):Ch:=bnd (mxL v G)
theorem rwP_nb (h:Value) (cs:List Value) (ms:List Nat) (b:Nat):¬ (rwP h cs ms).bd b:=bnd_nob (by repeat (first | exact nb0 | refine nb1 ?_)) b
instance {N:Nat} {C:Nat→Nat} (v:Value) (G:GM N C):NoB (mxP v G):=⟨bnd_nob fun c hc b hb=>by
 rcases List.mem_cons.1 hc with rfl | hc
 ·exact hb
 ·obtain ⟨i,_,rfl⟩:=List.mem_map.1 hc
  exact rwP_nb _ _ _ b hb⟩
section
variable {N:Nat} {C:Nat→Nat} {v:Value} {G:GM N C} {F:List Ch}
theorem row_mem {i:Nat} (hi:i < N):rowG G i ∈ mxL v G:=List.mem_cons_of_mem _ (List.mem_map.2 ⟨i,List.mem_range.2 hi,rfl⟩)
theorem mx_h (h:mxP v G ∈ F):Has F (vw v G.h):=has_bndC h (has_own (e:=TNN) (List.Mem.head _))
theorem mx_r (h:mxP v G ∈ F) {i:Nat} (hi:i < N):Has F (vw (G.h.getD i nS) (G.c.getD i [])):=has_bndC h (has_bndC (row_mem hi) (has_own (e:=TN) (List.Mem.head _)))
theorem mx_e (h:mxP v G ∈ F) {i:Nat} (hi:i < N):Has F (velg wU (G.c.getD i []) (numZ (G.m.getD i []))):=
 has_bndC h (has_bndC (row_mem hi) (has_owl (e:=T64) (by rw [List.length_map,G.cc i hi,G.mc i hi]) (List.mem_cons_of_mem _ (List.Mem.head _))))
def vmL (v:Value) (G:GM N C):List Ch:=vw v G.h :: ((List.range N).map (fun i=>vw (G.h.getD i nS) (G.c.getD i [])) ++ (List.range N).map fun i=>velg wU (G.c.getD i []) (numZ (G.m.getD i [])))
def vmx (v:Value) (G:GM N C):Ch:=lbd (vmL v G)
instance (v:Value) (G:GM N C):Lent (vmx v G):=inferInstanceAs (Lent (lbd (vmL v G)))
theorem has_vmx (h:mxP v G ∈ F):Has F (vmx v G):=lbd_of fun c hc=>by
 rcases List.mem_cons.1 hc with rfl | hc
 ·exact mx_h h
 ·rcases List.mem_append.1 hc with hc | hc
  ·obtain ⟨i,hi,rfl⟩:=List.mem_map.1 hc
   exact mx_r h (List.mem_range.1 hi)
  ·obtain ⟨i,hi,rfl⟩:=List.mem_map.1 hc
   exact mx_e h (List.mem_range.1 hi)
theorem vm_h (h:Has F (vmx v G)):Has F (vw v G.h):=has_lbd h (List.Mem.head _)
theorem vm_r (h:Has F (vmx v G)) {i:Nat} (hi:i < N):Has F (vw (G.h.getD i nS) (G.c.getD i [])):=has_lbd h (List.mem_cons_of_mem _ (List.mem_append_left _ (List.mem_map.2 ⟨i,List.mem_range.2 hi,rfl⟩)))
theorem vm_e (h:Has F (vmx v G)) {i:Nat} (hi:i < N):Has F (velg wU (G.c.getD i []) (numZ (G.m.getD i []))):=has_lbd h (List.mem_cons_of_mem _ (List.mem_append_right _ (List.mem_map.2 ⟨i,List.mem_range.2 hi,rfl⟩)))
theorem vm_c (h:Has F (vmx v G)) {i j:Nat} (hi:i < N) (hj:j < C i):Has F (vw ((G.c.getD i []).getD j nS) (Us (dg (G.get i j)))):=by
 have h1:=has_elg (vm_e h hi) (i:=j) (by rw [List.length_map,G.mc i hi];exact hj)
 rw [numZ_get (by rw [G.mc i hi];exact hj)] at h1
 rw [Us_eq]
 exact h1
theorem vm_hw {rh:List Value} {w:World} (h:Has F (vmx v G)) (hw:Sat F w) (hh:G.h = rh:=by rfl):Sl w v rh:=by subst hh;exact (vm_h h).P w hw
theorem vm_rw {rh:List Value} {w:World} {i:Nat} (h:Has F (vmx v G)) (hw:Sat F w) (hi:i < N) (hh:G.h = rh:=by rfl):∃ xs,xs.length = C i∧Sl w (rh.getD i nS) xs:=by subst hh;exact ⟨_,G.cc i hi,(vm_r h hi).P w hw⟩
theorem gm_h {i:Nat} (hi:i < N):G.h[i]? = some (G.h.getD i nS):=by rw [List.getD_eq_getElem?_getD,List.getElem?_eq_getElem (by rw [G.hl];exact hi)];rfl
theorem gm_c {i j:Nat} (hi:i < N) (hj:j < C i):(G.c.getD i [])[j]? = some ((G.c.getD i []).getD j nS):=by rw [List.getD_eq_getElem?_getD (l:=G.c.getD i []),List.getElem?_eq_getElem (by rw [G.cc i hi];exact hj)];rfl
theorem mxL_put {i j:Nat} (hi:i < N) (o:Value) (x:Nat):(mxL v G).set (i + 1) (rwP (G.h.getD i nS) ((G.c.getD i []).set j o) ((G.m.getD i []).set j x)) = mxL v (G.put i j o x):=by
 unfold mxL
 rw [List.set_cons_succ]
 congr 1
 refine List.ext_getElem (by simp) fun a h1 h2=>?_
 have ha:a < N:=by simpa using h2
 rw [List.getElem_set,List.getElem_map,List.getElem_map,List.getElem_range]
 unfold rowG GM.put
 dsimp only
 rw [gd_set,gd_set]
 by_cases e:i = a
 ·subst e
  rw [if_pos rfl,if_pos ⟨rfl,by rw [G.cl];exact hi⟩,if_pos ⟨rfl,by rw [G.ml];exact hi⟩]
 ·rw [if_neg e,if_neg fun g=>e g.1.symm,if_neg fun g=>e g.1.symm]
end
section
variable {P:Program} {E:Env P} {n:Sh} {X:Cx} {s:List K} {fr:Fr} {A A':List Ch} {ops:Array Oper} {rest:List Oper} {ty t:TypeId} {pos:String} {after:Array Edge} {v z:Value} {x y:Operand} {N by_:Nat} {C:Nat→Nat} {G:GM N C}
theorem smx {i j q:Nat} {o:Value} (k:TO E n X s ops rest fr (mxP v (G.put i j o q) :: A')) (hf:Fit A [own T64 o (Us (dg q)),mxP v G] A') (hi:i < N) (hj:j < C i) (ho:o.oneCell' = true) (hx:ev fr x = some (.pointer (some (addrAt (G.h.getD i nS) j))):=by rfl) (hy:ev fr y = some o:=by rfl)
  (ht:lk E.inf t = some (z,1,by_):=by rfl):TO E n X s ops (⟨none,.store t x y,ty,pos,after,none⟩ :: rest) fr A:=by
 have hc:(mxL v G)[i + 1]? = some (rowG G i):=by
  unfold mxL
  rw [List.getElem?_cons_succ,List.getElem?_map,List.getElem?_range hi];rfl
 have hcl:(G.c.getD i []).length = (numZ (G.m.getD i [])).length:=by rw [List.length_map,G.cc i hi,G.mc i hi]
 have i1:Im A (own T64 o (Us (dg q)) :: rowG G i :: bnd ((mxL v G).eraseIdx (i + 1)) :: A'):=Im.trans hf (Im.cons _ (bnd_take hc A'))
 have i2:Im (own T64 o (Us (dg q)) :: rowG G i :: bnd ((mxL v G).eraseIdx (i + 1)) :: A') (own T64 o (Us (dg q)) :: own TN (G.h.getD i nS) (G.c.getD i []) :: owl T64 wU (G.c.getD i []) (numZ (G.m.getD i [])) :: bnd ((mxL v G).eraseIdx (i + 1)) :: A'):=Im.cons _ (un_bnd _ _)
 have i3:Im (own T64 o (Us (dg q)) :: own TN (G.h.getD i nS) (G.c.getD i []) :: owl T64 wU (G.c.getD i []) (numZ (G.m.getD i [])) :: bnd ((mxL v G).eraseIdx (i + 1)) :: A') (own TN (G.h.getD i nS) (G.c.getD i []) :: own T64 o (Us (dg q)) :: owl T64 wU (G.c.getD i []) (numZ (G.m.getD i [])) :: bnd ((mxL v G).eraseIdx (i + 1)) :: A'):=Im.perm (List.Perm.swap _ _ _)
 have i4:Im (own T64 o (Us (dg q)) :: owl T64 wU (G.c.getD i []) (numZ (G.m.getD i [])) :: bnd ((mxL v G).eraseIdx (i + 1)) :: A') (owl T64 wU ((G.c.getD i []).set j o) (numZ ((G.m.getD i []).set j q)) :: bnd ((mxL v G).eraseIdx (i + 1)) :: A'):=by
  rw [Us_eq,← numZ_set]
  exact owl_set hcl (i:=j) (by rw [List.length_map,G.mc i hi];exact hj) o (Zs (dg q)) _
 refine TO.im (i1.trans (i2.trans (i3.trans (Im.cons _ i4)))) ?_
 refine so (v:=G.h.getD i nS) (xs:=G.c.getD i []) (j:=j) (c:=o) (el:=TN) ?_ hx (Im.refl _) hy (by rw [G.cc i hi];exact hj) rfl ho ht
 have i5:Im (own TN (G.h.getD i nS) ((G.c.getD i []).set j o) :: owl T64 wU ((G.c.getD i []).set j o) (numZ ((G.m.getD i []).set j q)) :: bnd ((mxL v G).eraseIdx (i + 1)) :: A') (rwP (G.h.getD i nS) ((G.c.getD i []).set j o) ((G.m.getD i []).set j q) :: bnd ((mxL v G).eraseIdx (i + 1)) :: A'):=im_bnd [own TN (G.h.getD i nS) ((G.c.getD i []).set j o),owl T64 wU ((G.c.getD i []).set j o) (numZ ((G.m.getD i []).set j q))] _
 have i6:=bnd_put (C:=mxL v G) (i:=i + 1) (rwP (G.h.getD i nS) ((G.c.getD i []).set j o) ((G.m.getD i []).set j q)) (by unfold mxL;simp [hi]) A'
 rw [mxL_put hi] at i6
 exact TO.im (i5.trans i6) k
end
end Go.Art
namespace Go.Art
open Go Go.Proofs Go.RowKit
def shareN (many so up down all:Nat):Nat:=chs many so * up ^ so * (down - up) ^ (many - so) * down ^ (all - many)
def rowsL (hs:List Value) (cs:List (List Value)) (ms:List (List Nat)):List Ch:=(List.range ms.length).map fun a=>rwP (hs.getD a nS) (cs.getD a []) (ms.getD a [])
theorem gd_app {α:Type} (l:List α) (x z:α) {a:Nat} (h:a < l.length):(l ++ [x]).getD a z = l.getD a z:=by
 rw [List.getD_eq_getElem?_getD,List.getD_eq_getElem?_getD,List.getElem?_append_left h]
theorem gd_last {α:Type} (l:List α) (x z:α) {a:Nat} (h:a = l.length):(l ++ [x]).getD a z = x:=by
 subst h;simp [List.getD_eq_getElem?_getD]
theorem rowsL_snoc {hs:List Value} {cs:List (List Value)} {ms:List (List Nat)} (h1:hs.length = ms.length) (h2:cs.length = ms.length) (l:Value) (ls:List Value) (r:List Nat):rowsL (hs ++ [l]) (cs ++ [ls]) (ms ++ [r]) = rowsL hs cs ms ++ [rwP l ls r]:=by
 unfold rowsL
 rw [List.length_append,List.length_singleton,List.range_succ,List.map_append]
 congr 1
 ·refine List.map_congr_left fun a ha=>?_
  have:=List.mem_range.1 ha
  rw [gd_app _ _ _ (by omega),gd_app _ _ _ (by omega),gd_app _ _ _ this]
 ·rw [List.map_singleton,gd_last _ _ _ h1.symm,gd_last _ _ _ h2.symm,gd_last _ _ _ rfl]
theorem rows_snoc {hs:List Value} {cs:List (List Value)} {ms:List (List Nat)} (h1:hs.length = ms.length) (h2:cs.length = ms.length) (l:Value) (ls:List Value) (r:List Nat) {A F:List Ch} (hf:Fit A [own TN l ls,owl T64 wU ls (numZ r),bnd (rowsL hs cs ms)] F) :
  Im A (bnd (rowsL (hs ++ [l]) (cs ++ [ls]) (ms ++ [r])) :: F):=by
 rw [rowsL_snoc h1 h2]
 refine Im.trans hf ?_
 exact (im_bnd [own TN l ls,owl T64 wU ls (numZ r)] (bnd (rowsL hs cs ms) :: F)).trans (bnd_snoc (rwP l ls r) _ F)
theorem rows_nil (A:List Ch):Im A (bnd (rowsL [] [] []) :: A):=bnd_nil A
theorem rows_done {N:Nat} {C:Nat→Nat} (G:GM N C) (v:Value) {A F:List Ch} (hf:Fit A [own TNN v G.h,bnd (rowsL G.h G.c G.m)] F):Im A (mxP v G :: F):=by
 refine Im.trans hf ((bnd_cons (own TNN v G.h) _ F).trans ?_)
 show Im (bnd (own TNN v G.h :: rowsL G.h G.c G.m) :: F) (bnd (mxL v G) :: F)
 unfold rowsL mxL
 rw [G.ml]
 exact Im.refl _
def mkG {hs:List Value} {cs:List (List Value)} {ms:List (List Nat)} {N:Nat} {C:Nat→Nat} (h1:hs.length = N) (h2:cs.length = N) (h3:ms.length = N) (h4:∀ i,i < N→(ms.getD i []).length = C i) (h5:∀ i,i < N→(cs.getD i []).length = C i):GM N C:=⟨hs,cs,ms,h1,h2,h3,h5,h4⟩
def rowN (up down n i:Nat):List Nat:=(List.range (i + 1)).map fun j=>shareN i j up down n
theorem rowN_len (up down n i:Nat):(rowN up down n i).length = i + 1:=by simp [rowN]
theorem rowN_get (up down n:Nat) {i j:Nat} (h:j < i + 1):(rowN up down n i).getD j 0 = shareN i j up down n:=by simp [rowN,List.getD_eq_getElem?_getD,h]
def triN (up down n i:Nat):List (List Nat):=(List.range i).map (rowN up down n)
theorem triN_len (up down n i:Nat):(triN up down n i).length = i:=by simp [triN]
theorem triN_get (up down n:Nat) {i j:Nat} (h:j < i):(triN up down n i).getD j [] = rowN up down n j:=by simp [triN,List.getD_eq_getElem?_getD,h]
theorem triN_succ (up down n i:Nat):triN up down n (i + 1) = triN up down n i ++ [rowN up down n i]:=by unfold triN;rw [List.range_succ,List.map_append];rfl
theorem pow_dg {a L:Nat} (h:(dg a).length ≤ L):∀ i,(dg (a ^ i)).length ≤ L * i + 1
 | 0=>by rw [Nat.pow_zero,dg_1];exact Nat.le_add_left _ _
 | i + 1=>by rw [Nat.pow_succ];exact Nat.le_trans (dg_mul_len (pow_dg h i) h) (by rw [Nat.mul_succ];omega)
structure ShO where
 i:Nat
 v:Value
 hs:List Value
 cs:List (List Value)
structure ShJ where
 j:Nat
 l:Value
 ls:List Value
attribute [local irreducible] Fit pt own ro vw mpc lpt vels rels mow lrc dfr
attribute [local irreducible] lmp lme mit velg relg bnd owl dfrl
theorem Rpow_tr (v:Value) (a n:Nat) (ha:(dg a).length ≤ 12) (hn:n ≤ 12):Tr Tryz.prog 173 [v,I n] [vw v (Us (dg a))] [] fun u D=>u.oneCell' = true∧D = [own T64 u (Us (dg (a ^ n)))]:=by
 have hO:=ROf_tr 1 (by decide)
 have hpl:=pow_dg ha
 refine Tr.enter env _ Tryz.func173 (by kernel_rfl) rfl Tryz.ntmps173 rfl (by repeat (first | exact has00 | refine has01 ?_)) fun w0=>?_
 repeat' first|(refine gca ?_;first|(refine ca hO ?_;rintro o _ ⟨ho,rfl⟩))|(refine wo ?_;first|refine oa ?_)|refine sq ?_|refine rg ?_|refine xc ?_|refine nl ?_|refine bk ?_
 refine TC.loop (ι:=Nat × Value) (fun g=>[(6,I g.1),(5,g.2)]) (fun g=>[own T64 g.2 (Us (dg (a ^ g.1)))]) (fun g=>g.1 ≤ n∧g.2.oneCell' = true) (fun g=>n - g.1) (0,o) [0,1] ⟨Nat.zero_le _,ho⟩ ?_ (hf:=by dsimp only;rw [Nat.pow_zero];exact fitA)
 rintro ⟨i,o2⟩ ⟨hi,ho2⟩
 dsimp only at hi ho2 ⊢
 by_cases hlt:i < n
 ·have hM:=RMul_tr o2 v (dg (a ^ i)) (dg a) (Dg_dg _) (Dg_dg _) (by have:=hpl i;omega) (by omega)
  rw [nv_dg,nv_dg,← Nat.pow_succ] at hM
  clear hpl hO
  generalize dg (a ^ i) = l1 at *
  repeat' first|(refine gca ?_;first|(refine ca hM ?_;rintro o3 _ ⟨ho3,rfl⟩))|(refine wo ?_;first|(refine ao ?_;first|refine aw ?_|refine oa ?_)|refine oa ?_)|(refine gc ?_;first|(refine ci (fun hB=>?_) (fun hB=>?_) <;> try (exfalso;omega)))|refine sq ?_|refine rg ?_|refine xc ?_|refine nl ?_|refine sk ?_|refine bk ?_|refine xb ?_
  exact lp (i + 1,o3) ⟨hlt,ho3⟩
 ·obtain rfl:i = n:=by omega
  clear hpl hO
  repeat' first|(refine wo ?_;first|(refine ao ?_;first|refine oa ?_)|refine oa ?_)|(refine gc ?_;first|(refine ci (fun hB=>?_) (fun hB=>?_) <;> try (exfalso;omega)))|refine sq ?_|refine rg ?_|refine xc ?_|refine nl ?_|refine xe ?_|refine rt ?_
  exact r1 ⟨ho2,rfl⟩
theorem Rshare_tr (uv dv:Value) (many so up down all:Nat) (hso:so ≤ many) (hma:many ≤ all) (hal:all ≤ 12) (hup:up ≤ down) (hd:(dg down).length ≤ 12) :
  Tr Tryz.prog 174 [I many,I so,uv,dv,I all] [vw uv (Us (dg up)),vw dv (Us (dg down))] [] fun u D=>u.oneCell' = true∧D = [own T64 u (Us (dg (shareN many so up down all)))]:=by
 have hul:(dg up).length ≤ 12:=Nat.le_trans (dg_mono hup) hd
 have hll:(dg (down - up)).length ≤ 12:=Nat.le_trans (dg_mono (Nat.sub_le _ _)) hd
 have hC:=RChoose_tr many so (by omega) hso
 have hcl:(dg (chs many so)).length ≤ 1:=dg_len1 (Nat.lt_of_le_of_lt (Nat.le_trans (chs_bnd many so) (Nat.pow_le_pow_right (by decide) (show many ≤ 12 by omega))) (by decide))
 have hS:=RSub_tr dv uv (dg down) (dg up) (Dg_dg _) (Dg_dg _) (by omega) (by rw [nv_dg,nv_dg];exact hup)
 rw [nv_dg,nv_dg] at hS
 have hP1:=Rpow_tr uv up so hul (by omega)
 have hP2:=fun v=>Rpow_tr v (down - up) (many - so) hll (by omega)
 have hP3:=Rpow_tr dv down (all - many) hd (by omega)
 have p1:=pow_dg hul so
 have p2:=pow_dg hll (many - so)
 have p3:=pow_dg hd (all - many)
 have b12:∀ x,x ≤ 12→12 * x + 1 ≤ 145:=fun x hx=>by omega
 have q1:=b12 so (by omega)
 have q2:=b12 (many - so) (by omega)
 have q3:=b12 (all - many) (by omega)
 have m1:(dg (chs many so * up ^ so)).length ≤ 146:=Nat.le_trans (dg_mul_len hcl p1) (by omega)
 have m2:(dg (chs many so * up ^ so * (down - up) ^ (many - so))).length ≤ 300:=Nat.le_trans (dg_mul_len m1 p2) (by omega)
 have hM1:=fun a b=>RMul_tr a b (dg (chs many so)) (dg (up ^ so)) (Dg_dg _) (Dg_dg _) (by omega) (by omega)
 have hM2:=fun a b=>RMul_tr a b (dg (chs many so * up ^ so)) (dg ((down - up) ^ (many - so))) (Dg_dg _) (Dg_dg _) (by omega) (by omega)
 have hM3:=fun a b=>RMul_tr a b (dg (chs many so * up ^ so * (down - up) ^ (many - so))) (dg (down ^ (all - many))) (Dg_dg _) (Dg_dg _) (by omega) (by omega)
 simp only [nv_dg] at hM1 hM2 hM3
 unfold shareN
 unfold eNat at hC
 clear hul hll hcl p1 p2 p3 b12 q1 q2 q3 m1 m2 hd
 generalize dg (chs many so * up ^ so * (down - up) ^ (many - so) * down ^ (all - many)) = l1 at *
 generalize dg (chs many so * up ^ so * (down - up) ^ (many - so)) = l2 at *
 generalize dg (chs many so * up ^ so) = l3 at *
 generalize dg (chs many so) = l4 at *
 generalize dg (up ^ so) = l5 at *
 generalize dg ((down - up) ^ (many - so)) = l6 at *
 generalize dg (down ^ (all - many)) = l7 at *
 generalize dg (down - up) = l8 at *
 generalize dg down = l9 at *
 generalize dg up = l0 at *
 have g1:(many:Int) - so = ((many - so:Nat):Int):=by omega
 have g2:(all:Int) - many = ((all - many:Nat):Int):=by omega
 generalize many - so = ms at *
 generalize all - many = am at *
 have g3:ms ≤ 12∧am ≤ 12:=by omega
 refine Tr.enter env _ Tryz.func174 (by kernel_rfl) rfl Tryz.ntmps174 rfl (by repeat (first | exact has00 | refine has01 ?_)) fun w0=>?_
 repeat' first|(refine gca ?_;first|(refine ca hC ?_;rintro _ _ ⟨o1,rfl,ho1,rfl⟩)|(refine ca hS ?_;rintro _ _ ⟨o2,rfl,ho2,rfl⟩)|(refine ca hP1 ?_;rintro o3 _ ⟨ho3,rfl⟩)|(refine ca (hM1 o1 o3) ?_;rintro o4 _ ⟨ho4,rfl⟩)|(refine ca (hP2 o2) ?_;rintro o5 _ ⟨ho5,rfl⟩)|(refine ca (hM2 o4 o5) ?_;rintro o6 _ ⟨ho6,rfl⟩)|(refine ca hP3 ?_;rintro o7 _ ⟨ho7,rfl⟩)|(refine ca (hM3 o6 o7) ?_;rintro o8 _ ⟨ho8,rfl⟩))|(refine aw (m:=(ms:Int)) ?_ (h:=by rw [← g1];rfl))|(refine aw (m:=(am:Int)) ?_ (h:=by rw [← g2];rfl))|(refine wo ?_;first|refine oa ?_)|refine sq ?_|refine rg ?_|refine xc ?_|refine nl ?_|refine rt ?_
 exact r1 ⟨ho8,rfl⟩
theorem Rshares_tr (uv dv:Value) (up down n:Nat) (hn:n ≤ 12) (hup:up ≤ down) (hd:(dg down).length ≤ 12) :
  Tr Tryz.prog 178 [uv,dv,I n] [vw uv (Us (dg up)),vw dv (Us (dg down))] [] fun u D=>∃ G:GM (n + 1) (fun i=>i + 1),u.oneCell' = true∧(∀ i j,i ≤ n→j ≤ i→G.get i j = shareN i j up down n)∧D = [mxP u G]:=by
 have hS:=fun i j (hj:j ≤ i) (hi:i ≤ n)=>Rshare_tr uv dv i j up down n hj hi hn hup hd
 have hrl:=rowN_len up down n
 have hrg:=fun i j (hj:j < i + 1)=>rowN_get up down n hj
 have htl:=triN_len up down n
 have htg:=fun i j (hj:j < i)=>triN_get up down n hj
 have hts:=triN_succ up down n
 refine Tr.enter env _ Tryz.func178 (by kernel_rfl) rfl Tryz.ntmps178 rfl (by repeat (first | exact has00 | refine has01 ?_)) fun w0=>?_
 repeat' first|(refine wo ?_;first|refine oa ?_)|refine sq ?_|refine rg ?_|refine xc ?_|refine nl ?_|refine bk ?_
 refine TC.im (own_nil TNN _) (TC.im (rows_nil _) ?_)
 refine TC.loop (ι:=ShO) (fun g=>[(8,I g.i),(7,g.v)]) (fun g=>[own TNN g.v g.hs,bnd (rowsL g.hs g.cs (triN up down n g.i))]) (fun g=>g.i ≤ n + 1∧g.v.oneCell' = true∧g.hs.length = g.i∧g.cs.length = g.i∧∀ a,a < g.i→(g.cs.getD a []).length = a + 1) (fun g=>n + 1 - g.i) ⟨0,nS,[],[]⟩ [0,1,2] ⟨Nat.zero_le _,rfl,rfl,rfl,fun a h=>absurd h (Nat.not_lt_zero a)⟩ ?_
 rintro ⟨i,v,hs,cs⟩ ⟨hi,hv,hhl,hcl,hca⟩
 dsimp only at hi hv hhl hcl hca ⊢
 by_cases hlt:i < n + 1
 rotate_left
 ·obtain rfl:i = n + 1:=by omega
  repeat' first|(refine wo ?_;first|(refine ao ?_;first|refine oa ?_)|refine oa ?_)|(refine gc ?_;first|(refine ci (fun hB=>?_) (fun hB=>?_) <;> try (exfalso;omega)))|refine sq ?_|refine rg ?_|refine xc ?_|refine nl ?_|refine xe ?_|refine rt ?_
  refine TX.im (rows_done (mkG (C:=fun i=>i + 1) hhl hcl (htl (n + 1)) (fun a ha=>by rw [htg (n + 1) a ha];exact hrl a) hca) v fitA) ?_
  refine r1 ⟨_,hv,fun a b ha hb=>?_,rfl⟩
  show ((triN up down n (n + 1)).getD a []).getD b 0 = _
  rw [htg (n + 1) a (by omega),hrg a b (by omega)]
 repeat' first|(refine wo ?_;first|(refine ao ?_;first|refine oa ?_)|refine oa ?_)|(refine gc ?_;first|(refine ci (fun hB=>?_) (fun hB=>?_) <;> try (exfalso;omega)))|refine sq ?_|refine rg ?_|refine xc ?_|refine nl ?_|refine sk ?_|refine bk ?_
 refine TC.im (own_nil TN _) (TC.im (owl_nil (e:=T64) (g:=wU) _) ?_)
 refine TC.loop (ι:=ShJ) (fun g=>[(10,I g.j),(9,g.l)]) (fun g=>[own TN g.l g.ls,owl T64 wU g.ls (numZ ((rowN up down n i).take g.j))]) (fun g=>g.j ≤ i + 1∧g.l.oneCell' = true∧g.ls.length = g.j) (fun g=>i + 1 - g.j) ⟨0,nS,[]⟩ [0,1,2,7,8] ⟨Nat.zero_le _,rfl,rfl⟩ ?_
 rintro ⟨j,l,ls⟩ ⟨hj,hl,hll⟩
 dsimp only at hj hl hll ⊢
 by_cases hjt:j < i + 1
 ·have hS1:=hS i j (by omega) (by omega)
  have htk:numZ ((rowN up down n i).take (j + 1)) = numZ ((rowN up down n i).take j) ++ [Zs (dg (shareN i j up down n))]:=by
   rw [take_succ' (by rw [hrl];exact hjt) 0,hrg i j hjt];unfold numZ;rw [List.map_append];rfl
  have hnl:(numZ ((rowN up down n i).take j)).length = j:=by rw [List.length_map,List.length_take,hrl];omega
  rw [Us_eq (dg (shareN i j up down n))] at hS1
  clear hS hrg htg hts
  generalize Zs (dg (shareN i j up down n)) = zz at *
  generalize hz1:numZ ((rowN up down n i).take (j + 1)) = z1 at *
  generalize numZ ((rowN up down n i).take j) = z0 at *
  repeat' first|(refine gca ?_;first|(refine ca hS1 ?_;rintro o _ ⟨ho,rfl⟩))|(refine sli (vs:=[o]) (fun q2=>?_) (h1:=one_cons ho one_nil))|(refine ap (xs:=ls) (news:=[o]) (fun o2=>?_) (h1:=one_cons ho one_nil);refine TO.one (v:=o2) (xs:=ls ++ [o]) fun ho2=>?_)|(refine wo ?_;first|(refine ao ?_;first|refine aw ?_|refine oa ?_)|refine oa ?_)|(refine gc ?_;first|(refine ci (fun hB=>?_) (fun hB=>?_) <;> try (exfalso;omega)))|refine sq ?_|refine rg ?_|refine xc ?_|refine nl ?_|refine sk ?_|refine bk ?_|refine xb ?_
  refine TX.im (owl_push (e:=T64) (g:=wU) (hs:=ls) (ls:=z0) (v:=o) (l:=zz) (by omega) fitA) ?_
  exact lp ⟨j + 1,o2,ls ++ [o]⟩ ⟨hjt,ho2,by simp [hll]⟩ (hf:=by dsimp only;rw [hz1,htk];exact fitA)
 ·obtain rfl:j = i + 1:=by omega
  rw [List.take_of_length_le (by rw [hrl];exact Nat.le_refl _)]
  clear hS hrg
  repeat' first|(refine sli (vs:=[l]) (fun q3=>?_) (h1:=one_cons hl one_nil))|(refine ap (xs:=hs) (news:=[l]) (fun o4=>?_) (h1:=one_cons hl one_nil);refine TO.one (v:=o4) (xs:=hs ++ [l]) fun ho4=>?_)|(refine wo ?_;first|(refine ao ?_;first|refine aw ?_|refine oa ?_)|refine oa ?_)|(refine gc ?_;first|(refine ci (fun hB=>?_) (fun hB=>?_) <;> try (exfalso;omega)))|refine sq ?_|refine rg ?_|refine xc ?_|refine nl ?_|refine xe ?_|refine xb ?_
  refine TX.im (rows_snoc (hs:=hs) (cs:=cs) (ms:=triN up down n i) (by rw [htl];exact hhl) (by rw [htl];exact hcl) l ls (rowN up down n i) fitA) ?_
  rw [← hts]
  exact lp ⟨i + 1,o4,hs ++ [l],cs ++ [ls]⟩ ⟨hlt,ho4,by simp [hhl],by simp [hcl],fun a ha=>by
   dsimp only at ha ⊢
   by_cases e:a < i
   ·rw [gd_app _ _ _ (by omega)];exact hca a e
   ·rw [gd_last _ _ _ (by omega),hll];omega⟩
end Go.Art
namespace Go.Art
open Go Go.Proofs Go.RowKit
theorem owl_repG {e:TypeId} {g:Int→Value} (F:List Ch):∀ n:Nat,Im F (owl e g (List.replicate n nS) (List.replicate n []) :: F)
 | 0=>owl_nil F
 | n + 1=>by
  refine (owl_repG (e:=e) (g:=g) F n).trans ?_
  rw [List.replicate_succ',List.replicate_succ']
  exact (own_nil e _).trans (owl_snoc (e:=e) (g:=g) (by simp) nS [] F)
theorem numZ_rep (n:Nat):numZ (List.replicate n 0) = List.replicate n []:=by
 unfold numZ;rw [List.map_replicate,dg_zero];rfl
structure MR (n D:Nat) (g:Nat→Nat→Nat) (l:List Rat):Prop where
 len:l.length = (n + 1) * (n + 1)
 eq:∀ i j,i ≤ n→j ≤ n→((g i j:Nat):Rat) = (D:Rat) * l.getD (i * (n + 1) + j) 0
theorem pl_lt {n i j:Nat} (hi:i ≤ n) (hj:j ≤ n):i * (n + 1) + j < (n + 1) * (n + 1):=by
 have:=Nat.mul_le_mul_right (n + 1) hi
 rw [Nat.succ_mul];omega
theorem pl_inj {n i j a b:Nat} (hj:j ≤ n) (hb:b ≤ n) (h:a * (n + 1) + b = i * (n + 1) + j):a = i∧b = j:=by
 have h1:(a * (n + 1) + b) / (n + 1) = a:=by rw [Nat.mul_comm,Nat.mul_add_div (by omega),Nat.div_eq_of_lt (by omega),Nat.add_zero]
 have h2:(i * (n + 1) + j) / (n + 1) = i:=by rw [Nat.mul_comm,Nat.mul_add_div (by omega),Nat.div_eq_of_lt (by omega),Nat.add_zero]
 rw [h] at h1
 have h3:a = i:=by omega
 subst h3
 exact ⟨rfl,by omega⟩
theorem MR.put {n D:Nat} {g g':Nat→Nat→Nat} {l:List Rat} (h:MR n D g l) {i j x:Nat} (hi:i ≤ n) (hj:j ≤ n) (hg:∀ a b,g' a b = if a = i∧b = j then x else g a b) {q:Rat} (hx:(x:Rat) = (D:Rat) * q):MR n D g' (l.set (i * (n + 1) + j) q):=by
 refine ⟨by rw [List.length_set,h.len],fun a b ha hb=>?_⟩
 rw [hg,getD_setR _ _ _ _ (by rw [h.len];exact pl_lt hi hj)]
 by_cases e:a = i∧b = j
 ·rw [if_pos e,if_pos (by rw [e.1,e.2])];exact hx
 ·rw [if_neg e,if_neg fun g=>e (pl_inj hj hb g)];exact h.eq a b ha hb
theorem MR.add {n D:Nat} {g g':Nat→Nat→Nat} {l:List Rat} (h:MR n D g l) {i j x:Nat} (hi:i ≤ n) (hj:j ≤ n) (hg:∀ a b,g' a b = if a = i∧b = j then g i j + x else g a b) {q:Rat} (hx:(x:Rat) = (D:Rat) * q):MR n D g' (addAt l (i * (n + 1) + j) q):=by
 unfold addAt
 refine h.put hi hj hg ?_
 rw [Rat.natCast_add,h.eq i j hi hj,hx,Rat.mul_add]
theorem MR.zero (n D:Nat) {g:Nat→Nat→Nat} (hg:∀ i j,i ≤ n→j ≤ n→g i j = 0):MR n D g (List.replicate ((n + 1) * (n + 1)) 0):=
 ⟨by simp,fun i j hi hj=>by rw [hg i j hi hj,getD_repl,Rat.mul_zero];rfl⟩
theorem powM (x y:Rat):∀ n:Nat,(x * y) ^ n = x ^ n * y ^ n
 | 0=>by simp
 | n + 1=>by rw [Rat.pow_succ,powM x y n,Rat.pow_succ,Rat.pow_succ];grind
theorem powA (x:Rat) (a:Nat):∀ b:Nat,x ^ (a + b) = x ^ a * x ^ b
 | 0=>by simp
 | b + 1=>by rw [← Nat.add_assoc,Rat.pow_succ,powA x a b,Rat.pow_succ];grind
theorem powI {x:Rat} (h:x ≠ 0) (n:Nat):x⁻¹ ^ n * x ^ n = 1:=by
 rw [← powM,Rat.inv_mul_cancel _ h,one_powR]
theorem shareN_q {m s up F all:Nat} (hF:F ≠ 0) (hup:up ≤ F) (hs:s ≤ m) (hm:m ≤ all):((shareN m s up F all:Nat):Rat) = ((F ^ all:Nat):Rat) * shar ((up:Rat) / (F:Rat)) m s:=by
 unfold shareN shar
 obtain ⟨a,rfl⟩:=Nat.exists_eq_add_of_le hs
 obtain ⟨b,rfl⟩:=Nat.exists_eq_add_of_le hm
 obtain ⟨c,rfl⟩:=Nat.exists_eq_add_of_le hup
 rw [Nat.add_sub_cancel_left,Nat.add_sub_cancel_left,Nat.add_sub_cancel_left]
 have h0:=nz hF
 have h1:(1:Rat) - (up:Rat) / ((up + c:Nat):Rat) = (c:Rat) / ((up + c:Nat):Rat):=by
  rw [Rat.natCast_add] at h0 ⊢
  grind
 rw [h1,Rat.div_def,Rat.div_def,powM,powM,Rat.natCast_mul,Rat.natCast_mul,Rat.natCast_mul,Rat.natCast_pow,Rat.natCast_pow,Rat.natCast_pow,Rat.natCast_pow,powA,powA]
 generalize ((up + c:Nat):Rat) = F' at *
 have p1:=powI h0 s
 have p2:=powI h0 a
 generalize F' ^ s = x1 at *
 generalize F' ^ a = x2 at *
 generalize F' ^ b = x3 at *
 generalize F'⁻¹ ^ s = y1 at *
 generalize F'⁻¹ ^ a = y2 at *
 generalize (up:Rat) ^ s = z1
 generalize (c:Rat) ^ a = z2
 generalize ((chs (s + a) s:Nat):Rat) = z3
 grind
structure EmG where
 i:Nat
 hs:List Value
structure FiH (n:Nat) where
 r:Nat
 G:GM (n + 1) fun _=>n + 1
attribute [local irreducible] Fit pt own ro vw mpc lpt vels rels mow lrc dfr
attribute [local irreducible] lmp lme mit velg relg bnd owl dfrl evI solE
abbrev TLv:TypeId:=90
abbrev GS (n:Nat):Type:=GM (n + 1) fun _=>n + 1
theorem Rempty_tr (dv:Value) (hdv:dv.oneCell' = true) (n:Nat) (hn:n ≤ 12):Tr Tryz.prog 172 [I n,dv] [] [] fun u D=>∃ (v:Value) (G:GS n),u = .agg #[v,dv]∧v.oneCell' = true∧(∀ i j,G.get i j = 0)∧D = [mxP v G]:=by
 have hn1:(n:Int) + 1 = ((n + 1:Nat):Int):=rfl
 refine Tr.enter env _ Tryz.func172 (by kernel_rfl) rfl Tryz.ntmps172 rfl (by repeat (first | exact has00 | refine has01 ?_)) fun w0=>?_
 repeat' first|refine al fun c=>?_|(refine aw (m:=(n:Int) + 1) ?_;rw [hn1])|(refine mk (m:=((n + 1:Nat):Int)) (fun v=>?_);rw [Int.toNat_natCast];refine TO.one (v:=v) (xs:=List.replicate (n + 1) nS) fun hv=>?_)|(refine wo ?_;first|refine oa ?_)|refine sq ?_|refine rg ?_|refine xc ?_|refine nl ?_|refine bk ?_
 refine TC.im (rows_nil _) ?_
 refine TC.loop (ι:=EmG) (fun g=>[(6,I g.i)]) (fun g=>[own TNN v (g.hs ++ List.replicate (n + 1 - g.i) nS),bnd (rowsL g.hs (List.replicate g.i (List.replicate (n + 1) nS)) (List.replicate g.i (List.replicate (n + 1) 0)))]) (fun g=>g.i ≤ n + 1∧g.hs.length = g.i) (fun g=>n + 1 - g.i) ⟨0,[]⟩ [0,1,4,5] ⟨Nat.zero_le _,rfl⟩ ?_
 rintro ⟨i,hs⟩ ⟨hi,hhl⟩
 dsimp only at hi hhl ⊢
 by_cases hlt:i < n + 1
 ·obtain ⟨m,hm⟩ : ∃ m,n + 1 - i = m + 1:=⟨n - i,by omega⟩
  have hst:∀ h,(hs ++ List.replicate (m + 1) nS).set i h = (hs ++ [h]) ++ List.replicate m nS:=fun h=>by
   rw [List.set_append_right _ _ (by omega),hhl,Nat.sub_self,List.replicate_succ,List.set_cons_zero,List.append_assoc];rfl
  rw [hm]
  repeat' first|(refine aw (m:=(n:Int) + 1) ?_;rw [hn1])|(refine mk (m:=((n + 1:Nat):Int)) (fun h=>?_);rw [Int.toNat_natCast];refine TO.one (v:=h) (xs:=List.replicate (n + 1) nS) fun hh=>?_)|refine ixn (i:=i) (xs:=hs ++ List.replicate (m + 1) nS) ?_ (hb:=by rw [List.length_append,List.length_replicate];omega)|refine so (xs:=hs ++ List.replicate (m + 1) nS) (j:=i) ?_ (hj:=by rw [List.length_append,List.length_replicate];omega)|(refine wo ?_;first|(refine ao ?_;first|refine aw ?_|refine oa ?_)|refine oa ?_)|(refine gc ?_;first|(refine ci (fun hB=>?_) (fun hB=>?_) <;> try (exfalso;omega)))|refine sq ?_|refine rg ?_|refine xc ?_|refine nl ?_|refine sk ?_|refine bk ?_|refine xb ?_
  rw [hst]
  refine TX.im (owl_repG (e:=T64) (g:=wU) _ (n + 1)) ?_
  rw [← numZ_rep (n + 1)]
  refine TX.im (rows_snoc (hs:=hs) (cs:=List.replicate i (List.replicate (n + 1) nS)) (ms:=List.replicate i (List.replicate (n + 1) 0)) (by rw [List.length_replicate];exact hhl) (by rw [List.length_replicate,List.length_replicate]) h (List.replicate (n + 1) nS) (List.replicate (n + 1) 0) fitA) ?_
  rw [← List.replicate_succ',← List.replicate_succ']
  exact lp ⟨i + 1,hs ++ [h]⟩ ⟨hlt,by simp [hhl]⟩ (hf:=by dsimp only;rw [show n + 1 - (i + 1) = m by omega];exact fitA)
 ·obtain rfl:i = n + 1:=by omega
  rw [Nat.sub_self,List.replicate_zero,List.append_nil]
  repeat' first|refine bdz ?_|refine srz ?_|(refine wo ?_;first|(refine ao ?_;first|refine oa ?_)|refine oa ?_)|(refine gc ?_;first|(refine ci (fun hB=>?_) (fun hB=>?_) <;> try (exfalso;omega)))|refine sq ?_|refine rg ?_|refine xc ?_|refine nl ?_|refine xe ?_|refine rt ?_
  refine TX.im (rows_done (mkG (C:=fun _=>n + 1) (hs:=hs) (cs:=List.replicate (n + 1) (List.replicate (n + 1) nS)) (ms:=List.replicate (n + 1) (List.replicate (n + 1) 0)) hhl (by simp) (by simp) (fun a ha=>by simp [List.getD_eq_getElem?_getD,ha]) (fun a ha=>by simp [List.getD_eq_getElem?_getD,ha])) v fitA) ?_
  refine rca1 (cs:=[v,dv]) (vs:=[v,dv]) (T:=TLv) ⟨v,_,rfl,hv,fun a b=>?_,rfl⟩
  show ((List.replicate (n + 1) (List.replicate (n + 1) 0)).getD a []).getD b 0 = 0
  rw [List.getD_eq_getElem?_getD (l:=List.replicate (n + 1) (List.replicate (n + 1) 0)),List.getElem?_replicate]
  split
  ·show (List.replicate (n + 1) 0).getD b 0 = 0
   rw [List.getD_eq_getElem?_getD,List.getElem?_replicate]
   split <;> rfl
  ·rfl
end Go.Art
namespace Go.Art
open Go Go.Proofs Go.RowKit
theorem rat01 {p:Rat} (h0:0 ≤ p) (h1:p ≤ 1):p.num.natAbs ≤ p.den∧((p.num.natAbs:Nat):Rat) / (p.den:Rat) = p:=by
 have e:(p.num:Rat) / (p.den:Rat) = p:=by rw [← Rat.mkRat_eq_div,Rat.mkRat_self]
 have e3:((p.num.natAbs:Nat):Rat) = (p.num:Rat):=by
  rw [← Rat.intCast_natCast,Int.natAbs_of_nonneg (Rat.num_nonneg.2 h0)]
 rw [← e3] at e
 refine ⟨?_,e⟩
 have hd:(0:Rat) < (p.den:Rat):=by
  have h2:=(FrQ.nat p.den).nonneg
  have h3:=nz p.den_nz
  grind
 rw [← e] at h1
 exact Rat.natCast_le_natCast.1 (div_le1 hd h1)
attribute [local irreducible] Fit pt own ro vw mpc lpt vels rels mow lrc dfr
attribute [local irreducible] lmp lme mit velg relg bnd owl dfrl evI solE shareN firP
abbrev LvO (n:Nat) (l:List Rat) (u:Value) (D:List Ch):Prop:=∃ (v dv:Value) (G:GS n) (W:Nat),u = .agg #[v,dv]∧v.oneCell' = true∧dv.oneCell' = true∧W ≠ 0∧MR n W G.get l∧D = [mxP v G,own T64 dv (Us (dg W))]
theorem Rfirst_tr (tv:Value) (t:List Int) (k n:Nat) (hz:solE t k = 0) (hk:k ≤ 40) (hl:t.length ≤ 12) (hn:n ≤ 12):Tr Tryz.prog 110 [tv,I k,I n] [vw tv (Is t)] []
  fun u D=>∃ (v dv:Value) (G:GS n),u = .agg #[v,dv]∧v.oneCell' = true∧dv.oneCell' = true∧MR n ((pT t k).den ^ n) G.get (firstR (pT t k) n)∧D = [mxP v G,own T64 dv (Us (dg ((pT t k).den ^ n)))]:=by
 have hk1:=(solE_zero hz).1
 have hI:=RIn24_tr tv t k k 1 hz hk hl (Nat.le_refl k) (by omega)
 have hpF:FB (pT t k) 12:=evI_FB hz hk hl (Nat.le_refl k) (Nat.le_refl _)
 have hCh:=pT_ch hz
 obtain ⟨hup,hpq⟩:=rat01 hCh.fr.nonneg hCh.le
 rw [show evI t.length k (omg t k) k 1 = pT t k from rfl] at hI
 have hden:=(pT t k).den_nz
 have hPw:=fun v=>Rpow_tr v (pT t k).den n hpF.2 hn
 have hE:=fun o ho=>Rempty_tr o ho n hn
 have hSh:=fun a b r (hr:r ≤ n)=>Rshare_tr a b n r (pT t k).num.natAbs (pT t k).den n hr (Nat.le_refl n) hn hup hpF.2
 have hsq:=fun r (hr:r ≤ n)=>shareN_q (up:=(pT t k).num.natAbs) (F:=(pT t k).den) (m:=n) (s:=r) (all:=n) hden hup hr (Nat.le_refl n)
 simp only [hpq] at hsq
 clear hz hCh hpq hpF
 generalize pT t k = p at *
 rw [← firP_all]
 obtain ⟨W,hW⟩ : ∃ W,W = p.den ^ n:=⟨_,rfl⟩
 rw [← hW] at hPw hsq ⊢
 unfold FQ2 at hI
 clear hW hup
 refine Tr.enter env _ Tryz.func110 (by kernel_rfl) rfl Tryz.ntmps110 rfl (by repeat (first | exact has00 | refine has01 ?_)) fun w0=>?_
 repeat' first|(refine gca ?_;first|(refine ca hI ?_;rintro _ _ ⟨n1,d1,rfl,hn1,hd1,rfl⟩)|(refine ca (hPw d1) ?_;rintro o _ ⟨ho,rfl⟩)|(refine ca (hE o ho) ?_;rintro _ _ ⟨v,G0,rfl,hv,hG0,rfl⟩))|refine al fun c=>?_|refine srz ?_|(refine wo ?_;first|refine oa ?_|refine ld ?_)|refine sq ?_|refine rg ?_|refine xc ?_|refine nl ?_|refine bk ?_
 rename_i c6 c7
 clear hI hPw hE
 refine TC.loop (ι:=FiH n) (fun g=>[(10,I g.r)]) (fun g=>[mxP v g.G]) (fun g=>g.r ≤ n + 1∧MR n W g.G.get (firP p n g.r)) (fun g=>n + 1 - g.r) ⟨0,G0⟩ [0,1,2,6,7,9] ⟨Nat.zero_le _,by dsimp only;rw [firP_zero];exact MR.zero n W fun i j _ _=>hG0 i j⟩ ?_
 clear hG0
 rintro ⟨r,G⟩ ⟨hr,hG⟩
 dsimp only at hr hG ⊢
 by_cases hlt:r < n + 1
 rotate_left
 ·obtain rfl:r = n + 1:=by omega
  repeat' first|refine lda ?_|refine srz ?_|(refine wo ?_;first|(refine ao ?_;first|refine oa ?_)|refine oa ?_)|(refine gc ?_;first|(refine ci (fun hB=>?_) (fun hB=>?_) <;> try (exfalso;omega)))|refine sq ?_|refine rg ?_|refine xc ?_|refine nl ?_|refine xe ?_|refine rt ?_
  exact rca1 (cs:=[v,o]) (vs:=[v,o]) (T:=TLv) ⟨v,o,G,rfl,hv,ho,hG,rfl⟩
 have hS1:=hSh n1 d1 r (by omega)
 have hnr:n - r < n + 1:=by omega
 have hput:=fun o2=>GM.get_put G hnr (show r < n + 1 by omega) o2 (shareN n r p.num.natAbs p.den n)
 have hMR:=fun o2=>hG.put (i:=n - r) (j:=r) (by omega) (by omega) (hput o2) (hsq r (by omega))
 simp only [← firP_succ] at hMR
 have hnri:(n:Int) - r = ((n - r:Nat):Int):=by omega
 clear hput hG hsq hSh
 generalize shareN n r p.num.natAbs p.den n = q at *
 obtain ⟨m,hm⟩ : ∃ m,m = n - r:=⟨_,rfl⟩
 rw [← hm] at hnr hnri
 simp only [← hm] at hMR
 repeat' first|(refine wo ?_;first|(refine ao ?_;first|refine oa ?_)|refine oa ?_)|(refine gc ?_;first|(refine ci (fun hB=>?_) (fun hB=>?_) <;> try (exfalso;omega)))|refine sq ?_|refine rg ?_|refine xc ?_|refine nl ?_|refine sk ?_|refine bk ?_
 refine rs (fun w=>w.heap[c]? = some (.cells [v,o].toArray TLv (0,0))∧w.heap[c7]? = some (.cells (rrow p (n1,d1)).toArray TRt (0,0))∧Sl w v G.h∧∃ xs,xs.length = n + 1∧Sl w (G.h.getD m nS) xs) ?_ (fun w hw=>⟨pt_at memA hw,pt_at memA hw,vm_hw (has_vmx memA) hw,vm_rw (has_vmx memA) hw hnr⟩)
 refine tka 0 ?_
 refine tkl 1 (cs:=[v,o]) (fun w h=>h.1) ?_
 refine tka 2 ?_
 refine tka 3 ?_
 refine tkw 4 ((m:Nat):Int) ?_
 refine tk 5 (v:=.pointer (some (addrAt v m))) (fun w h=>R_idx (E:=env) (i:=(m:Int)) rfl rfl rfl rfl h.2.2.1 ⟨by omega,by rw [G.hl];omega⟩) ?_
 refine tk 6 (v:=G.h.getD m nS) (fun w h=>R_load (E:=env) rfl rfl rfl (h.2.2.1.cell (gm_h hnr))) ?_
 refine tka 7 ?_
 refine tka 8 ?_
 refine tka 9 ?_
 refine tka 10 ?_
 refine tka 11 ?_
 refine tkl 12 (cs:=rrow p (n1,d1)) (fun w h=>h.2.1) ?_
 refine tka 13 ?_
 refine tkl 14 (cs:=rrow p (n1,d1)) (fun w h=>h.2.1) ?_
 refine tka 15 ?_
 refine t1 16 ?_
 refine ca hS1 ?_
 rintro o2 _ ⟨ho2,rfl⟩
 refine nl ?_
 refine te (fun w hw=>⟨pt_at memA hw,pt_at memA hw,vm_hw (has_vmx memA) hw,vm_rw (has_vmx memA) hw hnr⟩) ?_
 refine tk 17 (v:=.pointer (some (addrAt (G.h.getD m nS) r))) (fun w h=>h.2.2.2.elim fun xs hx=>R_idx (E:=env) (i:=(r:Int)) rfl rfl rfl rfl hx.2 ⟨by omega,by rw [hx.1];omega⟩) ?_
 refine t1 18 ?_
 refine smx (G:=G) (v:=v) (i:=m) (j:=r) (o:=o2) (q:=q) ?_ fitA hnr hlt ho2
 refine nl ?_
 refine te (fun w hw=>⟨pt_at memA hw,pt_at memA hw,vm_hw (has_vmx memA) hw,vm_rw (has_vmx memA) hw hnr⟩) ?_
 refine t0 ?_
 repeat' first|(refine wo ?_;first|(refine ao ?_;first|refine aw ?_)|refine oa ?_)|refine rg ?_|refine xc ?_|refine nl ?_|refine xb ?_
 exact lp ⟨r + 1,G.put m r o2 q⟩ ⟨hlt,hMR o2⟩
end Go.Art
namespace Go.Art
open Go Go.Proofs Go.RowKit
def opg (b:Bool) (gv:Value) (g:Nat):Ch:=match b with
 | true=>own T64 gv (Us (dg g))
 | false=>bnd []
theorem opg_in {gv:Value} {g:Nat} {A F:List Ch} (hf:Fit A [own T64 gv (Us (dg g))] F):Im A (opg true gv g :: F):=hf
theorem opg_none {gv:Value} {g:Nat} (A:List Ch):Im A (opg false gv g :: A):=bnd_nil A
theorem has_opg {F:List Ch} {b:Bool} {gv dv:Value} {g W:Nat} (h:opg b gv g ∈ F) (h2:own T64 dv (Us (dg W)) ∈ F) (hb:b = false→gv = dv∧g = W):Has F (vw gv (Us (dg g))):=by
 cases b with
 | true=>exact has_own (e:=T64) h
 | false=>obtain ⟨rfl,rfl⟩:=hb rfl;exact has_own (e:=T64) h2
theorem Us_pos {x:Nat} (h:x ≠ 0):0 < (Us (dg x)).length:=by rw [Us_len];exact dg_len_pos h
theorem Us_none {x:Nat} (h:x = 0):(Us (dg x)).length = 0:=by rw [Us_len,h,dg_zero];rfl
structure LoA where
 c:Nat
 b:Bool
 gv:Value
 g:Nat
structure LoB (n:Nat) where
 c:Nat
 G:GS n
attribute [local irreducible] Fit pt own ro vw mpc lpt vels rels mow lrc dfr
attribute [local irreducible] lmp lme mit velg relg bnd owl dfrl evI solE opg
set_option maxHeartbeats 2000000 in
theorem Rlow25_tr (v dv:Value) (hv:v.oneCell' = true) (hdv:dv.oneCell' = true) (n:Nat) (hn:n ≤ 12) (G:GS n) (W:Nat) (hW:W ≠ 0) (hWl:(dg W).length ≤ 262144) (hGl:∀ i j,i ≤ n→j ≤ n→(dg (G.get i j)).length ≤ 262144) :
  Tr Tryz.prog 179 [.agg #[v,dv],I n] [] [mxP v G,own T64 dv (Us (dg W))] fun u D=>∃ (dv':Value) (G':GS n) (g:Nat),u = .agg #[v,dv']∧dv'.oneCell' = true∧g ≠ 0∧g ∣ W∧(∀ i j,i ≤ n→j ≤ n→g ∣ G.get i j∧G'.get i j = G.get i j / g)∧D = [mxP v G',own T64 dv' (Us (dg (W / g)))]:=by
 refine Tr.enter env _ Tryz.func179 (by kernel_rfl) rfl Tryz.ntmps179 rfl (by repeat (first | exact has00 | refine has01 ?_)) fun w0=>?_
 repeat' first|refine bx fun c2=>?_|refine al fun c4=>?_|(refine wo ?_;first|refine oa ?_|refine ld ?_)|refine sq ?_|refine rg ?_|refine xc ?_|refine nl ?_|refine bk ?_
 refine TC.im (opg_none (gv:=dv) (g:=W) _) ?_
 refine TC.loop (ι:=LoA) (fun g=>[(6,I g.c),(5,g.gv)]) (fun g=>[opg g.b g.gv g.g]) (fun g=>g.c ≤ n + 1∧g.gv.oneCell' = true∧(g.g ≠ 0∧g.g ∣ W)∧(∀ i j,i < g.c→j ≤ n→g.g ∣ G.get i j)∧(g.b = false→g.gv = dv∧g.g = W)) (fun g=>n + 1 - g.c) ⟨0,false,dv,W⟩ [1,2,4] ⟨Nat.zero_le _,hdv,⟨hW,Nat.dvd_refl W⟩,fun i j h=>absurd h (Nat.not_lt_zero i),fun _=>⟨rfl,rfl⟩⟩ ?_
 rintro ⟨c,b,gv,g⟩ ⟨hc,hgv,⟨hg0,hgW⟩,hgG,hbf⟩
 dsimp only at hc hgv hg0 hgW hgG hbf ⊢
 by_cases hct:c < n + 1
 ·repeat' first|(refine wo ?_;first|(refine ao ?_;first|refine oa ?_)|refine oa ?_)|(refine gc ?_;first|(refine ci (fun hB=>?_) (fun hB=>?_) <;> try (exfalso;omega)))|refine sq ?_|refine rg ?_|refine xc ?_|refine nl ?_|refine sk ?_|refine bk ?_
  refine TC.loop (ι:=LoA) (fun g=>[(7,I g.c),(5,g.gv)]) (fun g=>[opg g.b g.gv g.g]) (fun g=>g.c ≤ n + 1∧g.gv.oneCell' = true∧(g.g ≠ 0∧g.g ∣ W)∧(∀ i j,(i < c∧j ≤ n)∨(i = c∧j < g.c)→g.g ∣ G.get i j)∧(g.b = false→g.gv = dv∧g.g = W)) (fun g=>n + 1 - g.c) ⟨0,b,gv,g⟩ [1,2,4,6] ⟨Nat.zero_le _,hgv,⟨hg0,hgW⟩,fun i j h=>by
   rcases h with h | h
   ·exact hgG i j h.1 h.2
   ·exact absurd h.2 (Nat.not_lt_zero j),hbf⟩ ?_
  clear hgv hg0 hgW hgG hbf
  rintro ⟨r,b,gv,g⟩ ⟨hr,hgv,⟨hg0,hgW⟩,hgG,hbf⟩
  dsimp only at hr hgv hg0 hgW hgG hbf ⊢
  by_cases hrt:r < n + 1
  ·have hgl:=hGl c r (by omega) (by omega)
   have hggl:(dg g).length ≤ 262144:=Nat.le_trans (dg_mono (Nat.le_of_dvd (Nat.pos_of_ne_zero hW) hgW)) hWl
   have hGc:=RGcd_tr ((G.c.getD c []).getD r nS) gv (dg (G.get c r)) (dg g) (Dg_dg _) (Dg_dg _) hgl hggl
   rw [nv_dg,nv_dg] at hGc
   by_cases hx:G.get c r = 0
   ·have hln:=Us_none hx
    clear hGl hGc hgl hggl
    repeat' first|refine ixn (i:=c) (xs:=G.h) ?_ (hh:=vm_h (has_vmx memA)) (hb:=by rw [G.hl];omega)|refine le (xs:=G.h) ?_ (hh:=vm_h (has_vmx memA)) (hj:=gm_h hct)|refine ixn (i:=r) (xs:=G.c.getD c []) ?_ (hh:=vm_r (has_vmx memA) hct) (hb:=by rw [G.cc c hct];omega)|refine le (xs:=G.c.getD c []) ?_ (hh:=vm_r (has_vmx memA) hct) (hj:=gm_c hct hrt)|(refine ln (xs:=Us (dg (G.get c r))) ?_ (hh:=vm_c (has_vmx memA) hct hrt);rw [hln])|(refine wo ?_;first|(refine ao ?_;first|refine aw ?_|refine oa ?_)|refine oa ?_|refine ld ?_)|(refine gc ?_;first|refine cf ?_|(refine ci (fun hB=>?_) (fun hB=>?_) <;> try (exfalso;omega)))|refine sq ?_|refine rg ?_|refine xc ?_|refine nl ?_|refine sk ?_|refine bk ?_|refine xb ?_
    exact lp ⟨r + 1,b,gv,g⟩ ⟨hrt,hgv,⟨hg0,hgW⟩,fun i j h=>by
     dsimp only at h
     by_cases e:i = c∧j = r
     ·rw [e.1,e.2,hx];exact Nat.dvd_zero g
     ·exact hgG i j (by omega),hbf⟩
   ·have hln:=Us_pos hx
    obtain ⟨m,hm⟩ : ∃ m:Nat,(Us (dg (G.get c r))).length = m + 1:=⟨(Us (dg (G.get c r))).length - 1,by omega⟩
    obtain ⟨g2,hg2⟩ : ∃ g2,g2 = Nat.gcd (G.get c r) g:=⟨_,rfl⟩
    have e1:g2 ∣ g:=by rw [hg2];exact Nat.gcd_dvd_right _ _
    have e2:g2 ∣ G.get c r:=by rw [hg2];exact Nat.gcd_dvd_left _ _
    have e0:g2 ≠ 0:=by rw [hg2];exact Nat.ne_of_gt (Nat.gcd_pos_of_pos_right _ (Nat.pos_of_ne_zero hg0))
    rw [← hg2] at hGc
    clear hGl hgl hggl hln hg2
    repeat' first|(refine gca ?_;first|(refine ca hGc ?_ (hp:=has1 (vm_c (has_vmx memA) hct hrt) (has1 (has_opg memA memA hbf) has0));rintro gw _ ⟨hgw,rfl⟩))|refine ixn (i:=c) (xs:=G.h) ?_ (hh:=vm_h (has_vmx memA)) (hb:=by rw [G.hl];omega)|refine le (xs:=G.h) ?_ (hh:=vm_h (has_vmx memA)) (hj:=gm_h hct)|refine ixn (i:=r) (xs:=G.c.getD c []) ?_ (hh:=vm_r (has_vmx memA) hct) (hb:=by rw [G.cc c hct];omega)|refine le (xs:=G.c.getD c []) ?_ (hh:=vm_r (has_vmx memA) hct) (hj:=gm_c hct hrt)|(refine ln (xs:=Us (dg (G.get c r))) ?_ (hh:=vm_c (has_vmx memA) hct hrt);rw [hm])|(refine wo ?_;first|(refine ao ?_;first|refine aw ?_|refine oa ?_)|refine oa ?_|refine ld ?_)|(refine gc ?_;first|(refine ci (fun hB=>?_) (fun hB=>?_) <;> try (exfalso;omega)))|refine sq ?_|refine rg ?_|refine xc ?_|refine nl ?_|refine sk ?_|refine bk ?_|refine xb ?_
    refine TX.im (opg_in fitA) ?_
    exact lp ⟨r + 1,true,gw,g2⟩ ⟨hrt,hgw,⟨e0,Nat.dvd_trans e1 hgW⟩,fun i j h=>by
     dsimp only at h ⊢
     by_cases e:i = c∧j = r
     ·rw [e.1,e.2];exact e2
     ·exact Nat.dvd_trans e1 (hgG i j (by omega)),fun h=>by cases h⟩
  ·obtain rfl:r = n + 1:=by omega
   repeat' first|(refine wo ?_;first|(refine ao ?_;first|refine aw ?_|refine oa ?_)|refine oa ?_)|(refine gc ?_;first|(refine ci (fun hB=>?_) (fun hB=>?_) <;> try (exfalso;omega)))|refine sq ?_|refine rg ?_|refine xc ?_|refine nl ?_|refine xe ?_|refine xb ?_
   exact lp ⟨c + 1,b,gv,g⟩ ⟨hct,hgv,⟨hg0,hgW⟩,fun i j h hj=>hgG i j (by dsimp only at h;omega),hbf⟩
 obtain rfl:c = n + 1:=by omega
 clear hct hc
 have hgG2:=fun i j (hi:i ≤ n) (hj:j ≤ n)=>hgG i j (by omega) hj
 have hggl:(dg g).length ≤ 262144:=Nat.le_trans (dg_mono (Nat.le_of_dvd (Nat.pos_of_ne_zero hW) hgW)) hWl
 have hDv:=fun cell x (hx:(dg x).length ≤ 262144)=>RDiv_tr cell gv (dg x) (dg g) (Dg_dg _) (Dg_dg _) (by omega) (by omega) (by rw [nv_dg];exact hg0)
 simp only [nv_dg] at hDv
 unfold DivR at hDv
 have hDW:=hDv dv W hWl
 clear hgG
 repeat' first|(refine wo ?_;first|(refine ao ?_;first|refine oa ?_)|refine oa ?_)|(refine gc ?_;first|(refine ci (fun hB=>?_) (fun hB=>?_) <;> try (exfalso;omega)))|refine sq ?_|refine rg ?_|refine xc ?_|refine nl ?_|refine bk ?_|refine xe ?_
 refine TC.loop (ι:=LoB n) (fun g=>[(8,I g.c)]) (fun g=>[mxP v g.G]) (fun q=>q.c ≤ n + 1∧∀ i j,i ≤ n→j ≤ n→q.G.get i j = if i < q.c then G.get i j / g else G.get i j) (fun g=>n + 1 - g.c) ⟨0,G⟩ [1,2,4,5] ⟨Nat.zero_le _,fun i j _ _=>by rw [if_neg (Nat.not_lt_zero i)]⟩ ?_
 rintro ⟨c,G2⟩ ⟨hc,hG2⟩
 dsimp only at hc hG2 ⊢
 by_cases hct:c < n + 1
 rotate_left
 ·obtain rfl:c = n + 1:=by omega
  generalize hWg:W / g = wg at *
  clear hDv hGl
  repeat' first|(refine gca ?_;first|(refine ca hDW ?_ (hp:=has1 hasA (has1 (has_opg memA memA hbf) has0));rintro _ _ ⟨qv,rv',rfl,hqv,hrv,rfl⟩))|refine lda ?_|refine srz ?_|(refine wo ?_;first|(refine ao ?_;first|refine oa ?_)|refine oa ?_|refine ld ?_|refine sr ?_)|(refine gc ?_;first|(refine ci (fun hB=>?_) (fun hB=>?_) <;> try (exfalso;omega)))|refine sq ?_|refine rg ?_|refine xc ?_|refine nl ?_|refine xe ?_|refine rt ?_
  exact rca1 (cs:=[v,qv]) (vs:=[v,qv]) (T:=TLv) ⟨qv,G2,g,rfl,hqv,hg0,hgW,fun i j hi hj=>⟨hgG2 i j hi hj,by rw [hG2 i j hi hj,if_pos (by omega)]⟩,by rw [hWg]⟩
 repeat' first|(refine wo ?_;first|(refine ao ?_;first|refine oa ?_)|refine oa ?_)|(refine gc ?_;first|(refine ci (fun hB=>?_) (fun hB=>?_) <;> try (exfalso;omega)))|refine sq ?_|refine rg ?_|refine xc ?_|refine nl ?_|refine sk ?_|refine bk ?_
 refine TC.loop (ι:=LoB n) (fun g=>[(9,I g.c)]) (fun g=>[mxP v g.G]) (fun q=>q.c ≤ n + 1∧∀ i j,i ≤ n→j ≤ n→q.G.get i j = if i < c∨(i = c∧j < q.c) then G.get i j / g else G.get i j) (fun g=>n + 1 - g.c) ⟨0,G2⟩ [1,2,4,5,8] ⟨Nat.zero_le _,fun i j hi hj=>by
  rw [hG2 i j hi hj]
  exact ifc (by dsimp only;omega) _ _⟩ ?_
 clear hG2
 rintro ⟨r,G2⟩ ⟨hr,hG2⟩
 dsimp only at hr hG2 ⊢
 by_cases hrt:r < n + 1
 rotate_left
 ·obtain rfl:r = n + 1:=by omega
  repeat' first|(refine wo ?_;first|(refine ao ?_;first|refine aw ?_|refine oa ?_)|refine oa ?_)|(refine gc ?_;first|(refine ci (fun hB=>?_) (fun hB=>?_) <;> try (exfalso;omega)))|refine sq ?_|refine rg ?_|refine xc ?_|refine nl ?_|refine xe ?_|refine xb ?_
  exact lp ⟨c + 1,G2⟩ ⟨hct,fun i j hi hj=>by
   rw [hG2 i j hi hj]
   exact ifc (by dsimp only;omega) _ _⟩
 have hcur:G2.get c r = G.get c r:=by rw [hG2 c r (by omega) (by omega),if_neg (by omega)]
 have hD1:=hDv ((G2.c.getD c []).getD r nS) (G2.get c r) (by rw [hcur];exact hGl c r (by omega) (by omega))
 have hput:=fun o=>GM.get_put G2 hct hrt o (G2.get c r / g)
 obtain ⟨q,hq⟩ : ∃ q,q = G2.get c r / g:=⟨_,rfl⟩
 rw [← hq] at hD1
 simp only [← hq] at hput
 have hqG:q = G.get c r / g:=by rw [hq,hcur]
 clear hDv hGl hDW hcur hq
 repeat' first|(refine wo ?_;first|(refine ao ?_;first|refine oa ?_)|refine oa ?_)|(refine gc ?_;first|(refine ci (fun hB=>?_) (fun hB=>?_) <;> try (exfalso;omega)))|refine sq ?_|refine rg ?_|refine xc ?_|refine nl ?_|refine sk ?_|refine bk ?_
 refine rs (fun w=>w.heap[c2]? = some (.cells [v,dv].toArray TLv (0,0))∧Sl w v G2.h∧∃ xs,xs.length = n + 1∧Sl w (G2.h.getD c nS) xs) ?_ (fun w hw=>⟨pt_at memA hw,vm_hw (has_vmx memA) hw,vm_rw (has_vmx memA) hw hct⟩)
 refine tka 0 ?_
 refine tkl 1 (cs:=[v,dv]) (fun w h=>h.1) ?_
 refine tka 2 ?_
 refine tk 3 (v:=.pointer (some (addrAt v c))) (fun w h=>R_idx (E:=env) (i:=(c:Int)) rfl rfl rfl rfl h.2.1 ⟨by omega,by rw [G2.hl];omega⟩) ?_
 refine tk 4 (v:=G2.h.getD c nS) (fun w h=>R_load (E:=env) rfl rfl rfl (h.2.1.cell (gm_h hct))) ?_
 refine tka 5 ?_
 refine tka 6 ?_
 refine tkl 7 (cs:=[v,dv]) (fun w h=>h.1) ?_
 refine tka 8 ?_
 refine tk 9 (v:=.pointer (some (addrAt v c))) (fun w h=>R_idx (E:=env) (i:=(c:Int)) rfl rfl rfl rfl h.2.1 ⟨by omega,by rw [G2.hl];omega⟩) ?_
 refine tk 10 (v:=G2.h.getD c nS) (fun w h=>R_load (E:=env) rfl rfl rfl (h.2.1.cell (gm_h hct))) ?_
 refine tka 11 ?_
 refine tk 12 (v:=.pointer (some (addrAt (G2.h.getD c nS) r))) (fun w h=>h.2.2.elim fun xs hx=>R_idx (E:=env) (i:=(r:Int)) rfl rfl rfl rfl hx.2 ⟨by omega,by rw [hx.1];omega⟩) ?_
 refine tka 14 ?_
 refine t1 13 ?_
 refine le (xs:=G2.c.getD c []) ?_ (hh:=vm_r (has_vmx memA) hct) (hj:=gm_c hct hrt)
 refine nl ?_
 refine te (fun w hw=>⟨pt_at memA hw,vm_hw (has_vmx memA) hw,vm_rw (has_vmx memA) hw hct⟩) ?_
 refine t1 15 ?_
 refine ca hD1 ?_ (hp:=has1 (vm_c (has_vmx memA) hct hrt) (has1 (has_opg memA memA hbf) has0))
 rintro _ _ ⟨qv,rv',rfl,hqv,hrv,rfl⟩
 refine nl ?_
 refine te (fun w hw=>⟨pt_at memA hw,vm_hw (has_vmx memA) hw,vm_rw (has_vmx memA) hw hct⟩) ?_
 refine tka 16 ?_
 refine tka 17 ?_
 refine tka 18 ?_
 refine tka 19 ?_
 refine tk 20 (v:=.pointer (some (addrAt (G2.h.getD c nS) r))) (fun w h=>h.2.2.elim fun xs hx=>R_idx (E:=env) (i:=(r:Int)) rfl rfl rfl rfl hx.2 ⟨by omega,by rw [hx.1];omega⟩) ?_
 refine t1 21 ?_
 refine smx (G:=G2) (v:=v) (i:=c) (j:=r) (o:=qv) (q:=q) ?_ fitA hct hrt hqv
 refine nl ?_
 refine te (fun w hw=>⟨pt_at memA hw,vm_hw (has_vmx memA) hw,vm_rw (has_vmx memA) hw hct⟩) ?_
 refine t0 ?_
 repeat' first|(refine wo ?_;first|(refine ao ?_;first|refine aw ?_)|refine oa ?_)|refine rg ?_|refine xc ?_|refine nl ?_|refine xb ?_
 refine lp ⟨r + 1,G2.put c r qv q⟩ ⟨hrt,fun i j hi hj=>?_⟩
 dsimp only
 rw [hput]
 by_cases e:i = c∧j = r
 ·rw [if_pos e,if_pos (by omega),e.1,e.2];exact hqG
 ·rw [if_neg e,hG2 i j hi hj];exact ifc (by omega) _ _
end Go.Art
namespace Go.Art
open Go Go.Proofs Go.RowKit
theorem vm_sh {N:Nat} {C:Nat→Nat} {v:Value} {G:GM N C} {F:List Ch} {w:World} (h:Has F (vmx v G)) (hw:Sat F w):Sl w v G.h:=(vm_h h).P w hw
theorem vm_sr {N:Nat} {C:Nat→Nat} {v:Value} {G:GM N C} {F:List Ch} {w:World} {i:Nat} (h:Has F (vmx v G)) (hi:i < N) (hw:Sat F w):Sl w (G.h.getD i nS) (G.c.getD i []):=(vm_r h hi).P w hw
theorem addAt_null (l:List Rat) (j:Nat):addAt l j 0 = l:=by
 unfold addAt
 rw [Rat.add_zero]
 refine List.ext_getElem (by simp) fun i h1 h2=>?_
 rw [List.getElem_set]
 split
 ·rename_i e;subst e;simp [List.getD_eq_getElem?_getD,h2]
 ·rfl
theorem outB_null {n:Nat} {f g y:Rat} {c r a:Nat} (l:List Rat) (h:shar f c a = 0):∀ b,outB n f g y c r a l b = l
 | 0=>rfl
 | b + 1=>by rw [outB_step,outB_null l h b,h,Rat.mul_zero,Rat.zero_mul,addAt_null]
theorem pl_div {n c r:Nat} (hr:r ≤ n):(c * (n + 1) + r) / (n + 1) = c:=by rw [Nat.mul_comm,Nat.mul_add_div (by omega),Nat.div_eq_of_lt (by omega),Nat.add_zero]
theorem pl_mod {n c r:Nat} (hr:r ≤ n):(c * (n + 1) + r) % (n + 1) = r:=by rw [Nat.mul_comm,Nat.mul_add_mod,Nat.mod_eq_of_lt (by omega)]
theorem MR.lv {n W:Nat} {X:Nat→Nat→Nat} {l:List Rat} (h:MR n W X l) (hW:W ≠ 0):Lv n W l:=⟨h.len,fun i hi=>by
 have h1:i / (n + 1) ≤ n:=Nat.le_of_lt_succ ((Nat.div_lt_iff_lt_mul (by omega)).2 hi)
 have h2:i % (n + 1) ≤ n:=Nat.le_of_lt_succ (Nat.mod_lt _ (by omega))
 have h3:=h.eq _ _ h1 h2
 rw [show i / (n + 1) * (n + 1) + i % (n + 1) = i by rw [Nat.mul_comm];exact Nat.div_add_mod i (n + 1)] at h3
 have h4:=nz hW
 exact ⟨X (i / (n + 1)) (i % (n + 1)),by rw [h3];grind⟩⟩
theorem MR.le {n D E:Nat} {g:Nat→Nat→Nat} {l:List Rat} (h:MR n D g l) (hl:Lv n E l) (ht:tot n l ≤ 1) {i j:Nat} (hi:i ≤ n) (hj:j ≤ n):g i j ≤ D:=by
 have h1:=h.eq i j hi hj
 have h2:=Rat.le_trans (hl.le_tot (pl_lt hi hj)) ht
 have h3:=Rat.mul_le_mul_of_nonneg_left h2 (FrQ.nat D).nonneg
 rw [← h1,Rat.mul_one] at h3
 exact Rat.natCast_le_natCast.1 h3
structure NxL (n D u:Nat) (f:Rat) (l:List Rat) (X A B:Nat→Nat→Nat) (oN:Nat→List Rat) (oA:Nat→Nat→Nat→List Rat) (oB:Nat→Nat→Nat→Nat→List Rat):Prop where
 zero:oN 0 = List.replicate ((n + 1) * (n + 1)) 0
 fst:∀ c,oN (c * (n + 1) + 1) = oN (c * (n + 1))
 lst:∀ c,c ≤ n→oN (c * (n + 1) + (n + 1 - c)) = oN ((c + 1) * (n + 1))
 none:∀ c r,c + r ≤ n→1 ≤ r→X c r = 0→oN (c * (n + 1) + (r + 1)) = oN (c * (n + 1) + r)
 a0:∀ c r,oA c r 0 = oN (c * (n + 1) + r)
 a1:∀ c r,c + r ≤ n→1 ≤ r→X c r ≠ 0→oN (c * (n + 1) + (r + 1)) = oA c r (c + 1)
 b0:∀ c r a,oB c r a 0 = oA c r a
 b1:∀ c r a,oA c r (a + 1) = oB c r a r
 step:∀ c r a b,c + r ≤ n→1 ≤ r→a ≤ c→b < r→∀ g g',MR n D g (oB c r a b)→(∀ x y,g' x y = if x = c - a∧y = r - 1 - b + a then g (c - a) (r - 1 - b + a) + X c r * A c a * B (r - 1) b else g x y)→MR n D g' (oB c r a (b + 1))
 bnd:∀ c r a b,c + r ≤ n→1 ≤ r→X c r ≠ 0→a ≤ c→b ≤ r→∀ g,MR n D g (oB c r a b)→∀ i j,i ≤ n→j ≤ n→g i j ≤ D
 all:oN ((n + 1) * (n + 1)) = nextR f (1 / (u:Rat)) n l
 fin:∀ g,MR n D g (nextR f (1 / (u:Rat)) n l)→∀ i j,i ≤ n→j ≤ n→g i j ≤ D
theorem outN_runs {n:Nat} {f g:Rat} {x:List Rat} {a:Nat}:∀ m,(∀ i,a ≤ i→i < a + m→i % (n + 1) = 0∨x.getD i 0 = 0)→outN n f g x (a + m) = outN n f g x a
 | 0,_=>rfl
 | m + 1,h=>by
  rw [← Nat.add_assoc,outN_skip (h (a + m) (by omega) (by omega)),outN_runs m fun i h1 h2=>h i h1 (by omega)]
theorem next_pack {n W F up u:Nat} {f:Rat} {l:List Rat} {X:Nat→Nat→Nat} (hX:MR n W X l) (hW:W ≠ 0) (hs:Supp n l) (ht:tot n l ≤ 1) (hF:F ≠ 0) (hup:up ≤ F) (hf:(up:Rat) / (F:Rat) = f) (hu:1 ≤ u) :
  ∃ oN oA oB,NxL n (W * (F ^ n * u ^ n)) u f l X (fun c a=>shareN c a up F n) (fun c a=>shareN c a 1 u n) oN oA oB:=by
 have hlv:=hX.lv hW
 have hfc:Ch01 F f:=⟨⟨up,hf.symm⟩,by
  rw [← hf]
  have h1:=nz hF
  have h2:=(FrQ.nat F).nonneg
  exact le_div1 (by grind) (Rat.natCast_le_natCast.2 hup),hF⟩
 have hgc:Ch01 u (1 / (u:Rat)):=one_over (by omega)
 have hne:=nz hW
 have h0:∀ c r,c ≤ n→r ≤ n→(X c r = 0 ↔ l.getD (c * (n + 1) + r) 0 = 0):=fun c r hc hr=>by
  have h1:=hX.eq c r hc hr
  constructor
  ·intro e
   rw [e,show ((0:Nat):Rat) = 0 from rfl] at h1
   rcases Rat.mul_eq_zero.1 h1.symm with h | h
   ·exact absurd h hne
   ·exact h
  ·intro e
   rw [e,Rat.mul_zero] at h1
   exact Rat.natCast_inj.1 h1
 have hnot:∀ c r,c + r ≤ n→1 ≤ r→X c r ≠ 0→¬ ((c * (n + 1) + r) % (n + 1) = 0∨l.getD (c * (n + 1) + r) 0 = 0):=fun c r hc hr hx h=>by
  rw [pl_mod (by omega)] at h
  rcases h with h | h
  ·omega
  ·exact hx ((h0 c r (by omega) (by omega)).2 h)
 refine ⟨fun i=>outN n f (1 / (u:Rat)) l i,fun c r a=>outA n f (1 / (u:Rat)) (l.getD (c * (n + 1) + r) 0) c r (outN n f (1 / (u:Rat)) l (c * (n + 1) + r)) a,
  fun c r a b=>outB n f (1 / (u:Rat)) (l.getD (c * (n + 1) + r) 0) c r a (outA n f (1 / (u:Rat)) (l.getD (c * (n + 1) + r) 0) c r (outN n f (1 / (u:Rat)) l (c * (n + 1) + r)) a) b,?_⟩
 refine ⟨outN_zero _ _ _ _,fun c=>outN_skip (.inl ?_),fun c hc=>?_,fun c r hc hr hx=>?_,fun c r=>outA_zero _ _ _ _ _ _ _,fun c r hc hr hx=>?_,fun c r a=>outB_zero _ _ _ _ _ _ _ _,fun c r a=>?_,fun c r a b hc hr ha hb g g' hg hg'=>?_,fun c r a b hc hr hx ha hb g hg i j hi hj=>?_,outN_all _ _ _ _,fun g hg i j hi hj=>?_⟩
 ·have:=pl_mod (n:=n) (c:=c) (r:=0) (Nat.zero_le n)
  rwa [Nat.add_zero] at this
 ·have h1:(c + 1) * (n + 1) = c * (n + 1) + (n + 1 - c) + c:=by rw [Nat.succ_mul];omega
  show outN n f (1 / (u:Rat)) l (c * (n + 1) + (n + 1 - c)) = outN n f (1 / (u:Rat)) l ((c + 1) * (n + 1))
  rw [h1]
  refine (outN_runs c fun i h2 h3=>.inr ?_).symm
  obtain ⟨r,rfl⟩:=Nat.exists_eq_add_of_le (show c * (n + 1) ≤ i by omega)
  have hr:r ≤ n:=by omega
  exact hs.z _ (pl_lt hc hr) (by rw [pl_div hr,pl_mod hr];omega)
 ·exact outN_skip (.inr ((h0 c r (by omega) (by omega)).1 hx))
 ·have:=outN_step (n:=n) (f:=f) (g:=1 / (u:Rat)) (hnot c r hc hr hx)
  rw [pl_div (by omega),pl_mod (by omega)] at this
  exact this
 ·by_cases e:shar f c a = 0
  ·show outA n f _ _ c r _ (a + 1) = outB n f _ _ c r a _ r
   rw [outA_skip e,outB_null _ e]
  ·exact outA_step e
 ·show MR n _ g' (outB n f _ _ c r a _ (b + 1))
  rw [outB_step]
  refine MR.add hg (i:=c - a) (j:=r - 1 - b + a) (by omega) (by omega) hg' ?_
  have e1:=hX.eq c r (by omega) (by omega)
  have e2:=shareN_q (m:=c) (s:=a) (all:=n) hF hup ha (by omega)
  have e3:=shareN_q (m:=r - 1) (s:=b) (up:=1) (F:=u) (all:=n) (by omega) hu (by omega) (by omega)
  rw [hf] at e2
  rw [show ((1:Nat):Rat) = 1 from rfl] at e3
  rw [Rat.natCast_mul,Rat.natCast_mul,e1,e2,e3,Rat.natCast_mul,Rat.natCast_mul]
  generalize ((F ^ n:Nat):Rat) = x1
  generalize ((u ^ n:Nat):Rat) = x2
  generalize shar f c a = x3
  generalize shar (1 / (u:Rat)) (r - 1) b = x4
  generalize l.getD (c * (n + 1) + r) 0 = x5
  grind
 ·have hn:=hnot c r hc hr hx
  have hi':=pl_lt (n:=n) (i:=c) (j:=r) (by omega) (by omega)
  by_cases e:shar f c a = 0
  ·have hA:=out_okA hfc hgc hs hlv ht hi' hn (a:=a) (by rw [pl_div (by omega)];omega)
   rw [pl_div (by omega),pl_mod (by omega)] at hA
   have hg2:MR n (W * (F ^ n * u ^ n)) g (outA n f (1 / (u:Rat)) (l.getD (c * (n + 1) + r) 0) c r (outN n f (1 / (u:Rat)) l (c * (n + 1) + r)) a):=by
    have:=hg
    simp only [outB_null _ e] at this
    exact this
   exact hg2.le hA.1 hA.2 hi hj
  ·have hB:=out_okB hfc hgc hs hlv ht hi' hn (a:=a) (by rw [pl_div (by omega)];omega) (by rw [pl_div (by omega)];exact e) (b:=b) (by rw [pl_mod (by omega)];omega)
   rw [pl_div (by omega),pl_mod (by omega)] at hB
   exact MR.le hg hB.1 hB.2 hi hj
 ·have h:=out_ok hfc hgc hs hlv ht (i:=(n + 1) * (n + 1)) (Nat.le_refl _)
  rw [outN_all] at h
  exact hg.le h.1 h.2 hi hj
open Go Go.Proofs Go.RowKit
structure NxH (n:Nat) where
 c:Nat
 G:GM (n + 1) fun _=>n + 1
abbrev triC:Nat→Nat:=fun i=>i + 1
attribute [local irreducible] Fit pt own ro vw mpc lpt vels rels mow lrc dfr
attribute [local irreducible] lmp lme mit velg relg bnd owl dfrl evI solE opg shareN nextR
set_option maxHeartbeats 4000000 in
theorem Rnext25_tr (xv xd tv:Value) (t:List Int) (k n u:Nat) (hz:solE t k = 0) (hk:k ≤ 40) (hl:t.length ≤ 12) (hn:n ≤ 12) (hu1:1 ≤ u) (hu:u ≤ k) (XG:GS n) (W L:Nat) (l:List Rat) (hX:MR n W XG.get l) (hW:W ≠ 0) (hWl:(dg W).length ≤ L) (hL:L ≤ 100000) (hs:Supp n l) (ht:tot n l ≤ 1) (hxl:∀ i j,i ≤ n→j ≤ n→XG.get i j ≤ W) (hxv:xv.oneCell' = true) (hxd:xd.oneCell' = true) :
  Tr Tryz.prog 111 [.agg #[xv,xd],tv,I k,I n,I u] [vmx xv XG,vw xd (Us (dg W)),vw tv (Is t)] []
   fun r D=>∃ (v dv:Value) (G:GS n) (W':Nat),r = .agg #[v,dv]∧v.oneCell' = true∧dv.oneCell' = true∧W' ≠ 0∧(dg W').length ≤ L + 160∧MR n W' G.get (nextR (fT t k u) (1 / (u:Rat)) n l)∧(∀ i j,i ≤ n→j ≤ n→G.get i j ≤ W')∧D = [mxP v G,own T64 dv (Us (dg W'))]:=by
 have hFr:=RFree24_tr tv t k u hz hk hl hu1 hu
 have hFc:=(fT_ch hz hu1 hu).1
 have hFlt:=fT_lt hz hk hl hu1 hu
 have hFl:(dg (fT t k u).den).length ≤ 12:=Nat.le_trans ((dg_len _ _).2 hFlt) (by decide)
 obtain ⟨hup,hfq⟩:=rat01 hFc.fr.nonneg hFc.le
 have hden:=(fT t k u).den_nz
 obtain ⟨oN,oA,oB,NX⟩:=next_pack hX hW hs ht hden hup hfq hu1
 have hOf1:=ROf_tr 1 (by decide)
 have hOfu:=ROf_tr u (by omega)
 have hul:(dg u).length ≤ 12:=Nat.le_trans (dg_len1 (by omega)) (by decide)
 have hP1:=fun v=>Rpow_tr v (fT t k u).den n hFl hn
 have hP2:=fun v=>Rpow_tr v u n hul hn
 have p1:=pow_dg hFl n
 have p2:=pow_dg (dg_len1 (n:=u) (by omega)) n
 have q1:12 * n + 1 ≤ 145:=by omega
 have m1:(dg ((fT t k u).den ^ n * u ^ n)).length ≤ 158:=Nat.le_trans (dg_mul_len p1 p2) (by omega)
 have m2:(dg (W * ((fT t k u).den ^ n * u ^ n))).length ≤ L + 158:=dg_mul_len hWl m1
 have hM1:=fun a b=>RMul_tr a b (dg ((fT t k u).den ^ n)) (dg (u ^ n)) (Dg_dg _) (Dg_dg _) (by omega) (by omega)
 have hM2:=fun a b=>RMul_tr a b (dg W) (dg ((fT t k u).den ^ n * u ^ n)) (Dg_dg _) (Dg_dg _) (by omega) (by omega)
 simp only [nv_dg] at hM1 hM2
 have hE:=fun o ho=>Rempty_tr o ho n hn
 have hS1:=fun a b=>Rshares_tr a b (fT t k u).num.natAbs (fT t k u).den n hn hup hFl
 have hS2:=fun a b=>Rshares_tr a b 1 u n hn hu1 hul
 have hD0:W * ((fT t k u).den ^ n * u ^ n) ≠ 0:=Nat.mul_ne_zero hW (Nat.mul_ne_zero (Nat.ne_of_gt (Nat.pow_pos (Nat.pos_of_ne_zero hden))) (Nat.ne_of_gt (Nat.pow_pos hu1)))
 obtain ⟨Dn,hDn⟩ : ∃ Dn,Dn = W * ((fT t k u).den ^ n * u ^ n):=⟨_,rfl⟩
 rw [← hDn] at hM2 m2 hD0 NX
 unfold FQ2 at hFr
 have hshl:∀ c a,a ≤ c→c ≤ n→(dg (shareN c a (fT t k u).num.natAbs (fT t k u).den n)).length ≤ 200:=fun c a ha hc=>by
  have h1:=shareN_q (m:=c) (s:=a) (all:=n) hden hup ha hc
  rw [hfq] at h1
  have h2:=Rat.mul_le_mul_of_nonneg_left (shar_le hFc ha) (FrQ.nat ((fT t k u).den ^ n)).nonneg
  rw [← h1,Rat.mul_one] at h2
  exact Nat.le_trans (dg_mono (Rat.natCast_le_natCast.1 h2)) (Nat.le_trans p1 (by omega))
 have hshg:∀ c a,a ≤ c→c ≤ n→(dg (shareN c a 1 u n)).length ≤ 200:=fun c a ha hc=>by
  have h1:=shareN_q (m:=c) (s:=a) (up:=1) (F:=u) (all:=n) (by omega) hu1 ha hc
  have h2:=Rat.mul_le_mul_of_nonneg_left (shar_le (one_over (u:=u) (by omega)) ha) (FrQ.nat (u ^ n)).nonneg
  rw [show ((1:Nat):Rat) = 1 from rfl] at h1
  rw [← h1,Rat.mul_one] at h2
  exact Nat.le_trans (dg_mono (Rat.natCast_le_natCast.1 h2)) (Nat.le_trans p2 (by omega))
 have hxlen:∀ i j,i ≤ n→j ≤ n→(dg (XG.get i j)).length ≤ L:=fun i j hi hj=>Nat.le_trans (dg_mono (hxl i j hi hj)) hWl
 clear hz hFc hFlt hX ht hs hfq hDn hxl
 generalize fT t k u = f at *
 generalize f.den ^ n * u ^ n = e1 at *
 generalize f.den ^ n = e2 at *
 generalize u ^ n = e3 at *
 have hNf:=NX.fin
 have hNa:=NX.all
 rw [← hNa] at hNf ⊢
 refine Tr.mono (R:=fun r D=>∃ (v dv:Value) (G:GS n) (g:Nat) (H:GS n),r = .agg #[v,dv]∧v.oneCell' = true∧dv.oneCell' = true∧g ≠ 0∧g ∣ Dn∧MR n Dn H.get (oN ((n + 1) * (n + 1)))∧(∀ i j,i ≤ n→j ≤ n→g ∣ H.get i j∧G.get i j = H.get i j / g)∧D = [mxP v G,own T64 dv (Us (dg (Dn / g)))]) ?_ fun r D h=>by
  obtain ⟨v,dv,G,g,H,rfl,h1,h2,h3,h4,h5,h6,rfl⟩:=h
  obtain ⟨d,hd⟩:=h4
  have hg:Dn / g = d:=by rw [hd];exact Nat.mul_div_cancel_left d (Nat.pos_of_ne_zero h3)
  refine ⟨v,dv,G,Dn / g,rfl,h1,h2,?_,?_,?_,?_,rfl⟩
  ·rw [hg];intro e;rw [e,Nat.mul_zero] at hd;exact hD0 hd
  ·exact Nat.le_trans (dg_mono (Nat.div_le_self _ _)) (by omega)
  ·refine ⟨h5.len,fun i j hi hj=>?_⟩
   obtain ⟨⟨m,hm⟩,k2⟩:=h6 i j hi hj
   have k3:=h5.eq i j hi hj
   rw [k2,hg]
   rw [hm] at k3 ⊢
   rw [Nat.mul_div_cancel_left m (Nat.pos_of_ne_zero h3)]
   rw [hd,Rat.natCast_mul,Rat.natCast_mul] at k3
   have k4:=nz h3
   generalize (oN ((n + 1) * (n + 1))).getD (i * (n + 1) + j) 0 = z at *
   have k5:(g:Rat) * ((m:Rat) - (d:Rat) * z) = 0:=by grind
   rcases Rat.mul_eq_zero.1 k5 with k | k
   ·exact absurd k k4
   ·grind
  ·intro i j hi hj
   rw [(h6 i j hi hj).2]
   exact Nat.div_le_div_right (hNf H.get h5 i j hi hj)
 clear hNa
 have hun:(u:Int).toNat = u:=Int.toNat_natCast u
 refine Tr.enter env _ Tryz.func111 (by kernel_rfl) rfl Tryz.ntmps111 rfl (by repeat (first | exact has00 | refine has01 ?_)) fun w0=>?_
 repeat' first|(refine gca ?_;first|(refine ca hFr ?_;rintro _ _ ⟨f1,f2,rfl,hf1,hf2,rfl⟩)|(refine ca hOf1 ?_;rintro o1 _ ⟨ho1,rfl⟩)|(refine ca hOfu ?_;rintro ou _ ⟨hou,rfl⟩)|(refine ca (hP1 f2) ?_;rintro w1 _ ⟨hw1,rfl⟩)|(refine ca (hP2 ou) ?_;rintro w2 _ ⟨hw2,rfl⟩)|(refine ca (hM1 w1 w2) ?_;rintro w3 _ ⟨hw3,rfl⟩)|(refine ca (hM2 xd w3) ?_;rintro od _ ⟨hod,rfl⟩)|(refine ca (hE od hod) ?_;rintro _ _ ⟨ov,G0,rfl,hov,hG0,rfl⟩)|(refine ca (hS1 f1 f2) ?_;rintro fv _ ⟨FG,hfv,hFG,rfl⟩)|(refine ca (hS2 o1 ou) ?_;rintro gv _ ⟨OG,hgv,hOG,rfl⟩))|refine bx fun c5=>?_|refine al fun c=>?_|refine srz ?_|(refine gcv ?_;refine ntu (m:=(u:Int)) ?_;rw [hun])|(refine wo ?_;first|refine oa ?_|refine ld ?_)|refine sq ?_|refine rg ?_|refine xc ?_|refine nl ?_|refine bk ?_
 rename_i c10 c11
 clear hFr hOf1 hOfu hP1 hP2 hM1 hM2 hE hS1 hS2 p1 p2 q1 m1
 refine TC.loop (ι:=NxH n) (fun g=>[(19,I g.c)]) (fun g=>[mxP ov g.G]) (fun g=>g.c ≤ n + 1∧MR n Dn g.G.get (oN (g.c * (n + 1)))) (fun g=>n + 1 - g.c) ⟨0,G0⟩ [3,5,10,16,17,18] ⟨Nat.zero_le _,by dsimp only;rw [Nat.zero_mul,NX.zero];exact MR.zero n Dn fun i j _ _=>hG0 i j⟩ ?_
 clear hG0
 rintro ⟨cI,G⟩ ⟨hci,hG⟩
 dsimp only at hci hG ⊢
 by_cases hct:cI < n + 1
 rotate_left
 ·obtain rfl:cI = n + 1:=by omega
  have hLw:=Rlow25_tr ov od hov hod n hn G Dn hD0 (by omega) (fun i j hi hj=>Nat.le_trans (dg_mono (hNf G.get hG i j hi hj)) (by omega))
  repeat' first|(refine gca ?_;first|(refine ca hLw ?_;rintro _ _ ⟨dv,G',g,rfl,hdv,hg0,hgd,hgg,rfl⟩))|refine lda ?_|refine srz ?_|(refine wo ?_;first|(refine ao ?_;first|refine oa ?_)|refine oa ?_)|(refine gc ?_;first|(refine ci (fun hB=>?_) (fun hB=>?_) <;> try (exfalso;omega)))|refine sq ?_|refine rg ?_|refine xc ?_|refine nl ?_|refine xe ?_|refine rt ?_
  exact rca1 (cs:=[ov,dv]) (vs:=[ov,dv]) (T:=TLv) ⟨ov,dv,G',g,G,rfl,hov,hdv,hg0,hgd,hG,hgg,rfl⟩
 rw [← NX.fst] at hG
 clear hNf
 repeat' first|(refine wo ?_;first|(refine ao ?_;first|refine oa ?_)|refine oa ?_)|(refine gc ?_;first|(refine ci (fun hB=>?_) (fun hB=>?_) <;> try (exfalso;omega)))|refine sq ?_|refine rg ?_|refine xc ?_|refine nl ?_|refine sk ?_|refine bk ?_
 refine TC.loop (ι:=NxH n) (fun g=>[(20,I g.c)]) (fun g=>[mxP ov g.G]) (fun g=>(1 ≤ g.c∧g.c ≤ n + 1 - cI)∧MR n Dn g.G.get (oN (cI * (n + 1) + g.c))) (fun g=>n + 1 - g.c) ⟨1,G⟩ [3,5,10,16,17,18,19] ⟨⟨Nat.le_refl _,by dsimp only;omega⟩,hG⟩ ?_
 clear hG
 rintro ⟨rI,G⟩ ⟨⟨hr1,hri⟩,hG⟩
 dsimp only at hr1 hri hG ⊢
 by_cases hrt:cI + rI ≤ n
 rotate_left
 ·obtain rfl:rI = n + 1 - cI:=by omega
  rw [NX.lst cI (by omega)] at hG
  have hx1:¬ ((cI:Int) + ((n + 1 - cI:Nat):Int) ≤ (n:Int)):=by omega
  repeat' first|(refine wo ?_;first|(refine ao ?_;first|refine aw ?_|refine oa ?_)|refine oa ?_)|(refine gc ?_;first|(refine ci (fun hB=>?_) (fun hB=>?_) <;> try (exfalso;omega)))|refine sq ?_|refine rg ?_|refine xc ?_|refine nl ?_|refine xe ?_|refine xb ?_
  exact lp ⟨cI + 1,G⟩ ⟨hct,hG⟩
 have hrn:rI < n + 1:=by omega
 have hx1:(cI:Int) + (rI:Int) ≤ (n:Int):=by omega
 by_cases hx:XG.get cI rI = 0
 ·have hln:=Us_none hx
  rw [← NX.none cI rI hrt hr1 hx] at hG
  repeat' first|(refine wo ?_;first|(refine ao ?_;first|refine aw ?_|refine oa ?_)|refine oa ?_)|(refine gc ?_;first|(refine ci (fun hB=>?_) (fun hB=>?_) <;> try (exfalso;omega)))|refine sq ?_|refine rg ?_|refine xc ?_|refine nl ?_|refine sk ?_|refine bk ?_
  refine TC.loop (ι:=Unit) (fun _=>[(21,I 0)]) (fun _=>[]) (fun _=>True) (fun _=>0) () [3,5,10,16,17,18,19,20] trivial ?_
  rintro ⟨⟩ -
  repeat' first|refine ixn (i:=cI) (xs:=XG.h) ?_ (hh:=vm_h (has_mem (c:=vmx xv XG) memA)) (hb:=by rw [XG.hl];omega)|refine le (xs:=XG.h) ?_ (hh:=vm_h (has_mem (c:=vmx xv XG) memA)) (hj:=gm_h hct)|refine ixn (i:=rI) (xs:=XG.c.getD cI []) ?_ (hh:=vm_r (has_mem (c:=vmx xv XG) memA) hct) (hb:=by rw [XG.cc cI hct];omega)|refine le (xs:=XG.c.getD cI []) ?_ (hh:=vm_r (has_mem (c:=vmx xv XG) memA) hct) (hj:=gm_c hct hrn)|(refine ln (xs:=Us (dg (XG.get cI rI))) ?_ (hh:=vm_c (has_mem (c:=vmx xv XG) memA) hct hrn);rw [hln])|(refine wo ?_;first|(refine ao ?_;first|refine aw ?_|refine oa ?_)|refine oa ?_|refine ld ?_|refine gn ?_)|(refine gc ?_;first|refine cf ?_)|refine sq ?_|refine rg ?_|refine xc ?_|refine nl ?_|refine xe ?_|refine xb ?_
  exact lp ⟨rI + 1,G⟩ ⟨⟨by dsimp only;omega,by dsimp only;omega⟩,hG⟩
 have hln:=Us_pos hx
 obtain ⟨ml,hml⟩ : ∃ ml:Nat,(Us (dg (XG.get cI rI))).length = ml + 1:=⟨(Us (dg (XG.get cI rI))).length - 1,by omega⟩
 clear hln
 rw [← NX.a0] at hG
 repeat' first|(refine wo ?_;first|(refine ao ?_;first|refine aw ?_|refine oa ?_)|refine oa ?_)|(refine gc ?_;first|(refine ci (fun hB=>?_) (fun hB=>?_) <;> try (exfalso;omega)))|refine sq ?_|refine rg ?_|refine xc ?_|refine nl ?_|refine sk ?_|refine bk ?_
 refine TC.loop (ι:=NxH n) (fun g=>[(21,I g.c)]) (fun g=>[mxP ov g.G]) (fun g=>g.c ≤ cI + 1∧MR n Dn g.G.get (oA cI rI g.c)) (fun g=>cI + 1 - g.c) ⟨0,G⟩ [3,5,10,16,17,18,19,20] ⟨Nat.zero_le _,hG⟩ ?_
 clear hG
 rintro ⟨aI,G⟩ ⟨hai,hG⟩
 dsimp only at hai hG ⊢
 by_cases hat:aI < cI + 1
 rotate_left
 ·obtain rfl:aI = cI + 1:=by omega
  rw [← NX.a1 cI rI hrt hr1 hx] at hG
  repeat' first|refine ixn (i:=cI) (xs:=XG.h) ?_ (hh:=vm_h (has_mem (c:=vmx xv XG) memA)) (hb:=by rw [XG.hl];omega)|refine le (xs:=XG.h) ?_ (hh:=vm_h (has_mem (c:=vmx xv XG) memA)) (hj:=gm_h hct)|refine ixn (i:=rI) (xs:=XG.c.getD cI []) ?_ (hh:=vm_r (has_mem (c:=vmx xv XG) memA) hct) (hb:=by rw [XG.cc cI hct];omega)|refine le (xs:=XG.c.getD cI []) ?_ (hh:=vm_r (has_mem (c:=vmx xv XG) memA) hct) (hj:=gm_c hct hrn)|(refine ln (xs:=Us (dg (XG.get cI rI))) ?_ (hh:=vm_c (has_mem (c:=vmx xv XG) memA) hct hrn);rw [hml])|(refine wo ?_;first|(refine ao ?_;first|refine aw ?_|refine oa ?_)|refine oa ?_|refine ld ?_|refine gy ?_|(refine gsi (fun hB=>?_) (fun hB=>?_) <;> try (exfalso;omega)))|(refine gc ?_;first|(refine ci (fun hB=>?_) (fun hB=>?_) <;> try (exfalso;omega)))|refine sq ?_|refine rg ?_|refine xc ?_|refine nl ?_|refine xe ?_|refine xb ?_
  exact lp ⟨rI + 1,G⟩ ⟨⟨by dsimp only;omega,by dsimp only;omega⟩,hG⟩
 have hfg:=hFG cI aI (by omega) (by omega)
 have hMp:=RMul_tr ((XG.c.getD cI []).getD rI nS) ((FG.c.getD cI []).getD aI nS) (dg (XG.get cI rI)) (dg (FG.get cI aI)) (Dg_dg _) (Dg_dg _) (by have:=hxlen cI rI (by omega) (by omega);omega) (by rw [hfg];have:=hshl cI aI (by omega) (by omega);omega)
 rw [nv_dg,nv_dg] at hMp
 have hptl:(dg (XG.get cI rI * FG.get cI aI)).length ≤ L + 200:=dg_mul_len (hxlen cI rI (by omega) (by omega)) (by rw [hfg];exact hshl cI aI (by omega) (by omega))
 have hat':aI < triC cI:=hat
 rw [← NX.b0] at hG
 repeat' first|refine ixn (i:=cI) (xs:=XG.h) ?_ (hh:=vm_h (has_mem (c:=vmx xv XG) memA)) (hb:=by rw [XG.hl];omega)|refine le (xs:=XG.h) ?_ (hh:=vm_h (has_mem (c:=vmx xv XG) memA)) (hj:=gm_h hct)|refine ixn (i:=rI) (xs:=XG.c.getD cI []) ?_ (hh:=vm_r (has_mem (c:=vmx xv XG) memA) hct) (hb:=by rw [XG.cc cI hct];omega)|refine le (xs:=XG.c.getD cI []) ?_ (hh:=vm_r (has_mem (c:=vmx xv XG) memA) hct) (hj:=gm_c hct hrn)|(refine ln (xs:=Us (dg (XG.get cI rI))) ?_ (hh:=vm_c (has_mem (c:=vmx xv XG) memA) hct hrn);rw [hml])|(refine wo ?_;first|(refine ao ?_;first|refine oa ?_)|refine oa ?_|refine ld ?_|refine gy ?_|(refine gsi (fun hB=>?_) (fun hB=>?_) <;> try (exfalso;omega)))|(refine gc ?_;first|(refine ci (fun hB=>?_) (fun hB=>?_) <;> try (exfalso;omega)))|refine sq ?_|refine rg ?_|refine xc ?_|refine nl ?_|refine sk ?_|refine bk ?_
 refine rs (fun w=>w.heap[c5]? = some (.cells [xv,xd].toArray TLv (0,0))∧Sl w xv XG.h∧Sl w (XG.h.getD cI nS) (XG.c.getD cI [])∧Sl w fv FG.h∧Sl w (FG.h.getD cI nS) (FG.c.getD cI [])) ?_ (fun w hw=>⟨pt_at memA hw,vm_sh (has_mem (c:=vmx xv XG) memA) hw,vm_sr (has_mem (c:=vmx xv XG) memA) hct hw,vm_sh (has_vmx (G:=FG) (v:=fv) memA) hw,vm_sr (has_vmx (G:=FG) (v:=fv) memA) hct hw⟩)
 refine tka 0 ?_
 refine tkl 1 (cs:=[xv,xd]) (fun w h=>h.1) ?_
 refine tka 2 ?_
 refine tk 3 (v:=.pointer (some (addrAt xv cI))) (fun w h=>R_idx (E:=env) (i:=(cI:Int)) rfl rfl rfl rfl h.2.1 ⟨by omega,by rw [XG.hl];omega⟩) ?_
 refine tk 4 (v:=XG.h.getD cI nS) (fun w h=>R_load (E:=env) rfl rfl rfl (h.2.1.cell (gm_h hct))) ?_
 refine tka 5 ?_
 refine tk 6 (v:=.pointer (some (addrAt (XG.h.getD cI nS) rI))) (fun w h=>R_idx (E:=env) (i:=(rI:Int)) rfl rfl rfl rfl h.2.2.1 ⟨by omega,by rw [XG.cc cI hct];omega⟩) ?_
 refine tk 7 (v:=(XG.c.getD cI []).getD rI nS) (fun w h=>R_load (E:=env) rfl rfl rfl (h.2.2.1.cell (gm_c hct hrn))) ?_
 refine tka 8 ?_
 refine tka 9 ?_
 refine tk 10 (v:=.pointer (some (addrAt fv cI))) (fun w h=>R_idx (E:=env) (i:=(cI:Int)) rfl rfl rfl rfl h.2.2.2.1 ⟨by omega,by rw [FG.hl];omega⟩) ?_
 refine tk 11 (v:=FG.h.getD cI nS) (fun w h=>R_load (E:=env) rfl rfl rfl (h.2.2.2.1.cell (gm_h hct))) ?_
 refine tka 12 ?_
 refine tk 13 (v:=.pointer (some (addrAt (FG.h.getD cI nS) aI))) (fun w h=>R_idx (E:=env) (i:=(aI:Int)) rfl rfl rfl rfl h.2.2.2.2 ⟨by omega,by rw [FG.cc cI hct];omega⟩) ?_
 refine tk 14 (v:=(FG.c.getD cI []).getD aI nS) (fun w h=>R_load (E:=env) rfl rfl rfl (h.2.2.2.2.cell (gm_c hct hat'))) ?_
 refine t1 15 ?_
 refine ca hMp ?_ (hp:=has1 (vm_c (has_mem (c:=vmx xv XG) memA) hct hrn) (has1 (vm_c (has_vmx (v:=fv) (G:=FG) memA) hct hat') has0))
 rintro pv _ ⟨hpv,rfl⟩
 refine nl ?_
 refine te (fun w hw=>⟨pt_at memA hw,vm_sh (has_mem (c:=vmx xv XG) memA) hw,vm_sr (has_mem (c:=vmx xv XG) memA) hct hw,vm_sh (has_vmx (G:=FG) (v:=fv) memA) hw,vm_sr (has_vmx (G:=FG) (v:=fv) memA) hct hw⟩) ?_
 refine tka 16 ?_
 refine t0 ?_
 skip
 obtain ⟨r1',hr1'⟩ : ∃ r1',rI = r1' + 1:=⟨rI - 1,by omega⟩
 repeat' first|(refine wo ?_;first|refine oa ?_)|refine sq ?_|refine rg ?_|refine xc ?_|refine nl ?_|refine bk ?_
 refine TC.loop (ι:=NxH n) (fun g=>[(23,I g.c)]) (fun g=>[mxP ov g.G]) (fun g=>g.c ≤ rI∧MR n Dn g.G.get (oB cI rI aI g.c)) (fun g=>rI - g.c) ⟨0,G⟩ [3,5,10,16,17,18,19,20,21,22] ⟨Nat.zero_le _,hG⟩ ?_
 clear hG
 rintro ⟨bI,G⟩ ⟨hbi,hG⟩
 dsimp only at hbi hG ⊢
 by_cases hbt:bI < rI
 rotate_left
 ·obtain rfl:bI = rI:=by omega
  rw [← NX.b1] at hG
  repeat' first|(refine wo ?_;first|(refine ao ?_;first|refine aw ?_|refine oa ?_)|refine oa ?_)|(refine gc ?_;first|(refine ci (fun hB=>?_) (fun hB=>?_) <;> try (exfalso;omega)))|refine sq ?_|refine rg ?_|refine xc ?_|refine nl ?_|refine xe ?_|refine xb ?_
  exact lp ⟨aI + 1,G⟩ ⟨hat,hG⟩
 have hog:=hOG r1' bI (by omega) (by omega)
 obtain ⟨m,hm⟩ : ∃ m,m = cI - aI:=⟨_,rfl⟩
 obtain ⟨to,hto⟩ : ∃ to,to = rI - 1 - bI + aI:=⟨_,rfl⟩
 have hmn:m < n + 1:=by omega
 have hton:to < n + 1:=by omega
 have hrn':r1' < n + 1:=by omega
 have hbt':bI < triC r1':=show bI < r1' + 1 by omega
 have hogl:(dg (OG.get r1' bI)).length ≤ 200:=by rw [hog];exact hshg r1' bI (by omega) (by omega)
 have hMg:=fun v=>RMul_tr v ((OG.c.getD r1' []).getD bI nS) (dg (XG.get cI rI * FG.get cI aI)) (dg (OG.get r1' bI)) (Dg_dg _) (Dg_dg _) (by omega) (by omega)
 have hgl:(dg (G.get m to)).length ≤ 200000:=Nat.le_trans (dg_mono (NX.bnd cI rI aI bI hrt hr1 hx (by omega) (by omega) G.get hG m to (by omega) (by omega))) (by omega)
 have htl:(dg (XG.get cI rI * FG.get cI aI * OG.get r1' bI)).length ≤ 200000:=Nat.le_trans (dg_mul_len hptl hogl) (by omega)
 have hAd:=fun v=>RAdd_tr ((G.c.getD m []).getD to nS) v (dg (G.get m to)) (dg (XG.get cI rI * FG.get cI aI * OG.get r1' bI)) (Dg_dg _) (Dg_dg _) (by omega) (by omega)
 simp only [nv_dg] at hMg hAd
 obtain ⟨q,hq⟩ : ∃ q,q = G.get m to + XG.get cI rI * FG.get cI aI * OG.get r1' bI:=⟨_,rfl⟩
 rw [← hq] at hAd
 have hMR:=fun o=>NX.step cI rI aI bI hrt hr1 (by omega) hbt G.get (G.put m to o q).get hG fun x y=>by
  rw [GM.get_put G hmn hton o q x y,← hm,← hto,hq,hfg,hog,hr1',Nat.add_sub_cancel]
 have g1:(cI:Int) - aI = (m:Int):=by omega
 have g2:(rI:Int) - 1 = (r1':Int):=by omega
 have g3:(r1':Int) - bI + aI = (to:Int):=by omega
 clear hgl htl hptl hogl hshl hshg hxlen hG hFG hOG hfg hog
 generalize XG.get cI rI * FG.get cI aI * OG.get r1' bI = tm at *
 generalize XG.get cI rI * FG.get cI aI = part at *
 repeat' first|(refine aw (m:=(r1':Int)) ?_ (h:=by rw [← g2];rfl))|(refine aw (m:=(to:Int)) ?_ (h:=by rw [← g3];rfl))|(refine wo ?_;first|(refine ao ?_;first|refine aw ?_|refine oa ?_)|refine oa ?_)|(refine gc ?_;first|(refine ci (fun hB=>?_) (fun hB=>?_) <;> try (exfalso;omega)))|refine sq ?_|refine rg ?_|refine xc ?_|refine nl ?_|refine sk ?_|refine bk ?_
 refine rs (fun w=>w.heap[c]? = some (.cells [ov,od].toArray TLv (0,0))∧Sl w ov G.h∧(∃ xs,xs.length = n + 1∧Sl w (G.h.getD m nS) xs)∧Sl w gv OG.h∧Sl w (OG.h.getD r1' nS) (OG.c.getD r1' [])) ?_ (fun w hw=>⟨pt_at memA hw,vm_hw (v:=ov) (has_vmx (v:=ov) memA) hw,vm_rw (v:=ov) (has_vmx (v:=ov) memA) hw hmn,vm_sh (has_vmx (G:=OG) (v:=gv) memA) hw,vm_sr (has_vmx (G:=OG) (v:=gv) memA) hrn' hw⟩)
 refine tka 0 ?_
 refine tkl 1 (cs:=[ov,od]) (fun w h=>h.1) ?_
 refine tka 2 ?_
 refine tka 3 ?_
 refine tkw 4 (m:Int) ?_
 refine tk 5 (v:=.pointer (some (addrAt ov m))) (fun w h=>R_idx (E:=env) (i:=(m:Int)) rfl rfl rfl rfl h.2.1 ⟨by omega,by rw [G.hl];omega⟩) ?_
 refine tk 6 (v:=G.h.getD m nS) (fun w h=>R_load (E:=env) rfl rfl rfl (h.2.1.cell (gm_h hmn))) ?_
 refine tka 7 ?_
 refine tka 8 ?_
 refine tkl 9 (cs:=[ov,od]) (fun w h=>h.1) ?_
 refine tka 10 ?_
 refine tka 11 ?_
 refine tkw 12 (m:Int) ?_
 refine tk 13 (v:=.pointer (some (addrAt ov m))) (fun w h=>R_idx (E:=env) (i:=(m:Int)) rfl rfl rfl rfl h.2.1 ⟨by omega,by rw [G.hl];omega⟩) ?_
 refine tk 14 (v:=G.h.getD m nS) (fun w h=>R_load (E:=env) rfl rfl rfl (h.2.1.cell (gm_h hmn))) ?_
 refine tka 15 ?_
 refine tk 16 (v:=.pointer (some (addrAt (G.h.getD m nS) to))) (fun w h=>h.2.2.1.elim fun xs hx=>R_idx (E:=env) (i:=(to:Int)) rfl rfl rfl rfl hx.2 ⟨by omega,by rw [hx.1];omega⟩) ?_
 refine tka 18 ?_
 refine tka 19 ?_
 refine tka 20 ?_
 refine tkw 21 (r1':Int) ?_
 refine tk 22 (v:=.pointer (some (addrAt gv r1'))) (fun w h=>R_idx (E:=env) (i:=(r1':Int)) rfl rfl rfl rfl h.2.2.2.1 ⟨by omega,by rw [OG.hl];omega⟩) ?_
 refine tk 23 (v:=OG.h.getD r1' nS) (fun w h=>R_load (E:=env) rfl rfl rfl (h.2.2.2.1.cell (gm_h hrn'))) ?_
 refine tka 24 ?_
 refine tk 25 (v:=.pointer (some (addrAt (OG.h.getD r1' nS) bI))) (fun w h=>R_idx (E:=env) (i:=(bI:Int)) rfl rfl rfl rfl h.2.2.2.2 ⟨by omega,by rw [OG.cc r1' hrn'];omega⟩) ?_
 refine tk 26 (v:=(OG.c.getD r1' []).getD bI nS) (fun w h=>R_load (E:=env) rfl rfl rfl (h.2.2.2.2.cell (gm_c hrn' hbt'))) ?_
 refine t2 17 27 ?_ ?_
 ·refine le (xs:=G.c.getD m []) ?_ (hh:=vm_r (has_vmx (v:=ov) (G:=G) memA) hmn) (hj:=gm_c hmn hton)
  refine nl ?_
  refine te (fun w hw=>⟨pt_at memA hw,vm_hw (v:=ov) (has_vmx (v:=ov) memA) hw,vm_rw (v:=ov) (has_vmx (v:=ov) memA) hw hmn,vm_sh (has_vmx (G:=OG) (v:=gv) memA) hw,vm_sr (has_vmx (G:=OG) (v:=gv) memA) hrn' hw⟩) ?_
  refine t1 27 ?_
  refine ca (hMg pv) ?_ (hp:=has1 hasA (has1 (vm_c (has_vmx (v:=gv) (G:=OG) memA) hrn' hbt') has0))
  rintro mv _ ⟨hmv,rfl⟩
  refine nl ?_
  refine te (fun w hw=>⟨pt_at memA hw,vm_hw (v:=ov) (has_vmx (v:=ov) memA) hw,vm_rw (v:=ov) (has_vmx (v:=ov) memA) hw hmn,vm_sh (has_vmx (G:=OG) (v:=gv) memA) hw,vm_sr (has_vmx (G:=OG) (v:=gv) memA) hrn' hw⟩) ?_
  refine t1 28 ?_
  refine ca (hAd mv) ?_ (hp:=has1 (vm_c (has_vmx (v:=ov) (G:=G) memA) hmn hton) (has1 hasA has0))
  rintro av _ ⟨hav,rfl⟩
  refine nl ?_
  refine te (fun w hw=>⟨pt_at memA hw,vm_hw (v:=ov) (has_vmx (v:=ov) memA) hw,vm_rw (v:=ov) (has_vmx (v:=ov) memA) hw hmn,vm_sh (has_vmx (G:=OG) (v:=gv) memA) hw,vm_sr (has_vmx (G:=OG) (v:=gv) memA) hrn' hw⟩) ?_
  refine tk 29 (v:=.pointer (some (addrAt (G.h.getD m nS) to))) (fun w h=>h.2.2.1.elim fun xs hx=>R_idx (E:=env) (i:=(to:Int)) rfl rfl rfl rfl hx.2 ⟨by omega,by rw [hx.1];omega⟩) ?_
  refine t1 30 ?_
  refine smx (G:=G) (v:=ov) (i:=m) (j:=to) (o:=av) (q:=q) ?_ fitA hmn hton hav
  refine nl ?_
  refine te (fun w hw=>⟨pt_at memA hw,vm_hw (v:=ov) (has_vmx (v:=ov) memA) hw,vm_rw (v:=ov) (has_vmx (v:=ov) memA) hw hmn,vm_sh (has_vmx (G:=OG) (v:=gv) memA) hw,vm_sr (has_vmx (G:=OG) (v:=gv) memA) hrn' hw⟩) ?_
  refine t0 ?_
  repeat' first|(refine wo ?_;first|(refine ao ?_;first|refine aw ?_)|refine oa ?_)|refine rg ?_|refine xc ?_|refine nl ?_|refine xb ?_
  exact lp ⟨bI + 1,G.put m to av q⟩ ⟨hbt,hMR av⟩
 ·refine ca (hMg pv) ?_ (hp:=has1 hasA (has1 (vm_c (has_vmx (v:=gv) (G:=OG) memA) hrn' hbt') has0))
  rintro mv _ ⟨hmv,rfl⟩
  refine nl ?_
  refine te (fun w hw=>⟨pt_at memA hw,vm_hw (v:=ov) (has_vmx (v:=ov) memA) hw,vm_rw (v:=ov) (has_vmx (v:=ov) memA) hw hmn,vm_sh (has_vmx (G:=OG) (v:=gv) memA) hw,vm_sr (has_vmx (G:=OG) (v:=gv) memA) hrn' hw⟩) ?_
  refine t1 17 ?_
  refine le (xs:=G.c.getD m []) ?_ (hh:=vm_r (has_vmx (v:=ov) (G:=G) memA) hmn) (hj:=gm_c hmn hton)
  refine nl ?_
  refine te (fun w hw=>⟨pt_at memA hw,vm_hw (v:=ov) (has_vmx (v:=ov) memA) hw,vm_rw (v:=ov) (has_vmx (v:=ov) memA) hw hmn,vm_sh (has_vmx (G:=OG) (v:=gv) memA) hw,vm_sr (has_vmx (G:=OG) (v:=gv) memA) hrn' hw⟩) ?_
  refine t1 28 ?_
  refine ca (hAd mv) ?_ (hp:=has1 (vm_c (has_vmx (v:=ov) (G:=G) memA) hmn hton) (has1 hasA has0))
  rintro av _ ⟨hav,rfl⟩
  refine nl ?_
  refine te (fun w hw=>⟨pt_at memA hw,vm_hw (v:=ov) (has_vmx (v:=ov) memA) hw,vm_rw (v:=ov) (has_vmx (v:=ov) memA) hw hmn,vm_sh (has_vmx (G:=OG) (v:=gv) memA) hw,vm_sr (has_vmx (G:=OG) (v:=gv) memA) hrn' hw⟩) ?_
  refine tk 29 (v:=.pointer (some (addrAt (G.h.getD m nS) to))) (fun w h=>h.2.2.1.elim fun xs hx=>R_idx (E:=env) (i:=(to:Int)) rfl rfl rfl rfl hx.2 ⟨by omega,by rw [hx.1];omega⟩) ?_
  refine t1 30 ?_
  refine smx (G:=G) (v:=ov) (i:=m) (j:=to) (o:=av) (q:=q) ?_ fitA hmn hton hav
  refine nl ?_
  refine te (fun w hw=>⟨pt_at memA hw,vm_hw (v:=ov) (has_vmx (v:=ov) memA) hw,vm_rw (v:=ov) (has_vmx (v:=ov) memA) hw hmn,vm_sh (has_vmx (G:=OG) (v:=gv) memA) hw,vm_sr (has_vmx (G:=OG) (v:=gv) memA) hrn' hw⟩) ?_
  refine t0 ?_
  repeat' first|(refine wo ?_;first|(refine ao ?_;first|refine aw ?_)|refine oa ?_)|refine rg ?_|refine xc ?_|refine nl ?_|refine xb ?_
  exact lp ⟨bI + 1,G.put m to av q⟩ ⟨hbt,hMR av⟩
end Go.Art
namespace Go.Art
open Go Go.Proofs Go.RowKit
structure LvR (n:Nat) where
 v:Value
 d:Value
 G:GM (n + 1) fun _=>n + 1
 W:Nat
structure LvK (t:List Int) (k n i:Nat) (r:LvR n):Prop where
 v1:r.v.oneCell' = true
 d1:r.d.oneCell' = true
 w0:r.W ≠ 0
 wl:(dg r.W).length ≤ 145 + 160 * i
 eq:MR n r.W r.G.get (lvT t k n i)
 le:∀ a b,a ≤ n→b ≤ n→r.G.get a b ≤ r.W
def lvP {n:Nat} (r:LvR n):Ch:=bnd [mxP r.v r.G,own T64 r.d (Us (dg r.W))]
def lvsP {n:Nat} (Ls:List (LvR n)):Ch:=bnd (Ls.map lvP)
def lcs {n:Nat} (Ls:List (LvR n)):List Value:=(Ls.map fun r=>[r.v,r.d]).flatten
theorem lcs_len {n:Nat}:∀ Ls:List (LvR n),(lcs Ls).length = 2 * Ls.length
 | []=>rfl
 | r :: Ls=>by
  have:=lcs_len Ls
  unfold lcs at *
  rw [List.map_cons,List.flatten_cons,List.length_append,this]
  simp only [List.length_cons,List.length_nil]
  omega
theorem lcs_app {n:Nat} (Ls:List (LvR n)) (r:LvR n):lcs (Ls ++ [r]) = lcs Ls ++ [r.v,r.d]:=by unfold lcs;simp
theorem lcs_row {n:Nat}:∀ {Ls:List (LvR n)} {i:Nat} {r:LvR n},Ls[i]? = some r→((lcs Ls).drop (2 * i)).take 2 = [r.v,r.d]
 | [],_,_,h=>by simp at h
 | a :: Ls,0,r,h=>by
  have:a = r:=by simpa using h
  subst this;rfl
 | a :: Ls,i + 1,r,h=>by
  have h1:=lcs_row (Ls:=Ls) (i:=i) (r:=r) (by simpa using h)
  show (List.drop (2 * (i + 1)) (a.v :: a.d :: lcs Ls)).take 2 = _
  rw [show 2 * (i + 1) = 2 * i + 1 + 1 by omega,List.drop_succ_cons,List.drop_succ_cons]
  exact h1
theorem lvP_nb {n:Nat} (r:LvR n) (b:Nat):¬ (lvP r).bd b:=bnd_nob (by repeat (first | exact nb0 | refine nb1 ?_)) b
instance {n:Nat} (Ls:List (LvR n)):NoB (lvsP Ls):=⟨bnd_nob fun c hc b hb=>by
 obtain ⟨r,_,rfl⟩:=List.mem_map.1 hc
 exact lvP_nb r b hb⟩
theorem lv_mem {n:Nat} {Ls:List (LvR n)} {i:Nat} {r:LvR n} (h:Ls[i]? = some r):lvP r ∈ Ls.map lvP:=List.mem_map.2 ⟨r,List.mem_of_getElem? h,rfl⟩
theorem lv_x {n:Nat} {Ls:List (LvR n)} {i:Nat} {r:LvR n} {F:List Ch} (h:lvsP Ls ∈ F) (hr:Ls[i]? = some r):Has F (vmx r.v r.G):=has_bndC h (has_bndC (lv_mem hr) (has_vmx (List.Mem.head _)))
theorem lv_d {n:Nat} {Ls:List (LvR n)} {i:Nat} {r:LvR n} {F:List Ch} (h:lvsP Ls ∈ F) (hr:Ls[i]? = some r):Has F (vw r.d (Us (dg r.W))):=has_bndC h (has_bndC (lv_mem hr) (has_own (e:=T64) (List.mem_cons_of_mem _ (List.Mem.head _))))
theorem lvs_nil {n:Nat} (A:List Ch):Im A (lvsP ([]:List (LvR n)) :: A):=bnd_nil A
theorem lv_push {n:Nat} {Ls:List (LvR n)} (r:LvR n) {A F:List Ch} (hf:Fit A [mxP r.v r.G,own T64 r.d (Us (dg r.W)),lvsP Ls] F):Im A (lvsP (Ls ++ [r]) :: F):=by
 refine Im.trans hf ?_
 unfold lvsP
 rw [List.map_append,List.map_singleton]
 exact (im_bnd [mxP r.v r.G,own T64 r.d (Us (dg r.W))] (bnd (Ls.map lvP) :: F)).trans (bnd_snoc (lvP r) _ F)
theorem lv_tot {t:List Int} {k:Nat} (hz:solE t k = 0) (n:Nat) {j:Nat} (hj:j ≤ k):tot n (lvT t k n j) ≤ 1:=
 (lv_ok (Fp:=oneS t k) (F:=fun u=>(fT t k u).den) (pT_ch hz) (fun u h1 h2=>(fT_ch hz h1 h2).1) j hj).2
theorem lvT_nx (t:List Int) (k n j:Nat):nextR (fT t k (k - j)) (1 / ((k - j:Nat):Rat)) n (lvT t k n j) = lvT t k n (j + 1):=rfl
theorem lvT_fst (t:List Int) (k n:Nat):firstR (pT t k) n = lvT t k n 0:=rfl
theorem get_snoc {α:Type} {l:List α} {x y:α} {i:Nat} (h:(l ++ [x])[i]? = some y):(l[i]? = some y)∨(i = l.length∧x = y):=by
 rw [List.getElem?_append] at h
 split at h
 ·exact .inl h
 ·rename_i g
  rw [List.getElem?_singleton] at h
  split at h
  ·exact .inr ⟨by omega,by simpa using h⟩
  ·cases h
theorem lvK_one {t:List Int} {k n:Nat} {x:LvR n} (h:LvK t k n 0 x):∀ i r,[x][i]? = some r→LvK t k n i r:=fun i r hr=>by
 rw [List.getElem?_singleton] at hr
 split at hr
 ·rename_i e;subst e;have:x = r:=by simpa using hr
  subst this;exact h
 ·cases hr
structure LwG (n:Nat) where
 j:Nat
 s:Value
 Ls:List (LvR n)
 r:LvR n
attribute [local irreducible] Fit pt own ro vw mpc lpt vels rels mow lrc dfr
attribute [local irreducible] lmp lme mit velg relg bnd owl dfrl evI solE opg shareN nextR firstR lvR
theorem Rlevels_tr (tv:Value) (t:List Int) (k n:Nat) (hz:solE t k = 0) (hk:k ≤ 40) (hl:t.length ≤ 12) (hn:n ≤ 12):Tr Tryz.prog 61 [tv,I k,I n] [vw tv (Is t)] []
  fun u D=>∃ Ls:List (LvR n),u.oneCell' = true∧Ls.length = k + 1∧(∀ i r,Ls[i]? = some r→LvK t k n i r)∧D = [oww TLv 2 u (k + 1) (lcs Ls),lvsP Ls]:=by
 have hk1:=(solE_zero hz).1
 have hF:=Rfirst_tr tv t k n hz hk hl hn
 have hpF:FB (pT t k) 12:=evI_FB hz hk hl (Nat.le_refl k) (Nat.le_refl _)
 have hden:=(pT t k).den_nz
 have hW0:(pT t k).den ^ n ≠ 0:=Nat.ne_of_gt (Nat.pow_pos (Nat.pos_of_ne_zero hden))
 have hWl:(dg ((pT t k).den ^ n)).length ≤ 145:=Nat.le_trans (pow_dg hpF.2 n) (by omega)
 have ht0:=lv_tot hz n (Nat.zero_le k)
 have hstep:=fun j (hj:j < k) (r:LvR n) (hr:LvK t k n j r)=>Rnext25_tr r.v r.d tv t k n (k - j) hz hk hl hn (by omega) (by omega) r.G r.W (145 + 160 * j) (lvT t k n j) hr.eq hr.w0 hr.wl (by omega) (supp_lv _ _ _ _ j) (lv_tot hz n (Nat.le_of_lt hj)) hr.le hr.v1 hr.d1
 simp only [lvT_nx] at hstep
 rw [lvT_fst] at hF
 clear hpF hden
 obtain ⟨W0,hW0'⟩ : ∃ W0,W0 = (pT t k).den ^ n:=⟨_,rfl⟩
 rw [← hW0'] at hF hW0 hWl
 clear hz hW0'
 refine Tr.enter env _ Tryz.func61 (by kernel_rfl) rfl Tryz.ntmps61 rfl (by repeat (first | exact has00 | refine has01 ?_)) fun w0=>?_
 repeat' first|(refine gca ?_;first|(refine ca hF ?_;rintro _ _ ⟨v,dv,G,rfl,hv,hdv,hMR,rfl⟩))|refine al fun c=>?_|refine srz ?_|refine lda ?_|refine slws (sz:=2) (xs:=[v,dv]) fun g2=>?_|(refine wo ?_;first|refine oa ?_)|refine sq ?_|refine rg ?_|refine xc ?_|refine nl ?_|refine bk ?_
 have hL0:LvK t k n 0 ⟨v,dv,G,W0⟩:=⟨hv,hdv,hW0,hWl,hMR,fun a b ha hb=>hMR.le (hMR.lv hW0) ht0 ha hb⟩
 refine TC.im (lvs_nil (n:=n) _) ?_
 refine TC.im (lv_push (Ls:=[]) ⟨v,dv,G,W0⟩ fitA) ?_
 refine TC.loop (ι:=LwG n) (fun g=>[(9,I ((k - g.j:Nat):Int)),(8,g.s)]) (fun g=>[oww TLv 2 g.s (g.j + 1) (lcs g.Ls),lvsP g.Ls,pt c [g.r.v,g.r.d] TLv]) (fun g=>g.j ≤ k∧g.s.oneCell' = true∧g.Ls.length = g.j + 1∧g.Ls[g.j]? = some g.r∧∀ i r,g.Ls[i]? = some r→LvK t k n i r) (fun g=>k - g.j) ⟨0,.slice (some ⟨g2,0,none⟩) 1 1,[⟨v,dv,G,W0⟩],⟨v,dv,G,W0⟩⟩ [0,1,2,7] ⟨Nat.zero_le _,rfl,rfl,rfl,lvK_one hL0⟩ ?_
 clear hL0 hMR hv hdv hF
 rintro ⟨j,s,Ls,r⟩ ⟨hj,hs,hLl,hLr,hLK⟩
 dsimp only at hj hs hLl hLr hLK ⊢
 by_cases hjt:j < k
 rotate_left
 ·obtain rfl:j = k:=by omega
  repeat' first|(refine wo ?_;first|(refine ao ?_;first|refine oa ?_)|refine oa ?_)|(refine gc ?_;first|(refine ci (fun hB=>?_) (fun hB=>?_) <;> try (exfalso;omega)))|refine sq ?_|refine rg ?_|refine xc ?_|refine nl ?_|refine xe ?_|refine rt ?_
  exact r1 ⟨Ls,hs,hLl,hLK,rfl⟩
 have hrK:=hLK j r hLr
 have hS:=hstep j hjt r hrK
 clear hstep
 have hkj:((k - j:Nat):Int) - 1 = ((k - (j + 1):Nat):Int):=by omega
 have hkj0:0 < ((k - j:Nat):Int):=by omega
 repeat' first|(refine gca ?_;first|(refine ca hS ?_ (hp:=has1 (lv_x memA hLr) (has1 (lv_d memA hLr) (has1 hasA has0)));rintro _ _ ⟨v2,d2,G2,W2,rfl,hv2,hd2,hW2,hW2l,hMR2,hle2,rfl⟩))|refine lda ?_|refine srz ?_ (hj:=Nat.le_of_ble_eq_true rfl)|refine slws (sz:=2) (xs:=[v2,d2]) fun g2=>?_|refine apw (e:=TLv) (sz:=2) (N:=j + 1) (M:=1) (xs:=lcs Ls) (ys:=[v2,d2]) (by decide) rfl (one_cons hv2 (one_cons hd2 one_nil)) (fun s' hs'=>?_)|(refine aw (m:=((k - (j + 1):Nat):Int)) ?_ (h:=by rw [← hkj];rfl))|(refine wo ?_;first|(refine ao ?_;first|refine oa ?_)|refine oa ?_)|(refine gc ?_;first|(refine ci (fun hB=>?_) (fun hB=>?_) <;> try (exfalso;omega)))|refine sq ?_|refine rg ?_|refine xc ?_|refine nl ?_|refine sk ?_|refine bk ?_|refine xb ?_
 refine TX.im (lv_push (Ls:=Ls) ⟨v2,d2,G2,W2⟩ fitA) ?_
 exact lp ⟨j + 1,s',Ls ++ [⟨v2,d2,G2,W2⟩],⟨v2,d2,G2,W2⟩⟩ ⟨hjt,hs',by simp [hLl],by dsimp only;rw [List.getElem?_append_right (by omega),hLl,Nat.sub_self];rfl,fun i r' h=>by
  rcases get_snoc h with h' | ⟨h',e⟩
  ·exact hLK i r' h'
  ·subst e;rw [h',hLl];exact ⟨hv2,hd2,hW2,by dsimp only;omega,hMR2,hle2⟩⟩ (hf:=by dsimp only;rw [lcs_app];exact fitA)
end Go.Art
namespace Go.Art
open Go Go.Proofs Go.RowKit
theorem ps_mod {n c r:Nat} (hr:r ≤ n):(c * (n + 1) + r) % (n + 1) = r:=by rw [Nat.mul_comm,Nat.mul_add_mod,Nat.mod_eq_of_lt (by omega)]
theorem ps_step {n W u c r s:Nat} {g:Nat→Nat→Nat} {x:List Rat} (hM:MR n W g x) (hc:c ≤ n) (hr:r ≤ n) (hs:(s:Rat) = (W:Rat) * psN n u x (c * (n + 1) + r)) (h:u = 0∨r = 0):((s + g c r:Nat):Rat) = (W:Rat) * psN n u x (c * (n + 1) + (r + 1)):=by
 rw [← Nat.add_assoc,psN_in (by rw [ps_mod hr];exact h),Rat.natCast_add,hs,hM.eq c r hc hr]
 grind
theorem ps_skip {n W u c r s:Nat} {x:List Rat} (hr:r ≤ n) (hs:(s:Rat) = (W:Rat) * psN n u x (c * (n + 1) + r)) (h:¬ (u = 0∨r = 0)):(s:Rat) = (W:Rat) * psN n u x (c * (n + 1) + (r + 1)):=by
 rw [← Nat.add_assoc,psN_out (by rw [ps_mod hr];exact h)];exact hs
theorem ps_row {n W u c s:Nat} {x:List Rat} (hs:(s:Rat) = (W:Rat) * psN n u x (c * (n + 1) + (n + 1))):(s:Rat) = (W:Rat) * psN n u x ((c + 1) * (n + 1) + 0):=by
 rw [Nat.add_zero,Nat.succ_mul];exact hs
theorem natc_le {a b:Nat} (h:(a:Rat) ≤ (b:Rat)):a ≤ b:=by exact_mod_cast h
theorem ps_le {n W u i s:Nat} {x:List Rat} (hs:(s:Rat) = (W:Rat) * psN n u x i) (h:psN n u x i ≤ 1):s ≤ W:=by
 refine natc_le ?_
 rw [hs]
 have h0:(0:Rat) ≤ (W:Rat):=by exact_mod_cast Nat.zero_le W
 have:=Rat.mul_le_mul_of_nonneg_left h h0
 rwa [Rat.mul_one] at this
theorem ps_end {n W u s:Nat} {x:List Rat} (hW:W ≠ 0) (hs:(s:Rat) = (W:Rat) * psN n u x (n * (n + 1) + (n + 1))):mkRat (s:Int) W = stuckR n u x:=by
 rw [← Nat.succ_mul,psN_all] at hs
 have h0:(W:Rat) ≠ 0:=by exact_mod_cast hW
 rw [Rat.mkRat_eq_div,show ((s:Int):Rat) = (s:Rat) from rfl,hs]
 rw [Rat.mul_comm,Rat.div_def,Rat.mul_assoc,Rat.mul_inv_cancel _ h0,Rat.mul_one]
theorem ps_one {t:List Int} {k:Nat} (hz:solE t k = 0) (n u:Nat) {j:Nat} (hj:j ≤ k) {i:Nat} (hi:i ≤ (n + 1) * (n + 1)):psN n u (lvT t k n j) i ≤ 1:=
 Rat.le_trans (psN_le (lv_ok (n:=n) (Fp:=oneS t k) (F:=fun u=>(fT t k u).den) (pT_ch hz) (fun u h1 h2=>(fT_ch hz h1 h2).1) j hj).1 hi) (lv_tot hz n hj)
structure SuG where
 u:Nat
 v:Value
 hs:List HV
structure SuC where
 c:Nat
 v:Value
 s:Nat
attribute [local irreducible] Fit pt own ro vw mpc lpt vels rels mow lrc dfr
attribute [local irreducible] lmp lme mit velg relg bnd owl dfrl evI solE opg shareN nextR firstR lvR
theorem Rover_tr (mv dv:Value) (x W:Nat) (hx:(dg x).length ≤ 262144) (hW:(dg W).length ≤ 262144) (hW0:W ≠ 0):Tr Tryz.prog 63 [mv,dv] [vw mv (Us (dg x)),vw dv (Us (dg W))] [] (FQ (mkRat (x:Int) W)):=by
 have hI:=RIMake_tr false mv (dg x) (Dg_dg _) (by omega)
 have hM:=fun o=>RFMake_tr ((x:Nat):Int) o dv (dg W) (Dg_dg _) hx hW (by rw [nv_dg];exact hW0)
 rw [nv_dg,show sg false x = ((x:Nat):Int) from rfl] at hI
 simp only [nv_dg] at hM
 unfold IR at hI
 unfold iv dz at hM
 unfold FQ2 at hM
 unfold FQ
 clear hx hW
 generalize mkRat (x:Int) W = s at *
 generalize dg W = l2 at *
 rw [show ((x:Nat):Int).natAbs = x from rfl] at *
 have e0:decide (((x:Nat):Int) < 0) = false:=decide_eq_false (by omega)
 rw [e0] at *
 generalize dg x = l1 at *
 refine Tr.enter env _ Tryz.func63 (by kernel_rfl) rfl Tryz.ntmps63 rfl (by repeat (first | exact has00 | refine has01 ?_)) fun w0=>?_
 repeat' first|(refine gca ?_;first|(refine ca hI ?_;rintro _ _ ⟨o,rfl,ho,rfl⟩)|(refine ca (hM o) ?_;rintro _ _ ⟨vn,vd,rfl,hvn,hvd,rfl⟩))|refine al fun c=>?_|refine srz ?_|refine lda ?_|(refine wo ?_;first|refine oa ?_)|refine sq ?_|refine rg ?_|refine xc ?_|refine nl ?_|refine rt ?_
 exact rca1 (cs:=[.bool (decide (s.num < 0)),vn,vd]) (vs:=[.bool (decide (s.num < 0)),vn,vd]) (T:=TRt) ⟨vn,vd,rfl,hvn,hvd,rfl⟩
theorem Rref25_tr (tv:Value) (t:List Int) (k n:Int):Tr Tryz.prog 60 [tv,I k,I n] [vw tv (Is t)] [] fun u D=>u = I (ripE t k n)∧D = []:=by
 have hC:=RSoCheck_tr tv t k
 have h13:=@solE_13 t k
 unfold ripE
 by_cases hc:k < 1∨1024 < k∨n < 0∨4096 < n
 ·rw [if_pos hc]
  refine Tr.enter env _ Tryz.func60 (by kernel_rfl) rfl Tryz.ntmps60 rfl (by repeat (first | exact has00 | refine has01 ?_)) fun w0=>?_
  repeat' first|(refine wo ?_;first|(refine ao ?_;first|refine oa ?_)|refine oa ?_|refine gy ?_|refine gn ?_|(refine gsi (fun hB=>?_) (fun hB=>?_) <;> try (exfalso;omega)))|(refine gc ?_;first|refine ct ?_|(refine ci (fun hB=>?_) (fun hB=>?_) <;> try (exfalso;omega)))|refine sq ?_|refine rg ?_|refine xc ?_|refine nl ?_|refine bk ?_|refine rt ?_
  all_goals exact r1 ⟨rfl,rfl⟩
 ·rw [if_neg hc]
  by_cases hz:solE t k = 0
  ·rw [hz] at hC ⊢
   refine Tr.enter env _ Tryz.func60 (by kernel_rfl) rfl Tryz.ntmps60 rfl (by repeat (first | exact has00 | refine has01 ?_)) fun w0=>?_
   repeat' first|(refine gca ?_;first|(refine ca hC ?_;rintro _ _ ⟨rfl,rfl⟩))|(refine wo ?_;first|(refine ao ?_;first|refine oa ?_)|refine oa ?_|refine gy ?_|(refine gsi (fun hB=>?_) (fun hB=>?_) <;> try (exfalso;omega)))|(refine gc ?_;first|refine cf ?_|(refine ci (fun hB=>?_) (fun hB=>?_) <;> try (exfalso;omega)))|refine sq ?_|refine rg ?_|refine xc ?_|refine nl ?_|refine sk ?_|refine bk ?_|refine rt ?_|refine xb ?_
   exact r1 ⟨rfl,rfl⟩
  ·rw [h13 hz] at hC ⊢
   refine Tr.enter env _ Tryz.func60 (by kernel_rfl) rfl Tryz.ntmps60 rfl (by repeat (first | exact has00 | refine has01 ?_)) fun w0=>?_
   repeat' first|(refine gca ?_;first|(refine ca hC ?_;rintro _ _ ⟨rfl,rfl⟩))|(refine wo ?_;first|(refine ao ?_;first|refine oa ?_)|refine oa ?_|refine gy ?_|(refine gsi (fun hB=>?_) (fun hB=>?_) <;> try (exfalso;omega)))|(refine gc ?_;first|refine ct ?_|(refine ci (fun hB=>?_) (fun hB=>?_) <;> try (exfalso;omega)))|refine sq ?_|refine rg ?_|refine xc ?_|refine nl ?_|refine bk ?_|refine rt ?_
   exact r1 ⟨rfl,rfl⟩
set_option maxHeartbeats 1000000 in
theorem RStuck_tr (tv:Value) (t:List Int) (k n:Nat) (hz:solE t k = 0) (hk:k ≤ 40) (hl:t.length ≤ 12) (hn:n ≤ 12):Tr Tryz.prog 19 [tv,I k,I n] [vw tv (Is t)] []
  fun u D=>∃ v hs,u = tup2 v (I 0)∧v.oneCell' = true∧hs.length = k + 1∧D = [oww TRt 3 v (k + 1) (rcs (stL t k n) hs),ofr hs (stL t k n)]:=by
 have hk1:=(solE_zero hz).1
 have hR:=Rref25_tr tv t k n
 rw [show ripE t k n = 0 by unfold ripE;rw [if_neg (by omega)];exact hz] at hR
 have hLv:=Rlevels_tr tv t k n hz hk hl hn
 have hone:=fun u j (hj:j ≤ k) i (hi:i ≤ (n + 1) * (n + 1))=>ps_one hz n u (j:=j) hj (i:=i) hi
 have hstT:∀ u,stuckR n u (lvT t k n (k - u)) = stT t k n u:=fun u=>rfl
 have hsl:=stL_len t k n
 have hsg:=fun i (h:i < k + 1)=>stL_get (t:=t) (n:=n) h
 have htks:=fun i (h:i < k + 1)=>take_succ' (l:=stL t k n) (by rw [hsl];exact h) 0
 clear hz
 generalize stL t k n = LL at *
 refine Tr.enter env _ Tryz.func19 (by kernel_rfl) rfl Tryz.ntmps19 rfl (by repeat (first | exact has00 | refine has01 ?_)) fun w0=>?_
 repeat' first|(refine gca ?_;first|(refine ca hR ?_;rintro _ _ ⟨rfl,rfl⟩)|(refine ca hLv ?_;rintro lv _ ⟨Ls,hlv,hLl,hLK,rfl⟩))|(refine wo ?_;first|(refine ao ?_;first|refine oa ?_)|refine oa ?_)|(refine gc ?_;first|refine cf ?_)|refine sq ?_|refine rg ?_|refine xc ?_|refine nl ?_|refine sk ?_|refine bk ?_
 refine TC.im (oww_nil TRt 3 _) ?_
 refine TC.im (owl_nil (e:=T64) (g:=wU) _) ?_
 refine TC.loop (ι:=SuG) (fun g=>[(11,I g.u),(10,g.v)]) (fun g=>[oww TRt 3 g.v g.u (rcs (LL.take g.u) g.hs),ofr g.hs (LL.take g.u)]) (fun g=>g.u ≤ k + 1∧g.v.oneCell' = true∧g.hs.length = g.u) (fun g=>k + 1 - g.u) ⟨0,nS,[]⟩ [0,1,2,9] ⟨Nat.zero_le _,rfl,rfl⟩ ?_
 rintro ⟨u,v,hs'⟩ ⟨hu,hv,hhs⟩
 dsimp only at hu hv hhs ⊢
 by_cases hut:u < k + 1
 rotate_left
 ·obtain rfl:u = k + 1:=by omega
  rw [List.take_of_length_le (by rw [hsl];exact Nat.le_refl _)]
  repeat' first|(refine wo ?_;first|(refine ao ?_;first|refine oa ?_)|refine oa ?_)|(refine gc ?_;first|(refine ci (fun hB=>?_) (fun hB=>?_) <;> try (exfalso;omega)))|refine sq ?_|refine rg ?_|refine xc ?_|refine nl ?_|refine xe ?_|refine rt ?_
  exact r2 ⟨v,hs',rfl,hv,hhs,rfl⟩
 obtain ⟨j,hj⟩ : ∃ j,j = k - u:=⟨_,rfl⟩
 have hjk:j < k + 1:=by omega
 have hkj:(k:Int) - u = (j:Int):=by omega
 obtain ⟨r,hr⟩ : ∃ r,Ls[j]? = some r:=⟨Ls[j]'(by omega),List.getElem?_eq_getElem _⟩
 have hrK:=hLK j r hr
 have hrow:=lcs_row hr
 have hst:=hstT u
 rw [← hj] at hst
 have hone:=hone u j (by omega)
 have hWl:=hrK.wl
 have hW0:=hrK.w0
 have hMR:=hrK.eq
 have hgle:=hrK.le
 have hxv:=hrK.v1
 have hxd:=hrK.d1
 clear hLK hstT hrK
 obtain ⟨xv,xd,rG,rW⟩:=r
 dsimp only at hrow hWl hW0 hMR hgle hxv hxd
 have hlc:=lcs_len Ls
 repeat' first|refine aw (m:=(j:Int)) ?_ (h:=by rw [← hkj];rfl)|refine ixws (i:=(j:Int)) (N:=k + 1) (xs:=lcs Ls) ?_ (hm:=has_oww memA)|refine ldaw (N:=k + 1) (xs:=lcs Ls) (m:=2 * j) hrow ?_ (hm:=has_oww memA)|refine al fun c12=>?_|refine srz ?_ (hj:=Nat.le_of_ble_eq_true rfl)|(refine wo ?_;first|(refine ao ?_;first|refine oa ?_)|refine oa ?_)|(refine gc ?_;first|(refine ci (fun hB=>?_) (fun hB=>?_) <;> try (exfalso;omega)))|refine sq ?_|refine rg ?_|refine xc ?_|refine nl ?_|refine sk ?_|refine bk ?_
 refine TC.im (own_nil T64 _) ?_
 refine TC.loop (ι:=SuC) (fun g=>[(14,I g.c),(13,g.v)]) (fun g=>[own T64 g.v (Us (dg g.s))]) (fun g=>g.c ≤ n + 1∧g.v.oneCell' = true∧(g.s:Rat) = (rW:Rat) * psN n u (lvT t k n j) (g.c * (n + 1) + 0)) (fun g=>n + 1 - g.c) ⟨0,nS,0⟩ [0,1,2,9,10,11,12] ⟨Nat.zero_le _,rfl,by dsimp only;rw [Nat.zero_mul,psN_zero,Rat.mul_zero];rfl⟩ ?_ (hf:=by dsimp only;rw [dg_zero];exact fitA)
 rintro ⟨c,sv,s⟩ ⟨hc,hsv,hs⟩
 dsimp only at hc hsv hs ⊢
 by_cases hct:c < n + 1
 rotate_left
 ·obtain rfl:c = n + 1:=by omega
  have hse:(s:Rat) = (rW:Rat) * psN n u (lvT t k n j) (n * (n + 1) + (n + 1)):=by rw [Nat.succ_mul] at hs;exact hs
  have hq:=ps_end hW0 hse
  have hsW:s ≤ rW:=ps_le hse (hone _ (by rw [Nat.succ_mul];exact Nat.le_refl _))
  have hOv:=Rover_tr sv xd s rW (Nat.le_trans (dg_mono hsW) (by omega)) (by omega) hW0
  rw [hq,hst,← hsg u hut] at hOv
  have htk:=htks u hut
  have hrap:=fun p=>rcs_app (qs:=LL.take u) (rs:=[LL.getD u 0]) (hs:=hs') (gs:=[p]) (by rw [List.length_take,hsl];omega)
  have hsn:=fun (v1 v2:Value) (A F:List Ch) hf=>ofr_snoc (hs:=hs') (qs:=LL.take u) (by rw [List.length_take,hsl];omega) (LL.getD u 0) v1 v2 (A:=A) (F:=F) hf
  rw [← htk] at hsn hrap
  unfold FQ at hOv
  clear hs hse hq hsW hone hMR hgle hWl hrow hsg htks hst htk
  simp only [rcs_one] at hrap
  generalize LL.getD u 0 = qq at *
  repeat' first|(refine gca ?_;first|(refine ca hOv ?_ (hp:=has1 hasA (has1 (lv_d memA hr) has0));rintro _ _ ⟨vn,vd,rfl,hvn,hvd,rfl⟩))|refine slws (sz:=3) (xs:=rrow qq (vn,vd)) fun g2=>?_|refine apw (e:=TRt) (sz:=3) (N:=u) (M:=1) (xs:=rcs (LL.take u) hs') (ys:=rrow qq (vn,vd)) (by decide) rfl (one_cons rfl (one_cons hvn (one_cons hvd one_nil))) fun v' hv'=>?_|(refine wo ?_;first|(refine ao ?_;first|refine aw ?_|refine oa ?_)|refine oa ?_|refine ld ?_)|(refine gc ?_;first|(refine ci (fun hB=>?_) (fun hB=>?_) <;> try (exfalso;omega)))|refine sq ?_|refine rg ?_|refine xc ?_|refine nl ?_|refine xe ?_|refine xb ?_
  refine TX.im (hsn vn vd _ _ fitA) ?_
  exact lp ⟨u + 1,v',hs' ++ [(vn,vd)]⟩ ⟨hut,hv',by simp [hhs]⟩ (hf:=by dsimp only;rw [hrap];exact fitA)
 repeat' first|(refine wo ?_;first|(refine ao ?_;first|refine oa ?_)|refine oa ?_)|(refine gc ?_;first|(refine ci (fun hB=>?_) (fun hB=>?_) <;> try (exfalso;omega)))|refine sq ?_|refine rg ?_|refine xc ?_|refine nl ?_|refine sk ?_|refine bk ?_
 refine TC.loop (ι:=SuC) (fun g=>[(15,I g.c),(13,g.v)]) (fun g=>[own T64 g.v (Us (dg g.s))]) (fun g=>g.c ≤ n + 1∧g.v.oneCell' = true∧(g.s:Rat) = (rW:Rat) * psN n u (lvT t k n j) (c * (n + 1) + g.c)) (fun g=>n + 1 - g.c) ⟨0,sv,s⟩ [0,1,2,9,10,11,12,14] ⟨Nat.zero_le _,hsv,hs⟩ ?_
 clear hsv hs
 rintro ⟨q,sv,s⟩ ⟨hq,hsv,hs⟩
 dsimp only at hq hsv hs ⊢
 by_cases hqt:q < n + 1
 rotate_left
 ·obtain rfl:q = n + 1:=by omega
  have hs2:=ps_row hs
  clear hs
  repeat' first|(refine wo ?_;first|(refine ao ?_;first|refine aw ?_|refine oa ?_)|refine oa ?_)|(refine gc ?_;first|(refine ci (fun hB=>?_) (fun hB=>?_) <;> try (exfalso;omega)))|refine sq ?_|refine rg ?_|refine xc ?_|refine nl ?_|refine xe ?_|refine xb ?_
  exact lp ⟨c + 1,sv,s⟩ ⟨hct,hsv,hs2⟩
 have hsW:s ≤ rW:=ps_le hs (hone _ (by have:=Nat.mul_le_mul_right (n + 1) (show c + 1 ≤ n + 1 by omega);rw [Nat.succ_mul] at this;omega))
 have hAd:=RAdd_tr sv ((rG.c.getD c []).getD q nS) (dg s) (dg (rG.get c q)) (Dg_dg _) (Dg_dg _) (Nat.le_trans (Nat.le_trans (dg_mono hsW) hWl) (by omega)) (Nat.le_trans (Nat.le_trans (dg_mono (hgle c q (by omega) (by omega))) hWl) (by omega))
 rw [nv_dg,nv_dg] at hAd
 by_cases h:u = 0∨q = 0
 ·have hs2:=ps_step hMR (by omega) (by omega) hs h
  clear hs hsW hone hMR hgle hrow hst
  generalize s + rG.get c q = s2 at *
  repeat' first|(refine gca ?_;first|(refine ca hAd ?_ (hp:=has1 hasA (has1 (vm_c (lv_x memA hr) hct hqt) has0));rintro o _ ⟨ho,rfl⟩))|refine ixn (i:=c) (xs:=rG.h) ?_ (hh:=vm_h (lv_x memA hr)) (hb:=by rw [rG.hl];omega)|refine le (xs:=rG.h) ?_ (hh:=vm_h (lv_x memA hr)) (hj:=gm_h hct)|refine ixn (i:=q) (xs:=rG.c.getD c []) ?_ (hh:=vm_r (lv_x memA hr) hct) (hb:=by rw [rG.cc c hct];omega)|refine le (xs:=rG.c.getD c []) ?_ (hh:=vm_r (lv_x memA hr) hct) (hj:=gm_c hct hqt)|(refine wo ?_;first|(refine ao ?_;first|refine aw ?_|refine oa ?_)|refine oa ?_|refine ld ?_|refine gy ?_|refine gn ?_|(refine gsi (fun hB=>?_) (fun hB=>?_) <;> try (exfalso;omega)))|(refine gc ?_;first|refine ct ?_|(refine ci (fun hB=>?_) (fun hB=>?_) <;> try (exfalso;omega)))|refine sq ?_|refine rg ?_|refine xc ?_|refine nl ?_|refine sk ?_|refine bk ?_|refine xb ?_
  all_goals exact lp ⟨q + 1,o,s2⟩ ⟨hqt,ho,hs2⟩
 ·have hs2:=ps_skip (n:=n) (by omega) hs h
  clear hAd hsW
  repeat' first|(refine wo ?_;first|(refine ao ?_;first|refine aw ?_|refine oa ?_)|refine oa ?_|refine gy ?_|(refine gsi (fun hB=>?_) (fun hB=>?_) <;> try (exfalso;omega)))|(refine gc ?_;first|(refine ci (fun hB=>?_) (fun hB=>?_) <;> try (exfalso;omega)))|refine sq ?_|refine rg ?_|refine xc ?_|refine nl ?_|refine sk ?_|refine bk ?_|refine xb ?_
  exact lp ⟨q + 1,sv,s⟩ ⟨hqt,hsv,hs2⟩
end Go.Art
namespace Go.Art
open Go Go.Proofs Go.RowKit
def sIx (x:List Rat) (m:Nat):List Nat:=(List.range m).filter fun i=>decide (x.getD i 0 ≠ 0)
abbrev srow (c r:Nat) (q:Rat) (h:HV):List Value:=[I (c:Int),I (r:Int),.bool (decide (q.num < 0)),h.1,h.2]
def scs (n:Nat) (x:List Rat) (is:List Nat) (hs:List HV):List Value:=(List.zipWith (fun i h=>srow (i / (n + 1)) (i % (n + 1)) (x.getD i 0) h) is hs).flatten
structure SsG where
 es:List (Option HV)
 v:Value
 is:List Nat
 hs:List HV
structure SsI (x:List Rat) (ez:List (Option HV)) (N i:Nat) (g:SsG):Prop where
 ii:g.is = sIx x i
 ov:g.v.oneCell' = true
 hl:g.hs.length = g.is.length
 el:g.es.length = N
 es:∀ j,i ≤ j→j < N→g.es.getD j none = ez.getD j none
structure SdG where
 d:Bool
 v:Value
 is:List Nat
 hs:List HV
attribute [local irreducible] Fit pt own ro vw mpc lpt vels rels mow lrc dfr
attribute [local irreducible] lmp lme mit velg relg bnd owl dfrl gow shB grB
abbrev TSt:TypeId:=45
abbrev TSs:TypeId:=41
abbrev ssD (n:Nat) (x:List Rat) (v:Value) (is:List Nat) (hs:List HV):List Ch:=[oww TSt 5 v is.length (scs n x is hs),ofr hs (is.map fun i=>x.getD i 0)]
end Go.Art
