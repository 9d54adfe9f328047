/- Texts put together: Yo Yp Yq Yr Ys Yt Yu Yv Yw Yx Yy Ib Ic Id Ie Dd De Dg Dh. Conditions: none. -/
import Derived.Test.YtpabbhpgikdhfaaGreatWQf
set_option linter.unusedSimpArgs false
set_option linter.unusedVariables false
namespace Go.Art
open Go Go.Proofs Go.RowKit
theorem sR_mono {f:Nat→Rat} (h:∀ i,0 ≤ f i) {m m':Nat} (hm:m ≤ m'):sR f (List.range m) ≤ sR f (List.range m'):=by
 obtain ⟨q,rfl⟩:=Nat.exists_eq_add_of_le hm
 rw [List.range_add,sR_app]
 have:=sR_nonneg (f:=f) (l:=(List.range q).map (m + ·)) fun x _=>h x
 grind
theorem FB_le1 {E B:Nat} {q:Rat} (h:FrQ E q) (hE:E ≠ 0) (h1:q ≤ 1) (hB:E < 18446744073709551616 ^ B):FB q B:=by
 obtain ⟨a,ha,rfl⟩:=h.le hE h1
 exact FB_nat hE (Nat.lt_of_le_of_lt ha hB) hB
theorem evI_nonneg (t:List Int) (k u j:Nat):0 ≤ evI t.length k (omg t k) u j:=(evI_fr t.length k _ (oneS t k) u j).nonneg
theorem rowQ_le {t:List Int} {k u m:Nat} (hz:solE t k = 0) (hu:u ≤ k) (hm:m ≤ u - 1):sR (fun i=>evI t.length k (omg t k) u (2 + i)) (List.range m) ≤ 1:=by
 have h1:=evQ_le (m:=t.length) (k:=k) (ω:=omg t k) (fun i _=>omg_nonneg t k i) (tabX_one hz) hu
 rw [evQ_sum,sR_congr (g:=fun i=>evI t.length k (omg t k) u (2 + i)) fun j _=>by rw [Nat.add_comm]] at h1
 exact Rat.le_trans (sR_mono (fun i=>evI_nonneg t k u (2 + i)) hm) h1
theorem rowQ_evQ (t:List Int) (k u:Nat):(rowQ t k u 2).foldl (· + ·) 0 = evQ t.length k (omg t k) u:=by
 have:=rowQ_sum t k u 2 (u + 1 - 2) (Nat.le_refl _)
 rw [List.take_of_length_le (by rw [rowQ_len];exact Nat.le_refl _)] at this
 rw [this,evQ_sum,show u + 1 - 2 = u - 1 by omega]
 exact sR_congr fun j _=>by rw [Nat.add_comm]
attribute [local irreducible] Fit pt own ro vw mpc lpt vels rels mow lrc dfr
attribute [local irreducible] lmp lme mit velg relg bnd owl dfrl
abbrev TF3:TypeId:=100
theorem cfold_tr (f:FuncId) (cap:Array Value) (U W:Ch) [Lent U] [NoB W] (qs:List Rat) (hS:SeqQ Tryz.prog f cap U W qs) (s:Rat) (v1 v2:Value) (h1:v1.oneCell' = true) (h2:v2.oneCell' = true) (hF:∀ i,i < qs.length→FB (qs.getD i 0) 8589934592) (hP:∀ i,i ≤ qs.length→FB ((qs.take i).foldl (· + ·) s) 8589934592) :
  Tr Tryz.prog 262 [.func (.func f) #[] cap,rv s v1 v2,.func (.func 265) #[] #[]] [U] [own T64 v1 (Us (dg s.num.natAbs)),own T64 v2 (Us (dg s.den)),W] (FQ (qs.foldl (· + ·) s)):=by
 obtain ⟨acc,hacc⟩ : ∃ acc:Nat→Rat,acc = fun i=>(qs.take i).foldl (· + ·) s:=⟨_,rfl⟩
 have ha0:acc 0 = s:=by rw [hacc];rfl
 have haN:acc qs.length = qs.foldl (· + ·) s:=by rw [hacc];simp
 have hst:∀ i,i < qs.length→acc i + qs.getD i 0 = acc (i + 1):=fun i hi=>by rw [hacc];exact (foldl_take (· + ·) s hi 0).symm
 have hPa:∀ i,i ≤ qs.length→FB (acc i) 8589934592:=fun i hi=>by rw [hacc];exact hP i hi
 rw [← haN,← ha0]
 clear hacc ha0 haN hP
 have hrun:=@SeqQ.run _ _ _ _ _ _ hS
 clear hS
 obtain ⟨M,hM⟩ : ∃ M,M = qs.length:=⟨_,rfl⟩
 unfold FQ
 refine Tr.enterM env _ Tryz.func262 (by kernel_rfl) rfl Tryz.ntmps262 rfl (by repeat (first | exact has00 | refine has01 ?_)) fun w0=>?_
 repeat' first|refine bx fun c5=>?_|refine al fun c6=>?_|(refine wo ?_;first|refine oa ?_)|refine sq ?_|refine rg ?_|refine xc ?_|refine nl ?_|refine bk ?_
 rename_i c4
 refine TC.range [lpt c5 [.func (.func 265) #[] #[]] TF3,U] [pt c4 (rrow (acc 0) (v1,v2)) TRt,own T64 v1 (Us (dg (acc 0).num.natAbs)),own T64 v2 (Us (dg (acc 0).den)),W] (fun l2 rec Dm pend B'=>∃ vn vd,B' = [dfr Dm,pt c4 (rrow (acc M) (vn,vd)) TRt,own T64 vn (Us (dg (acc M).num.natAbs)),own T64 vd (Us (dg (acc M).den))]∧pend = none∧vn.oneCell' = true∧vd.oneCell' = true) ?_ ?_ (hp:=has1 hasA (has1 (has_mem memA) has0))
 ·intro rec l2 Dm hr
  refine Tr.unbK (C:=[lrc l2 rec .ready none,dfr Dm,pt c4 (rrow (acc 0) (v1,v2)) TRt,own T64 v1 (Us (dg (acc 0).num.natAbs)),own T64 v2 (Us (dg (acc 0).den))]) (hrun (α:=FoS) (lpt c5 [.func (.func 265) #[] #[]] TF3) l2 (fun g=>bnd [lrc l2 rec .ready none,dfr Dm,pt c4 (rrow (acc g.i) (g.vn,g.vd)) TRt,own T64 g.vn (Us (dg (acc g.i).num.natAbs)),own T64 g.vd (Us (dg (acc g.i).den))]) (fun g i=>g.i = i∧g.vn.oneCell' = true∧g.vd.oneCell' = true) (fun _=>False) ⟨0,v1,v2⟩ ⟨rfl,h1,h2⟩ (fun p=>bnd_nob (nb1 (nb1 (nb1 (nb1 (nb1 nb0)))))) ?_) ?_
  ·rintro ⟨i,vn,vd⟩ j x1 x2 hx1 hx2 ⟨hji,hvn,hvd⟩ hj
   dsimp only at hji hvn hvd
   subst hji
   have hFj:=hF i hj
   have hPj:=hPa i (by omega)
   have hsj:=hst i hj
   have hA:=plus_tr (acc i) (qs.getD i 0) vn vd x1 x2 hvn hvd hx1 hx2 hPj hFj
   unfold FQ at hA
   rw [hsj] at hA
   clear hF hPa hst hrun hFj hPj hsj
   obtain ⟨q,hq⟩ : ∃ q,q = qs.getD i 0:=⟨_,rfl⟩
   rw [← hq] at hA ⊢
   refine Ty.bndL (K:=[own T64 x1 (Us (dg q.num.natAbs)),own T64 x2 (Us (dg q.den))]) (C:=[lrc l2 rec .ready none,dfr Dm,pt c4 (rrow (acc i) (vn,vd)) TRt,own T64 vn (Us (dg (acc i).num.natAbs)),own T64 vd (Us (dg (acc i).den))]) ?_
   refine Ty.intro env hr (by repeat (first | exact has00 | refine has01 ?_)) fun w1=>?_
   repeat' first|refine al fun c7=>?_|refine xbeg ?_|refine lda (cs:=rrow (acc i) (vn,vd)) ?_|refine lda (cs:=rrow q (x1,x2)) ?_|refine srz ?_ (hj:=Nat.le_of_ble_eq_true rfl)|(refine cav (cap:=#[]) (vs:=[rv (acc i) vn vd,rv q x1 x2]) hA ?_;rintro _ _ ⟨n1,n2,rfl,hn1,hn2,rfl⟩)|(refine wo ?_;first|refine ldl ?_)|refine rg ?_|refine nl ?_|refine bk ?_|refine xb ?_
   exact yn ⟨⟨i + 1,n1,n2⟩,rfl,.inl ⟨rfl,rfl,hn1,hn2⟩⟩
  ·rintro _ _ ⟨⟨i,vn,vd⟩,rfl,⟨rfl,g2,g3⟩ | h⟩
   ·exact ⟨_,rfl,.ready,none,_,rfl,by decide,vn,vd,by rw [hM],rfl,g2,g3⟩
   ·exact h.elim
 ·rintro l2 rec Dm pend B' ⟨vn,vd,rfl,rfl,g2,g3⟩
  show TX env _ _ _ _ _ _
  refine TX.im (dfrl_nil _) ?_
  refine TX.im (dfrl_push (D:=Dm) (Ds:=[]) fitA) ?_
  rw [← hM]
  generalize acc M = q at *
  repeat' first|refine lda (cs:=rrow q (vn,vd)) ?_|refine srz ?_ (hj:=Nat.le_of_ble_eq_true rfl)|refine sq ?_|refine rg ?_|refine xc ?_|refine nl ?_|refine rt ?_|refine xb ?_
  exact mca1 (Ds:=[Dm]) (cs:=rrow q (vn,vd)) (vs:=rrow q (vn,vd)) (T:=TRt) ⟨vn,vd,rfl,g2,g3,rfl⟩
end Go.Art
namespace Go.Art
open Go Go.Proofs Go.RowKit
theorem inQ_all (t:List Int) (k u j:Nat):(inQ t k u j).foldl (· + ·) 0 = evI t.length k (omg t k) u j:=by
 have:=inQ_sum t k u j t.length (Nat.le_refl _)
 rwa [List.take_of_length_le (by rw [inQ_len];exact Nat.le_refl _)] at this
theorem num_sign {q:Rat} (h:0 ≤ q) (h0:q ≠ 0):q.num.sign = 1∧0 < q.num:=by
 have h1:0 ≤ q.num:=Rat.num_nonneg.2 h
 have h2:q.num ≠ 0:=fun e=>h0 (Rat.num_eq_zero.1 e)
 have h3:0 < q.num:=by omega
 exact ⟨Int.sign_eq_one_of_pos h3,h3⟩
theorem two_mk (u:Nat):mkRat ((2:Nat):Int) u = 2 / (u:Rat):=by rw [Rat.mkRat_eq_div];rfl
theorem zero_mk:mkRat ((0:Nat):Int) 1 = 0:=by simp
theorem evI_le1 {t:List Int} {k u:Nat} (hz:solE t k = 0) (hu:u ≤ k) (h2:2 ≤ u):evI t.length k (omg t k) u 2 ≤ 1:=by
 have h1:=rowQ_le (m:=1) hz hu (by omega)
 simp only [List.range_succ,List.range_zero,List.nil_append,sR] at h1
 grind
attribute [local irreducible] Fit pt own ro vw mpc lpt vels rels mow lrc dfr
attribute [local irreducible] lmp lme mit velg relg bnd owl dfrl
abbrev plusV:Value:=.func (.func 265) #[] #[]
theorem in_tr (tv:Value) (htv:tv.oneCell' = true) (t:List Int) (k u j:Nat) (hz:solE t k = 0) (hk:k ≤ 40) (hl:t.length ≤ 12) (hu:u ≤ k) (hj:j ≤ u):Tr Tryz.prog 213 [tv,I k,I u,I j] [vw tv (Is t)] [] (FQ (evI t.length k (omg t k) u j)):=by
 obtain ⟨z1,z2,z3,z4⟩:=solE_zero hz
 have hT:=SoTotal_tr tv t (by omega) z3
 have hP:=cpair_tr 0 1 (by decide) (by decide) (by decide)
 rw [zero_mk] at hP
 have hseq:=fun p1 p2 p3 p4 p5=>in1_seq p1 p2 p3 p4 p5 tv t k u j hz hk hl hu hj
 have hfold:=fun p1 p2 p3 p4 p5 n1 d1 hn1 hd1=>cfold_tr 263 #[ptr p1,ptr p2,ptr p3,ptr p4,ptr p5] _ _ (inQ t k u j) (hseq p1 p2 p3 p4 p5) 0 n1 d1 hn1 hd1 (fun i hi=>by
  rw [inQ_len] at hi
  rw [inQ_get hi]
  exact (term_FB hz hk hl hu hi).le (by decide)) (fun i hi=>by
  rw [inQ_len] at hi
  rw [inQ_sum t k u j i hi]
  exact (evI_FB hz hk hl hu hi).le (by decide))
 simp only [inQ_all] at hfold
 unfold FQ at hfold hP ⊢
 generalize evI t.length k (omg t k) u j = q at *
 clear hseq z1 z2 z3 z4
 obtain ⟨z,hz0⟩ : ∃ z:Rat,z = 0:=⟨_,rfl⟩
 rw [← hz0] at hP hfold
 clear hz0
 refine Tr.enter env _ Tryz.func213 (by kernel_rfl) rfl Tryz.ntmps213 rfl (by repeat (first | exact has00 | refine has01 ?_)) fun w0=>?_
 refine TC.im (own_nil T64 _) ?_
 repeat' first|(refine gca ?_;first|(refine ca hT ?_;rintro _ _ ⟨rfl,rfl⟩)|(refine ca hP ?_;rintro _ _ ⟨n1,d1,rfl,hn1,hd1,rfl⟩))|refine bx1 fun b=>?_|refine al fun c=>?_|refine srz ?_|(refine wo ?_;first|refine oa ?_|refine ld ?_|refine sr ?_)|refine sq ?_|refine rg ?_|refine xc ?_|refine nl ?_
 rename_i c4 c5 c6 c8
 repeat' first|(refine cav (cap:=#[]) (vs:=[.func (.func 263) #[] #[ptr c4,ptr c,ptr c5,ptr c6,ptr b],rv z n1 d1,plusV]) (hfold c4 c c5 c6 b n1 d1 hn1 hd1) ?_ (hp:=has1 (lbd_of (has1 hasA (has1 hasA (has1 hasA (has1 hasA (has1 hasA (has1 hasA has0))))))) has0);rintro _ _ ⟨n2,d2,rfl,hn2,hd2,rfl⟩)|refine srz ?_|refine xc ?_|refine nl ?_|refine rt ?_
 exact rca1 (cs:=[.bool (decide (q.num < 0)),n2,d2]) (vs:=[.bool (decide (q.num < 0)),n2,d2]) (T:=TRt) ⟨n2,d2,rfl,hn2,hd2,rfl⟩
theorem row1_seq (pj pu pt' pk:Nat) (tv:Value) (htv:tv.oneCell' = true) (t:List Int) (k u j:Nat) (hz:solE t k = 0) (hk:k ≤ 40) (hl:t.length ≤ 12) (hu:u ≤ k) (hj:j ≤ 2) :
  SeqQ Tryz.prog 290 #[ptr pj,ptr pu,ptr pt',ptr pk] (lbd [lpt pu [I u] TLI,lpt pt' [tv] TLs,lpt pk [I k] TLI,vw tv (Is t)]) (pt pj [I j] TLI) (rowQ t k u j):=by
 refine ⟨fun {α} V hV l J pl S a0 h0 hnb hy=>?_⟩
 haveI:=hV
 haveI:∀ a,NoB (J a):=fun a=>⟨hnb a⟩
 refine Tr.pre (pre:=[V,lpt pu [I u] TLI,lpt pt' [tv] TLs,lpt pk [I k] TLI,vw tv (Is t)]) ?_ (has1 (has_mem (by simp)) (has_lbds (C:=[lpt pu [I u] TLI,lpt pt' [tv] TLs,lpt pk [I k] TLI,vw tv (Is t)]) (by simp) _ (by repeat (first | exact has00 | refine has01 ?_)) fun c hc=>hc)) (by repeat (first | exact has00 | refine has01 ?_))
 rw [rowQ_len] at hy ⊢
 have hin:=fun m (hm:m ≤ u)=>in_tr tv htv t k u m hz hk hl hu hm
 have hget:=fun i (hi:i < u + 1 - j)=>rowQ_get (t:=t) (k:=k) (u:=u) (j:=j) hi
 clear hz
 refine Tr.enter env _ Tryz.func290 (by kernel_rfl) rfl Tryz.ntmps290 rfl (by repeat (first | exact has00 | refine has01 ?_)) fun w0=>?_
 repeat' first|refine bk ?_
 refine TC.loop (ι:=InS α) (fun _=>[]) (fun g=>[pt pj [I ((j + g.i:Nat):Int)] TLI,J g.a]) (fun g=>g.i ≤ u + 1 - j∧pl g.a g.i) (fun g=>u + 1 - j - g.i) ⟨0,a0⟩ [0,1,2,3,4] ⟨Nat.zero_le _,h0⟩ ?_
 rintro ⟨i,a⟩ ⟨hi,ha⟩
 dsimp only at hi ha ⊢
 by_cases hlt:i < u + 1 - j
 ·have hN:=hin (j + i) (by omega)
  have hG:=hget i hlt
  have hyi:=fun v1 v2 h1 h2=>hy a i v1 v2 h1 h2 ha hlt
  rw [hG] at hyi
  unfold FQ at hN
  clear hin hget hG hy
  generalize evI t.length k (omg t k) u (j + i) = q at *
  repeat' first|(refine gca ?_;first|(refine ca hN ?_;rintro _ _ ⟨n1,d1,rfl,hn1,hd1,rfl⟩))|(refine cy (hyi n1 d1 hn1 hd1) ?_ (hp:=has1 (has_mem memA) has0);rintro ok _ ⟨a2,rfl,⟨rfl,h3⟩ | ⟨rfl,h3⟩⟩)|(refine aw (m:=((j + (i + 1):Nat):Int)) ?_)|(refine wo ?_;first|(refine ao ?_;first|refine oa ?_)|refine oa ?_|refine ld ?_|refine ldl ?_|refine sr ?_|refine gy ?_|(refine gsi (fun hB=>?_) (fun hB=>?_) <;> try (exfalso;omega)))|(refine gc ?_;first|refine ct ?_|refine cf ?_)|refine sq ?_|refine rg ?_|refine xc ?_|refine nl ?_|refine sk ?_|refine bk ?_|refine xe ?_|refine xb ?_
  ·exact lp ⟨i + 1,a2⟩ ⟨hlt,h3⟩
  ·exact e0 ⟨a2,rfl,.inr h3⟩
 ·obtain rfl:i = u + 1 - j:=by omega
  repeat' first|(refine wo ?_;first|(refine ao ?_;first|refine oa ?_)|refine oa ?_|refine ld ?_|refine ldl ?_|refine gn ?_|(refine gsi (fun hB=>?_) (fun hB=>?_) <;> try (exfalso;omega)))|(refine gc ?_;first|refine cf ?_)|refine sq ?_|refine rg ?_|refine xc ?_|refine nl ?_|refine xe ?_
  exact e0 ⟨a,rfl,.inl ha⟩
theorem row_tr (tv:Value) (htv:tv.oneCell' = true) (k u j:Int):Tr Tryz.prog 266 [tv,I k,I u,I j] [] [] fun v D=>∃ pj pu pt' pk,v = .func (.func 290) #[] #[ptr pj,ptr pu,ptr pt',ptr pk]∧D = [pt pj [I j] TLI,pt pu [I u] TLI,pt pk [I k] TLI,pt pt' [tv] TLs]:=by
 refine Tr.enter env _ Tryz.func266 (by kernel_rfl) rfl Tryz.ntmps266 rfl (by repeat (first | exact has00 | refine has01 ?_)) fun w0=>?_
 repeat' first|refine bx1 fun b=>?_|(refine wo ?_;first|refine oa ?_)|refine sq ?_|refine rg ?_|refine xc ?_|refine nl ?_|refine rt ?_
 exact r1 ⟨_,_,_,_,rfl,rfl⟩
theorem Cloud_tr (tv:Value) (htv:tv.oneCell' = true) (t:List Int) (k u:Nat) (hz:solE t k = 0) (hk:k ≤ 40) (hl:t.length ≤ 12) (hu:u ≤ k):Tr Tryz.prog 216 [tv,I k,I u] [vw tv (Is t)] [] (FQ2 (evQ t.length k (omg t k) u) 0):=by
 have hR:=crefuses_tr tv t k u hz (by omega) hu
 have hP:=cpair_tr 0 1 (by decide) (by decide) (by decide)
 rw [zero_mk] at hP
 have hW:=row_tr tv htv (k:Int) (u:Int) 2
 have hseq:=fun p1 p2 p3 p4=>row1_seq p1 p2 p3 p4 tv htv t k u 2 hz hk hl hu (by decide)
 have hO:=oneS_lt hz hk hl
 have hfold:=fun p1 p2 p3 p4 n1 d1 hn1 hd1=>cfold_tr 290 #[ptr p1,ptr p2,ptr p3,ptr p4] _ _ (rowQ t k u 2) (hseq p1 p2 p3 p4) 0 n1 d1 hn1 hd1 (fun i hi=>by
  rw [rowQ_len] at hi
  rw [rowQ_get hi]
  exact (evI_FB hz hk hl hu (Nat.le_refl _)).le (by decide)) (fun i hi=>by
  rw [rowQ_len] at hi
  rw [rowQ_sum t k u 2 i hi]
  exact (FB_le1 (FrQ.sum fun j _=>evI_fr t.length k _ (oneS t k) u (2 + j)) (oneS_pos hz) (rowQ_le hz hu (by omega)) hO).le (by decide))
 simp only [rowQ_evQ] at hfold
 unfold FQ at hfold hP
 unfold FQ2
 generalize evQ t.length k (omg t k) u = q at *
 clear hseq hO
 obtain ⟨z,hz0⟩ : ∃ z:Rat,z = 0:=⟨_,rfl⟩
 rw [← hz0] at hP hfold
 clear hz0 hz
 refine Tr.enter env _ Tryz.func216 (by kernel_rfl) rfl Tryz.ntmps216 rfl (by repeat (first | exact has00 | refine has01 ?_)) fun w0=>?_
 repeat' first|(refine gca ?_;first|(refine ca hR ?_;rintro _ _ ⟨rfl,rfl⟩)|(refine ca hW ?_;rintro _ _ ⟨pj,pu,pt',pk,rfl,rfl⟩)|(refine ca hP ?_;rintro _ _ ⟨n1,d1,rfl,hn1,hd1,rfl⟩))|refine al fun c=>?_|(refine cav (cap:=#[]) (vs:=[.func (.func 290) #[] #[ptr pj,ptr pu,ptr pt',ptr pk],rv z n1 d1,plusV]) (hfold pj pu pt' pk n1 d1 hn1 hd1) ?_ (hp:=has1 (lbd_of (has1 hasA (has1 hasA (has1 hasA (has1 hasA has0))))) has0);rintro _ _ ⟨n2,d2,rfl,hn2,hd2,rfl⟩)|refine srz ?_|(refine wo ?_;first|(refine ao ?_;first|refine oa ?_)|refine oa ?_)|(refine gc ?_;first|refine cf ?_)|refine sq ?_|refine rg ?_|refine xc ?_|refine nl ?_|refine sk ?_|refine rt ?_
 exact rca (cs:=[.bool (decide (q.num < 0)),n2,d2]) (vs:=[.bool (decide (q.num < 0)),n2,d2]) (T:=TRt) ⟨n2,d2,rfl,hn2,hd2,rfl⟩
theorem In_tr (tv:Value) (htv:tv.oneCell' = true) (t:List Int) (k u j:Nat) (hz:solE t k = 0) (hk:k ≤ 40) (hl:t.length ≤ 12) (hu:u ≤ k) (hj:j ≤ u):Tr Tryz.prog 167 [tv,I k,I u,I j] [vw tv (Is t)] [] (FQ2 (evI t.length k (omg t k) u j) 0):=by
 have hR:=crefuses_tr tv t k u hz (by omega) hu
 have hI:=in_tr tv htv t k u j hz hk hl hu hj
 unfold FQ at hI
 unfold FQ2
 generalize evI t.length k (omg t k) u j = q at *
 refine Tr.enter env _ Tryz.func167 (by kernel_rfl) rfl Tryz.ntmps167 rfl (by repeat (first | exact has00 | refine has01 ?_)) fun w0=>?_
 repeat' first|(refine gca ?_;first|(refine ca hR ?_;rintro _ _ ⟨rfl,rfl⟩)|(refine ca hI ?_;rintro _ _ ⟨n2,d2,rfl,hn2,hd2,rfl⟩))|refine al fun c=>?_|refine srz ?_|(refine wo ?_;first|(refine ao ?_;first|refine oa ?_)|refine oa ?_|refine gy ?_)|(refine gc ?_;first|refine cf ?_|(refine ci (fun hB=>?_) (fun hB=>?_) <;> try (exfalso;omega)))|refine sq ?_|refine rg ?_|refine xc ?_|refine nl ?_|refine sk ?_|refine rt ?_
 exact rca (cs:=[.bool (decide (q.num < 0)),n2,d2]) (vs:=[.bool (decide (q.num < 0)),n2,d2]) (T:=TRt) ⟨n2,d2,rfl,hn2,hd2,rfl⟩
theorem Free_tr (tv:Value) (htv:tv.oneCell' = true) (t:List Int) (k u:Nat) (hz:solE t k = 0) (hk:k ≤ 40) (hl:t.length ≤ 12) (h1:1 ≤ u) (hu:u ≤ k):Tr Tryz.prog 170 [tv,I k,I u] [vw tv (Is t)] [] (FQ2 (fT t k u) 0):=by
 have hC:=Cloud_tr tv htv t k u hz hk hl hu
 have hO:=oneS_lt hz hk hl
 have hO0:=oneS_pos hz
 have hQ1:=evQ_le (m:=t.length) (k:=k) (ω:=omg t k) (fun i _=>omg_nonneg t k i) (tabX_one hz) hu
 have hQ0:=evQ_nonneg (m:=t.length) (k:=k) (ω:=omg t k) (fun i _=>omg_nonneg t k i) u
 have hQF:=evQ_fr t.length k (fun i=>wS t k (i + 1)) (oneS t k) u
 have hQB:FB (evQ t.length k (omg t k) u) 10:=FB_le1 hQF hO0 hQ1 hO
 have hS:=fun o ho=>ISign_tr (evQ t.length k (omg t k) u).num o ho (by have:=hQB.1;omega)
 unfold FQ2 at hC
 by_cases he:evQ t.length k (omg t k) u = 0
 ·have hf:fT t k u = evQ t.length k (omg t k) u:=by unfold fT freeR;rw [if_pos he,he]
  rw [hf]
  have hs:(evQ t.length k (omg t k) u).num.sign = 0:=by rw [he];rfl
  rw [hs] at hS
  unfold FQ2
  unfold iv at hS
  generalize evQ t.length k (omg t k) u = q at *
  clear hQF hQB hQ1 hQ0 he hs hf hO hz
  refine Tr.enter env _ Tryz.func170 (by kernel_rfl) rfl Tryz.ntmps170 rfl (by repeat (first | exact has00 | refine has01 ?_)) fun w0=>?_
  repeat' first|(refine gca ?_;first|(refine ca hC ?_;rintro _ _ ⟨n1,d1,rfl,hn1,hd1,rfl⟩)|(refine ca (hS n1 hn1) ?_;rintro _ _ ⟨rfl,rfl⟩))|refine al fun c=>?_|refine srz ?_|refine lda (vs:=[.bool (decide (q.num < 0)),n1]) ?_|refine lda ?_|(refine wo ?_;first|(refine ao ?_;first|refine oa ?_)|refine oa ?_)|(refine gc ?_;first|refine ct ?_|refine cf ?_|(refine ci (fun hB=>?_) (fun hB=>?_) <;> try (exfalso;omega)))|refine sq ?_|refine rg ?_|refine xc ?_|refine nl ?_|refine bk ?_|refine rt ?_
  exact rca (cs:=[.bool (decide (q.num < 0)),n1,d1]) (vs:=[.bool (decide (q.num < 0)),n1,d1]) (T:=TRt) ⟨n1,d1,rfl,hn1,hd1,rfl⟩
 ·have hu2:2 ≤ u:=by
   rcases Nat.lt_or_ge u 2 with h | h
   ·exact absurd (by rw [evQ_sum,show u - 1 = 0 by omega];rfl) he
   ·exact h
  obtain ⟨hs,hpos⟩:=num_sign hQ0 he
  rw [hs] at hS
  have hP:=cpair_tr 2 u (by decide) (by omega) (by omega)
  have hI:=in_tr tv htv t k u 2 hz hk hl hu hu2
  have hIB:=(evI_FB (j:=2) hz hk hl hu (Nat.le_refl _)).le (show 12 ≤ 8589934592 by decide)
  have hF1:FB (mkRat ((2:Nat):Int) u) 8589934592:=(FB_mk1 (by omega) (by decide) (by omega)).le (by decide)
  have hMul:=fun lv v1 v2 v3 v4=>FMul2_tr (mkRat ((2:Nat):Int) u) (evI t.length k (omg t k) u 2) lv v1 v2 v3 v4 hF1 hIB
  have hXB:FB (mkRat ((2:Nat):Int) u * evI t.length k (omg t k) u 2) 12:=by
   obtain ⟨a,ha,hq⟩:=(evI_fr t.length k (fun i=>wS t k (i + 1)) (oneS t k) u 2).le hO0 (evI_le1 hz hu hu2)
   have e:mkRat ((2:Nat):Int) u * evI t.length k (omg t k) u 2 = ((2 * a:Nat):Rat) / ((u * oneS t k:Nat):Rat):=by
    rw [hq,two_mk]
    have z1:=nz hO0
    have z2:=nz (show u ≠ 0 by omega)
    push_cast;grind
   rw [e]
   refine FB_nat (Nat.mul_ne_zero (by omega) hO0) ?_ ?_
   ·exact Nat.lt_of_le_of_lt (Nat.mul_le_mul_left 2 (Nat.le_trans ha (Nat.le_of_lt hO))) (by decide)
   ·exact Nat.lt_of_le_of_lt (Nat.mul_le_mul (show u ≤ 40 by omega) (Nat.le_of_lt hO)) (by decide)
  have hDiv:=fun v1 v2 v3 v4 h1 h2 h3 h4=>FDiv_tr (mkRat ((2:Nat):Int) u * evI t.length k (omg t k) u 2) (evQ t.length k (omg t k) u) v1 v2 v3 v4 h1 h2 h3 h4 (hXB.le (by decide)) (hQB.le (by decide)) hpos
  have hf:fT t k u = mkRat ((2:Nat):Int) u * evI t.length k (omg t k) u 2 / evQ t.length k (omg t k) u:=by
   unfold fT freeR;rw [if_neg he,two_mk]
  rw [← hf] at hDiv
  unfold FQ at hP hI
  unfold FQ2 at hMul hDiv ⊢
  unfold iv at hS
  clear hf hXB hIB hF1 hQF hQB hQ1 hQ0 he hs hpos hO
  obtain ⟨x,hx⟩ : ∃ x,x = mkRat ((2:Nat):Int) u * evI t.length k (omg t k) u 2:=⟨_,rfl⟩
  rw [← hx] at hMul hDiv
  clear hx
  generalize mkRat ((2:Nat):Int) u = q1 at *
  generalize evI t.length k (omg t k) u 2 = q2 at *
  generalize fT t k u = f at *
  generalize evQ t.length k (omg t k) u = q at *
  refine Tr.enter env _ Tryz.func170 (by kernel_rfl) rfl Tryz.ntmps170 rfl (by repeat (first | exact has00 | refine has01 ?_)) fun w0=>?_
  repeat' first|(refine gca ?_;first|(refine ca hC ?_;rintro _ _ ⟨n1,d1,rfl,hn1,hd1,rfl⟩)|(refine ca (hS n1 hn1) ?_;rintro _ _ ⟨rfl,rfl⟩)|(refine ca hP ?_;rintro _ _ ⟨n2,d2,rfl,hn2,hd2,rfl⟩)|(refine ca hI ?_;rintro _ _ ⟨n3,d3,rfl,hn3,hd3,rfl⟩)|(refine ca (hMul _ n2 d2 n3 d3) ?_ (hp:=has1 (has_oww memA) (has1 hasA (has1 hasA (has1 hasA (has1 hasA has0)))));rintro _ _ ⟨n4,d4,rfl,hn4,hd4,rfl⟩)|(refine ca (hDiv n4 d4 n1 d1 hn4 hd4 hn1 hd1) ?_;rintro _ _ ⟨n5,d5,rfl,hn5,hd5,rfl⟩))|refine al fun c=>?_|refine srz ?_|refine lda (vs:=[.bool (decide (q.num < 0)),n1]) ?_|refine lda ?_|refine slws (sz:=3) (xs:=rrow q1 (n2,d2) ++ rrow q2 (n3,d3)) (fun g2=>?_)|(refine wo ?_;first|(refine ao ?_;first|refine oa ?_)|refine oa ?_)|(refine gc ?_;first|refine cf ?_|(refine ci (fun hB=>?_) (fun hB=>?_) <;> try (exfalso;omega)))|refine sq ?_|refine rg ?_|refine xc ?_|refine nl ?_|refine sk ?_|refine bk ?_|refine rt ?_|refine xb ?_
  exact rca (cs:=[.bool (decide (f.num < 0)),n5,d5]) (vs:=[.bool (decide (f.num < 0)),n5,d5]) (T:=TRt) ⟨n5,d5,rfl,hn5,hd5,rfl⟩
end Go.Art
namespace Go.Art
open Go Go.Proofs Go.RowKit
abbrev HV:=Value × Value
def gpc (q:Rat):Option HV→Ch
 | none=>bnd []
 | some h=>bnd [own T64 h.1 (Us (dg q.num.natAbs)),own T64 h.2 (Us (dg q.den))]
def gps (es:List (Option HV)) (qs:List Rat):List Ch:=List.zipWith (fun e q=>gpc q e) es qs
def gow (es:List (Option HV)) (qs:List Rat):Ch:=bnd (gps es qs)
def hsE (z:HV) (es:List (Option HV)):List HV:=es.map fun e=>e.getD z
theorem hsE_len (z:HV) (es:List (Option HV)):(hsE z es).length = es.length:=by simp [hsE]
theorem hsE_get {z:HV} {es:List (Option HV)} {i:Nat} (h:i < es.length):(hsE z es).getD i nS2 = (es.getD i none).getD z:=by simp [hsE,List.getD_eq_getElem?_getD,h]
theorem hsE_set (z:HV) (es:List (Option HV)) (i:Nat) (h:HV):hsE z (es.set i (some h)) = (hsE z es).set i h:=by unfold hsE;rw [List.map_set];rfl
theorem hsE_none (z:HV) (N:Nat):hsE z (List.replicate N none) = List.replicate N z:=by simp [hsE]
theorem gpc_nb (q:Rat):∀ e:Option HV,∀ b,¬ (gpc q e).bd b
 | none=>bnd_nob fun _ h=>nomatch h
 | some h=>bnd_nob (nb1 (nb1 nb0))
theorem gps_mem {c:Ch}:∀ {es:List (Option HV)} {qs:List Rat},c ∈ gps es qs→∃ q e,c = gpc q e
 | [],_,h=>nomatch h
 | _ :: _,[],h=>nomatch h
 | e :: es,q :: qs,h=>by
  rcases List.mem_cons.1 h with h | h
  ·exact ⟨q,e,h⟩
  ·exact gps_mem (es:=es) (qs:=qs) h
theorem gow_nb (es:List (Option HV)) (qs:List Rat):∀ b,¬ (gow es qs).bd b:=bnd_nob fun c hc=>by
 obtain ⟨q,e,rfl⟩:=gps_mem hc
 exact gpc_nb _ _
instance (es:List (Option HV)) (qs:List Rat):NoB (gow es qs):=⟨gow_nb es qs⟩
theorem gps_len {es:List (Option HV)} {qs:List Rat} (h:es.length = qs.length):(gps es qs).length = qs.length:=by simp [gps];omega
theorem gps_get {es:List (Option HV)} {qs:List Rat} {i:Nat} (h1:i < es.length) (h2:i < qs.length):(gps es qs)[i]? = some (gpc (qs.getD i 0) (es.getD i none)):=by
 unfold gps
 rw [List.getElem?_zipWith,List.getElem?_eq_getElem h1,List.getElem?_eq_getElem h2]
 simp [List.getD_eq_getElem?_getD,h1,h2]
theorem gps_set {e:Option HV} {q:Rat}:∀ {es:List (Option HV)} {qs:List Rat} {i:Nat},(gps es qs).set i (gpc q e) = gps (es.set i e) (qs.set i q)
 | [],qs,i=>by simp [gps]
 | a :: es,[],i=>by simp [gps]
 | a :: es,b :: qs,0=>by simp [gps]
 | a :: es,b :: qs,i + 1=>by
  have:=gps_set (e:=e) (q:=q) (es:=es) (qs:=qs) (i:=i)
  simpa [gps] using this
theorem gow_none (F:List Ch):∀ (N:Nat) (qs:List Rat),Im F (gow (List.replicate N none) qs :: F)
 | 0,qs=>bnd_nil F
 | N + 1,[]=>bnd_nil F
 | N + 1,q :: qs=>(gow_none F N qs).trans ((bnd_nil _).trans (bnd_cons (bnd []) (gps (List.replicate N none) qs) F))
theorem im_swap3 (a b c:Ch) (F:List Ch):Im (a :: b :: c :: F) (c :: a :: b :: F):=Im.perm (by
 have:([a,b] ++ c :: F).Perm (c :: ([a,b] ++ F)):=List.perm_middle
 exact this)
theorem gow_set {es:List (Option HV)} {qs:List Rat} (hl:es.length = qs.length) {i:Nat} (hi:i < qs.length) (q:Rat) (v1 v2:Value) {A F:List Ch} (hf:Fit A [own T64 v1 (Us (dg q.num.natAbs)),own T64 v2 (Us (dg q.den)),gow es qs] F):Im A (gow (es.set i (some (v1,v2))) (qs.set i q) :: F):=by
 refine Im.trans hf ?_
 show Im (own T64 v1 (Us (dg q.num.natAbs)) :: own T64 v2 (Us (dg q.den)) :: gow es qs :: F) _
 refine (im_swap3 _ _ _ F).trans ?_
 refine (bnd_take (gps_get (by omega) hi) _).trans ?_
 refine (Im.tail _ _).trans ?_
 refine (Im.perm (show List.Perm (bnd ((gps es qs).eraseIdx i) :: own T64 v1 (Us (dg q.num.natAbs)) :: own T64 v2 (Us (dg q.den)) :: F) ([own T64 v1 (Us (dg q.num.natAbs)),own T64 v2 (Us (dg q.den))] ++ bnd ((gps es qs).eraseIdx i) :: F) from (List.perm_middle (l₁:=[own T64 v1 (Us (dg q.num.natAbs)),own T64 v2 (Us (dg q.den))])).symm)).trans ?_
 refine (im_bnd [own T64 v1 (Us (dg q.num.natAbs)),own T64 v2 (Us (dg q.den))] _).trans ?_
 have:=bnd_put (C:=gps es qs) (i:=i) (gpc q (some (v1,v2))) (by rw [gps_len hl];exact hi) F
 rw [gps_set] at this
 exact this
theorem gow_out {es:List (Option HV)} {qs:List Rat} (hl:es.length = qs.length) {i:Nat} (hi:i < qs.length) {v1 v2:Value} (he:es.getD i none = some (v1,v2)) (F:List Ch):Im (gow es qs :: F) (own T64 v1 (Us (dg (qs.getD i 0).num.natAbs)) :: own T64 v2 (Us (dg (qs.getD i 0).den)) :: gow (es.set i none) qs :: F):=by
 have h1:=gps_get (es:=es) (qs:=qs) (i:=i) (by omega) hi
 rw [he] at h1
 refine (bnd_take h1 F).trans ?_
 refine (un_bnd [own T64 v1 (Us (dg (qs.getD i 0).num.natAbs)),own T64 v2 (Us (dg (qs.getD i 0).den))] _).trans ?_
 refine Im.cons _ (Im.cons _ ?_)
 refine (bnd_nil _).trans ?_
 have:=bnd_put (C:=gps es qs) (i:=i) (gpc (qs.getD i 0) none) (by rw [gps_len hl];exact hi) F
 rw [gps_set,show qs.set i (qs.getD i 0) = qs by
  refine List.ext_getElem (by simp) fun j a b=>?_
  rw [List.getElem_set]
  split
  ·rename_i e;subst e;simp [List.getD_eq_getElem?_getD,hi]
  ·rfl] at this
 exact this
theorem has_bndI {F C:List Ch} {c d:Ch} (h:Has F (bnd C)∨bnd C ∈ F) (hd:d ∈ C) (hc:Has [d] c):Has F c:=by
 have hP:∀ w,Sat F w→Sat C w:=fun w hw=>by
  rcases h with h | h
  ·exact h.P w hw
  ·exact hw.h _ h
 have hft:∀ b,fts C b→fts F b:=fun b hb=>by
  rcases h with h | h
  ·exact h.ft b (bnd_ft.2 hb)
  ·exact ⟨_,h,bnd_ft.2 hb⟩
 exact ⟨fun w hw=>hc.P w (Sat.one ((hP w hw).h d hd)),hc.wr,hc.rd,fun b hb=>by
  obtain ⟨x,hx,hf⟩:=hc.ft b hb
  obtain rfl:x = d:=by simpa using hx
  exact hft b ⟨x,hd,hf⟩⟩
structure Grd (n:Nat) (es:List (Option HV)) (qs:List Rat):Prop where
 el:es.length = (n + 1) * (n + 1)
 ql:qs.length = (n + 1) * (n + 1)
 z:∀ i,i < (n + 1) * (n + 1)→es.getD i none = none→qs.getD i 0 = 0
theorem has_gow {F:List Ch} {n:Nat} {es:List (Option HV)} {qs:List Rat} {z:HV} (hg:Grd n es qs) (h:gow es qs ∈ F) (hz1:Has F (vw z.1 (Us (dg (0:Rat).num.natAbs)))) (hz2:Has F (vw z.2 (Us (dg (0:Rat).den)))) {i:Nat} (hi:i < (n + 1) * (n + 1)) :
  Has F (vw ((hsE z es).getD i nS2).1 (Us (dg (qs.getD i 0).num.natAbs)))∧Has F (vw ((hsE z es).getD i nS2).2 (Us (dg (qs.getD i 0).den))):=by
 rw [hsE_get (by rw [hg.el];exact hi)]
 cases he:es.getD i none with
 | none=>
  rw [hg.z i hi he]
  exact ⟨hz1,hz2⟩
 | some p=>
  have h1:=gps_get (es:=es) (qs:=qs) (i:=i) (by rw [hg.el];exact hi) (by rw [hg.ql];exact hi)
  rw [he] at h1
  have h2:Has F (vw p.1 (Us (dg (qs.getD i 0).num.natAbs))):=has_bndI (.inr h) (List.mem_of_getElem? h1) (has_bndI (.inr (List.mem_singleton.2 rfl)) (List.Mem.head _) (has_own (List.mem_singleton.2 rfl)))
  have h3:Has F (vw p.2 (Us (dg (qs.getD i 0).den))):=has_bndI (.inr h) (List.mem_of_getElem? h1) (has_bndI (.inr (List.mem_singleton.2 rfl)) (List.Mem.tail _ (List.Mem.head _)) (has_own (List.mem_singleton.2 rfl)))
  exact ⟨h2,h3⟩
theorem has_vfr_of {F:List Ch}:∀ {hs:List HV} {qs:List Rat},hs.length = qs.length→(∀ i,i < qs.length→Has F (vw (hs.getD i nS2).1 (Us (dg (qs.getD i 0).num.natAbs)))∧Has F (vw (hs.getD i nS2).2 (Us (dg (qs.getD i 0).den))))→Has F (vfr hs qs)
 | [],[],_,_=>has_vfr_nil
 | [],_ :: _,h,_=>by simp at h
 | _ :: _,[],h,_=>by simp at h
 | (v1,v2) :: hs,q :: qs,h,H=>has_vfr_cons (H 0 (by simp)).1 (H 0 (by simp)).2 (has_vfr_of (by simpa using h) fun i hi=>by
  have:=H (i + 1) (by simpa using hi)
  simpa [List.getD_eq_getElem?_getD] using this)
theorem has_gvfr {F:List Ch} {n:Nat} {es:List (Option HV)} {qs:List Rat} {z:HV} (hg:Grd n es qs) (h:gow es qs ∈ F) (hz1:Has F (vw z.1 (Us (dg (0:Rat).num.natAbs)))) (hz2:Has F (vw z.2 (Us (dg (0:Rat).den)))):Has F (vfr (hsE z es) qs):=
 has_vfr_of (by rw [hsE_len,hg.el,hg.ql]) fun i hi=>has_gow hg h hz1 hz2 (by rw [hg.ql] at hi;exact hi)
theorem Grd.set {n:Nat} {es:List (Option HV)} {qs:List Rat} (h:Grd n es qs) {i:Nat} (hi:i < (n + 1) * (n + 1)) (q:Rat) (p:HV):Grd n (es.set i (some p)) (qs.set i q):=by
 refine ⟨by rw [List.length_set,h.el],by rw [List.length_set,h.ql],fun j hj he=>?_⟩
 rw [getD_setR _ _ _ _ (by rw [h.ql];exact hi)]
 by_cases e:j = i
 ·subst e
  have:(es.set j (some p)).getD j none = some p:=by rw [List.getD_eq_getElem?_getD,List.getElem?_set_self (by rw [h.el];exact hi)];rfl
  rw [this] at he;cases he
 ·rw [if_neg e]
  refine h.z j hj ?_
  rwa [List.getD_eq_getElem?_getD,List.getElem?_set_ne (Ne.symm e),← List.getD_eq_getElem?_getD] at he
theorem Grd.none (n:Nat):Grd n (List.replicate ((n + 1) * (n + 1)) none) (List.replicate ((n + 1) * (n + 1)) 0):=⟨by simp,by simp,fun i _ _=>getD_repl _ i⟩
structure SeqP (P:Program) (f:FuncId) (cap:Array Value) (U:Ch) (n:Nat) (qs:List Rat) (hs:List HV):Prop where
 run:∀ {α:Type} (V:Ch) [Lent V] (l:Nat) (J:α→Ch) (pl:α→Nat→Prop) (S:α→Prop) (a0:α),pl a0 0→(∀ a b,¬ (J a).bd b) →
  (∀ a i,pl a i→i < (n + 1) * (n + 1)→Ty P l [.agg #[I ((i / (n + 1):Nat):Int),I ((i % (n + 1):Nat):Int)],rv (qs.getD i 0) (hs.getD i nS2).1 (hs.getD i nS2).2] [V] [J a] fun ok B=>∃ a',B = [J a']∧((ok = true∧pl a' (i + 1))∨(ok = false∧S a'))) →
  Tr P f (yv l :: cap.toList) [V,U] [J a0] fun _ B=>∃ a,B = [J a]∧(pl a ((n + 1) * (n + 1))∨S a)
abbrev gV (n:Nat) (v:Value):Value:=.agg #[I (n:Int),v]
theorem rcs_setE {n:Nat} {z:HV} {es:List (Option HV)} {qs:List Rat} (h:Grd n es qs) {i:Nat} (hi:i < (n + 1) * (n + 1)) (q:Rat) (p:HV):(rcs qs (hsE z es)).take (3 * i) ++ rrow q p ++ (rcs qs (hsE z es)).drop (3 * i + 3) = rcs (qs.set i q) (hsE z (es.set i (some p))):=by
 rw [rcs_set (by rw [hsE_len,h.el,h.ql]) (by rw [h.ql];exact hi),hsE_set]
attribute [local irreducible] Fit pt own ro vw mpc lpt vels rels mow lrc dfr
attribute [local irreducible] lmp lme mit velg relg bnd owl dfrl gow
abbrev TGr:TypeId:=80
theorem whole_tr (x:Nat) (hx:x < 9223372036854775808):Tr Tryz.prog 58 [I x] [] [] (FQ (mkRat x 1)):=by
 have hP:=FPair_tr x 1 hx (by decide) (by decide)
 unfold FQ2 at hP
 unfold FQ
 have e1:((1:Nat):Int) = 1:=rfl
 rw [e1] at hP
 generalize mkRat (x:Int) 1 = q at *
 refine Tr.enter env _ Tryz.func58 (by kernel_rfl) rfl Tryz.ntmps58 rfl (by repeat (first | exact has00 | refine has01 ?_)) fun w0=>?_
 repeat' first|(refine gca ?_;first|(refine ca hP ?_;rintro _ _ ⟨vn,vd,rfl,hvn,hvd,rfl⟩))|refine al fun c=>?_|refine srz ?_|refine lda ?_|(refine wo ?_;first|refine oa ?_)|refine sq ?_|refine rg ?_|refine xc ?_|refine nl ?_|refine rt ?_
 exact rca1 (cs:=[.bool (decide (q.num < 0)),vn,vd]) (vs:=[.bool (decide (q.num < 0)),vn,vd]) (T:=TRt) ⟨vn,vd,rfl,hvn,hvd,rfl⟩
theorem some_tr (q:Rat) (v1 v2:Value) (h1:v1.oneCell' = true) (hB:(dg q.num.natAbs).length ≤ 1099511627776):Tr Tryz.prog 68 [rv q v1 v2] [vw v1 (Us (dg q.num.natAbs))] [] fun u D=>u = .bool (decide (q ≠ 0))∧D = []:=by
 have hS:=ISign_tr q.num v1 h1 hB
 have he:(!decide (q.num.sign = 0)) = decide (q ≠ 0):=by
  by_cases h:q = 0
  ·subst h;rfl
  ·have h2:q.num.sign ≠ 0:=fun e=>h (Rat.num_eq_zero.1 (Int.sign_eq_zero_iff_zero.1 e))
   rw [decide_eq_false h2,decide_eq_true h];rfl
 rw [← he]
 unfold iv at hS
 show Tr _ _ [.agg #[.bool (decide (q.num < 0)),v1,v2]] _ _ _
 clear he hB
 generalize q.num.sign = s at *
 generalize dg q.num.natAbs = l at *
 generalize decide (q.num < 0) = b at *
 refine Tr.enter env _ Tryz.func68 (by kernel_rfl) rfl Tryz.ntmps68 rfl (by repeat (first | exact has00 | refine has01 ?_)) fun w0=>?_
 repeat' first|(refine gca ?_;first|(refine ca hS ?_;rintro _ _ ⟨rfl,rfl⟩))|refine bx fun b1=>?_|refine lda (vs:=[.bool b,v1]) ?_|(refine wo ?_;first|(refine ao ?_;first|refine oa ?_)|refine oa ?_)|refine sq ?_|refine rg ?_|refine xc ?_|refine nl ?_|refine rt ?_
 exact r1 ⟨rfl,rfl⟩
theorem gat_tr (n:Nat) (v:Value) (xs:List Value) (i k:Nat) (hv:v.oneCell' = true) (hn:n ≤ 12) (hi:i ≤ n) (hk:k ≤ n):Tr Tryz.prog 169 [gV n v,I i,I k] [vwf v ((n + 1) * (n + 1)) xs] [] fun u D=>u = .pointer (some (adr v (3 * (i * (n + 1) + k))))∧D = []:=by
 have h1:(i:Int) * ((n:Int) + 1) = ((i * (n + 1):Nat):Int):=by push_cast;rfl
 have h2:=place_lt hi hk
 have h3:i * (n + 1) ≤ 12 * 13:=Nat.mul_le_mul (by omega) (by omega)
 have h4:(((i * (n + 1):Nat):Int) + (k:Int)) = ((i * (n + 1) + k:Nat):Int):=by push_cast;rfl
 have h5:(((i * (n + 1) + k:Nat):Int)).toNat = i * (n + 1) + k:=Int.toNat_natCast _
 generalize i * (n + 1) = m at *
 generalize (n + 1) * (n + 1) = N at *
 refine Tr.enter env _ Tryz.func169 (by kernel_rfl) rfl Tryz.ntmps169 rfl (by repeat (first | exact has00 | refine has01 ?_)) fun w0=>?_
 repeat' first|refine bx fun b1=>?_|(refine aw (m:=(m:Int)) ?_ (h:=by rw [← h1];rfl))|(refine ixws (i:=((m + k:Nat):Int)) (N:=N) (xs:=xs) ?_;rw [h5])|(refine wo ?_;first|(refine ao ?_;first|refine aw ?_)|refine oa ?_|refine ld ?_)|refine sq ?_|refine rg ?_|refine xc ?_|refine nl ?_|refine rt ?_
 exact r1 ⟨rfl,rfl⟩
end Go.Art
namespace Go.Art
open Go Go.Proofs Go.RowKit
theorem grid_row {n:Nat} {hs:List HV} {qs:List Rat} (h1:hs.length = qs.length) (h2:qs.length = (n + 1) * (n + 1)) {i:Nat} (hi:i < (n + 1) * (n + 1)):((rcs qs hs).drop (3 * i)).take 3 = rrow (qs.getD i 0) (hs.getD i nS2):=rcs_row h1 (by rw [h2];exact hi)
attribute [local irreducible] Fit pt own ro vw mpc lpt vels rels mow lrc dfr
attribute [local irreducible] lmp lme mit velg relg bnd owl dfrl gow
theorem made_tr (n N:Nat) (q:Rat) (z1 z2:Value) (h1:z1.oneCell' = true) (h2:z2.oneCell' = true) (hN:(n + 1) * (n + 1) = N) (hn:n ≤ 12):Tr Tryz.prog 166 [I n,rv q z1 z2] [] []
  fun u D=>∃ v,u = gV n v∧v.oneCell' = true∧D = [oww TRt 3 v N (rcs (List.replicate N q) (List.replicate N (z1,z2)))]:=by
 have hNi:((n:Int) + 1) * ((n:Int) + 1) = (N:Int):=by rw [← hN];push_cast;rfl
 have hNb:N ≤ 169:=by rw [← hN];exact Nat.mul_le_mul (show n + 1 ≤ 13 by omega) (show n + 1 ≤ 13 by omega)
 have hrep:∀ i m,(rcs (List.replicate i q) (List.replicate i (z1,z2)) ++ zrs (m + 1)).take (3 * i) ++ rrow q (z1,z2) ++ (rcs (List.replicate i q) (List.replicate i (z1,z2)) ++ zrs (m + 1)).drop (3 * i + 3) = rcs (List.replicate (i + 1) q) (List.replicate (i + 1) (z1,z2)) ++ zrs m:=fun i m=>by
  have:=rcs_fill (qs:=List.replicate i q) (hs:=List.replicate i (z1,z2)) (by simp) m q (z1,z2)
  rw [List.length_replicate] at this
  rw [this,List.replicate_succ',List.replicate_succ']
 have hr0:rcs (List.replicate 0 q) (List.replicate 0 (z1,z2)) = []:=rfl
 refine Tr.enter env _ Tryz.func166 (by kernel_rfl) rfl Tryz.ntmps166 rfl (by repeat (first | exact has00 | refine has01 ?_)) fun w0=>?_
 repeat' first|refine bx fun b=>?_|refine al fun c=>?_|(refine aw (m:=(N:Int)) ?_ (h:=by rw [← hNi];rfl))|(refine mkw (sz:=3) (c:=(N:Int)) (fun v hv=>?_);rw [Int.toNat_natCast,zrs_eq])|refine bdm ?_|refine srz ?_|refine lnw (N:=N) (xs:=zrs N) ?_ (hm:=has_oww memA)|(refine wo ?_;first|(refine ao ?_;first|refine aw ?_)|refine oa ?_|refine ld ?_)|refine sq ?_|refine rg ?_|refine xc ?_|refine nl ?_|refine bk ?_
 rename_i c4
 refine TC.loop (ι:=Nat) (fun i=>[(18,I i)]) (fun i=>[oww TRt 3 v N (rcs (List.replicate i q) (List.replicate i (z1,z2)) ++ zrs (N - i))]) (fun i=>i ≤ N) (fun i=>N - i) 0 [3,4,5,17] (Nat.zero_le _) ?_ (hf:=by rw [hr0,List.nil_append,Nat.sub_zero];exact fitA)
 rintro i hi
 by_cases hlt:i < N
 ·obtain ⟨m,hm⟩ : ∃ m,N - i = m + 1:=⟨N - i - 1,by omega⟩
  have hr:=hrep i m
  rw [hm]
  repeat' first|refine lda (cs:=rrow q (z1,z2)) ?_|refine ixws (i:=(i:Int)) (N:=N) (xs:=rcs (List.replicate i q) (List.replicate i (z1,z2)) ++ zrs (m + 1)) ?_ (hm:=has_oww memA)|refine sow (sz:=3) (m:=3 * i) (N:=N) (xs:=rcs (List.replicate i q) (List.replicate i (z1,z2)) ++ zrs (m + 1)) (vs:=rrow q (z1,z2)) (by omega) ?_ (h1:=one_cons rfl (one_cons h1 (one_cons h2 one_nil)))|(refine wo ?_;first|(refine ao ?_;first|refine aw ?_|refine oa ?_)|refine oa ?_|refine ld ?_)|(refine gc ?_;first|(refine ci (fun hB=>?_) (fun hB=>?_) <;> try (exfalso;omega)))|refine sq ?_|refine rg ?_|refine xc ?_|refine nl ?_|refine sk ?_|refine bk ?_|refine xb ?_
  rw [hr]
  exact lp (i + 1) hlt (hf:=by rw [show N - (i + 1) = m by omega];exact fitA)
 ·obtain rfl:i = N:=by omega
  rw [Nat.sub_self,zrs_zero,List.append_nil]
  repeat' first|refine lda (cs:=[I n,v]) ?_|refine srz ?_|(refine wo ?_;first|(refine ao ?_;first|refine oa ?_))|(refine gc ?_;first|(refine ci (fun hB=>?_) (fun hB=>?_) <;> try (exfalso;omega)))|refine sq ?_|refine rg ?_|refine xc ?_|refine nl ?_|refine xe ?_|refine rt ?_
  exact rca1 (b:=c4) (cs:=[I n,v]) (vs:=[I n,v]) (T:=TGr) ⟨v,rfl,hv,rfl⟩
theorem places_tr (n:Nat) (v:Value) (hv:v.oneCell' = true):Tr Tryz.prog 59 [gV n v] [] [] fun u D=>∃ b,u = .func (.func 108) #[] #[ptr b]∧D = [pt b [I n,v] TGr]:=by
 refine Tr.enter env _ Tryz.func59 (by kernel_rfl) rfl Tryz.ntmps59 rfl (by repeat (first | exact has00 | refine has01 ?_)) fun w0=>?_
 repeat' first|refine bx fun b=>?_|(refine wo ?_;first|refine oa ?_)|refine sq ?_|refine rg ?_|refine xc ?_|refine nl ?_|refine rt ?_
 exact r1 ⟨_,rfl,rfl⟩
theorem places1_seq (b n:Nat) (v:Value) (qs:List Rat) (hs:List HV) (hl:hs.length = qs.length) (hq:qs.length = (n + 1) * (n + 1)) (hn:n ≤ 12) (ho:∀ i,i < qs.length→(hs.getD i nS2).1.oneCell' = true∧(hs.getD i nS2).2.oneCell' = true) :
  SeqP Tryz.prog 108 #[ptr b] (lbd [lpt b [I n,v] TGr,vwf v ((n + 1) * (n + 1)) (rcs qs hs)]) n qs hs:=by
 refine ⟨fun {α} V hV l J pl S a0 h0 hnb hy=>?_⟩
 haveI:=hV
 haveI:∀ a,NoB (J a):=fun a=>⟨hnb a⟩
 refine Tr.pre (pre:=[V,lpt b [I n,v] TGr,vwf v ((n + 1) * (n + 1)) (rcs qs hs)]) ?_ (has1 (has_mem (by simp)) (has_lbds (C:=[lpt b [I n,v] TGr,vwf v ((n + 1) * (n + 1)) (rcs qs hs)]) (by simp) _ (by repeat (first | exact has00 | refine has01 ?_)) fun c hc=>hc)) (by repeat (first | exact has00 | refine has01 ?_))
 have hrow:=fun i (hi:i < (n + 1) * (n + 1))=>grid_row (i:=i) hl hq hi
 have hNb:(n + 1) * (n + 1) ≤ 169:=Nat.mul_le_mul (show n + 1 ≤ 13 by omega) (show n + 1 ≤ 13 by omega)
 rw [hq] at ho
 obtain ⟨N,hN⟩ : ∃ N,N = (n + 1) * (n + 1):=⟨_,rfl⟩
 simp only [← hN] at hy hrow hNb ho ⊢
 clear hN
 generalize rcs qs hs = xs at *
 refine Tr.enter env _ Tryz.func108 (by kernel_rfl) rfl Tryz.ntmps108 rfl (by repeat (first | exact has00 | refine has01 ?_)) fun w0=>?_
 repeat' first|refine lnw (N:=N) (xs:=xs) ?_|(refine wo ?_;first|refine oa ?_|refine ldl ?_)|refine sq ?_|refine rg ?_|refine xc ?_|refine nl ?_|refine bk ?_
 refine TC.loop (ι:=InS α) (fun g=>[(8,I g.i)]) (fun g=>[J g.a]) (fun g=>g.i ≤ N∧pl g.a g.i) (fun g=>N - g.i) ⟨0,a0⟩ [0,1,6,7] ⟨Nat.zero_le _,h0⟩ ?_
 rintro ⟨i,a⟩ ⟨hi,ha⟩
 dsimp only at hi ha ⊢
 by_cases hlt:i < N
 ·have hr:=hrow i hlt
  have hyi:=hy a i ha hlt
  have ho1:=ho i hlt
  have d1:(i:Int) / ((n + 1:Nat):Int) = ((i / (n + 1):Nat):Int):=(Int.natCast_ediv _ _).symm
  have d2:(i:Int) % ((n + 1:Nat):Int) = ((i % (n + 1):Nat):Int):=(Int.natCast_emod _ _).symm
  clear hrow hy ho
  generalize i / (n + 1) = c at *
  generalize i % (n + 1) = r at *
  generalize qs.getD i 0 = q at *
  generalize hs.getD i nS2 = h at *
  obtain ⟨x1,x2⟩:=h
  dsimp only at ho1 hyi
  obtain ⟨ho1,ho2⟩:=ho1
  repeat' first|refine ixws (i:=(i:Int)) (N:=N) (xs:=xs) ?_|refine ldaw (N:=N) (xs:=xs) (m:=3 * i) hr ?_|refine al fun c4=>?_|refine srz ?_ (hj:=Nat.le_of_ble_eq_true rfl)|(refine wo ?_;first|(refine ao ?_;first|refine oa ?_)|refine oa ?_)|(refine gc ?_;first|(refine ci (fun hB=>?_) (fun hB=>?_) <;> try (exfalso;omega)))|refine sq ?_|refine rg ?_|refine xc ?_|refine nl ?_|refine sk ?_|refine bk ?_
  refine rs (fun w=>w.heap[b]? = some (.cells [I n,v].toArray TGr (0,0))∧w.heap[c4]? = some (.cells (rrow q (x1,x2)).toArray TRt (0,0))) ?_ (fun w hw=>⟨lpt_at memA hw,pt_at memA hw⟩)
  refine tka 0 ?_
  refine tka 1 ?_
  refine tka 2 ?_
  refine tkl 3 (cs:=[I n,v]) (fun w h=>h.1) ?_
  refine tkw 4 ((n + 1:Nat):Int) ?_
  refine tke 5 (v:=I c) (by rw [d1]) (fun w _=>R_quo64 (m:=(i:Int)) (q:=((n + 1:Nat):Int)) rfl rfl (by omega)) ?_
  refine tka 6 ?_
  refine tka 7 ?_
  refine tkl 8 (cs:=[I n,v]) (fun w h=>h.1) ?_
  refine tkw 9 ((n + 1:Nat):Int) ?_
  refine tke 10 (v:=I r) (by rw [d2]) (fun w _=>R_rem64 (m:=(i:Int)) (q:=((n + 1:Nat):Int)) rfl rfl (by omega)) ?_
  refine tk 11 (v:=.agg #[I c,I r]) (fun w h=>R_buildArr (E:=env) rfl rfl rfl rfl rfl) ?_
  refine tk 12 (v:=.agg (rrow q (x1,x2)).toArray) (fun w h=>R_loadA (E:=env) (vs:=rrow q (x1,x2)) rfl rfl rfl rfl h.2 rfl rfl) ?_
  refine t1 13 ?_
  refine cy hyi ?_ (hp:=has1 (has_mem memA) has0)
  rintro ok _ ⟨a2,rfl,h3⟩
  refine nl ?_
  refine te (fun w hw=>⟨lpt_at memA hw,pt_at memA hw⟩) ?_
  refine tka 14 ?_
  refine t0 ?_
  rcases h3 with ⟨rfl,h3⟩ | ⟨rfl,h3⟩
  ·repeat' first|(refine wo ?_;first|(refine ao ?_;first|refine aw ?_)|refine oa ?_)|(refine gc ?_;first|refine cf ?_)|refine rg ?_|refine xc ?_|refine nl ?_|refine sk ?_|refine xb ?_
   exact lp ⟨i + 1,a2⟩ ⟨hlt,h3⟩
  ·repeat' first|(refine gc ?_;first|refine ct ?_)|refine xc ?_|refine rt ?_
   exact r0 ⟨a2,rfl,.inr h3⟩
 ·obtain rfl:i = N:=by omega
  repeat' first|(refine wo ?_;first|(refine ao ?_;first|refine oa ?_))|(refine gc ?_;first|(refine ci (fun hB=>?_) (fun hB=>?_) <;> try (exfalso;omega)))|refine sq ?_|refine rg ?_|refine xc ?_|refine nl ?_|refine xe ?_
  exact e0 ⟨a,rfl,.inl ha⟩
end Go.Art
namespace Go.Art
open Go Go.Proofs Go.RowKit
def pows (p:Rat) (i:Nat):List Rat:=(List.range (i + 1)).map fun j=>p ^ j
theorem pows_len (p:Rat) (i:Nat):(pows p i).length = i + 1:=by simp [pows]
theorem pows_get {p:Rat} {i j:Nat} (h:j ≤ i):(pows p i).getD j 0 = p ^ j:=by simp [pows,List.getD_eq_getElem?_getD,Nat.lt_succ_of_le h]
theorem pows_succ (p:Rat) (i:Nat):pows p (i + 1) = pows p i ++ [p ^ (i + 1)]:=by unfold pows;rw [List.range_succ,List.map_append];rfl
theorem pows_zero (p:Rat):pows p 0 = [1]:=by simp [pows,Rat.pow_zero]
structure Hole (C:Value→List Value) (w:Nat):Prop where
 get:∀ a,(C a)[w]? = some a
 set:∀ a b,SetAt b (C a) w (C b)
theorem hole0 (b:Value):Hole (fun a=>[a,b]) 0:=⟨fun _=>rfl,fun _ _=>.z _ _⟩
theorem hole1 (b:Value):Hole (fun a=>[b,a]) 1:=⟨fun _=>rfl,fun _ _=>.s _ (.z _ _)⟩
structure PwG where
 i:Nat
 a:Value
 hs:List HV
section
variable {P:Program} {E:Env P} {n:Sh} {X:Cx} {s:List K} {fr:Fr} {A A':List Ch} {ops:Array Oper} {rest:List Oper} {d:Nat} {ty t t' el:TypeId} {pos:String} {after:Array Edge} {z v u:Value} {x y:Operand} {b j k sz by_ N:Nat} {w:World} {xs:List Value}
theorem R_ixa {m:Nat} {i:Int} {k1:IntKind} (ht:lk E.und t = some (.array m el)) (he:lk E.inf el = some (z,1,by_)) (hx:ev fr x = some (ptr b)) (hy:ev fr y = some (.int k1 i)) (h:0 ≤ i∧i < m) :
  OpV P n fr (.indexAddr t x y) ty w (.pointer (some ⟨b,i.toNat,none⟩)) w:=⟨fun a ha _ _ _ _=>by
 obtain ⟨inf,hi,_,hsz,_⟩:=E.info he
 simp only [execOp,ha.ev hx,ha.ev hy]
 simp [Instr.indexAt,asIntOf,run_underlying (P:=P) (E.un ht) w,h,sizeOf,typeInfo,hi,hsz,Instr.sureAddr,Addr.add_lit]⟩
theorem ixa {m:Nat} {i:Int} {k1:IntKind} (k:TO E n X s ops rest ((d,.pointer (some ⟨b,i.toNat,none⟩)) :: fr) A) (hx:ev fr x = some (ptr b):=by rfl) (hy:ev fr y = some (.int k1 i):=by rfl) (hb:0 ≤ i∧i < m:=by omega)
  (ht:lk E.und t = some (.array m el):=by rfl) (he:lk E.inf el = some (z,1,by_):=by rfl) (hd:Nat.blt d n.n = true:=by rfl):TO E n X s ops (⟨some d,.indexAddr t x y,ty,pos,after,none⟩ :: rest) fr A:=TO.val (fun w _=>R_ixa ht he hx hy hb) k hd
theorem R_lenW (ht:lk E.und t = some (.slice el)) (hx:ev fr x = some v) (hm:SlW w v N xs):OpV P n fr (.call ⟨.builtin .len,#[x],#[t]⟩) ty w (I N) w:=⟨fun a ha _ _ _ _=>by
 obtain ⟨_,cap,rfl,_⟩:=hm
 simp only [execOp,resolve]
 simp [ha.ev hx,invoke,builtin,Builtin.len_,run_underlying (P:=P) (E.un ht) w,goInt]⟩
end
attribute [local irreducible] Fit pt own ro vw mpc lpt vels rels mow lrc dfr
attribute [local irreducible] lmp lme mit velg relg bnd owl dfrl gow
abbrev TPw:TypeId:=223
abbrev TPf:TypeId:=224
theorem power_tr (C:Value→List Value) (w m:Nat) (hC:Hole C w) (hw:w < 2) (p:Rat) (v1 v2:Value) (h1:v1.oneCell' = true) (h2:v2.oneCell' = true) (pw i0:Nat) (a0:Value) (hs0:List HV) (ha0:a0.oneCell' = true) (hl0:hs0.length = i0 + 1) (hm:m ≤ 12) (hi0:i0 ≤ 12) (hB:∀ j,j ≤ 13→FB (p ^ j) 8589934592) :
  Tr Tryz.prog 214 [I w,I m,rv p v1 v2,ptr pw] [vw v1 (Us (dg p.num.natAbs)),vw v2 (Us (dg p.den))] [pt pw (C a0) TPw,oww TRt 3 a0 (i0 + 1) (rcs (pows p i0) hs0),ofr hs0 (pows p i0)]
  fun u D=>∃ i a hs,u = rv (p ^ m) (hs.getD m nS2).1 (hs.getD m nS2).2∧a.oneCell' = true∧hs.length = i + 1∧m ≤ i∧i ≤ 12∧D = [pt pw (C a) TPw,oww TRt 3 a (i + 1) (rcs (pows p i) hs),ofr hs (pows p i)]:=by
 have hFp:FB p 8589934592:=by have:=hB 1 (by decide);rwa [show p ^ 1 = p by rw [Rat.pow_succ,Rat.pow_zero,Rat.one_mul]] at this
 refine Tr.enter env _ Tryz.func214 (by kernel_rfl) rfl Tryz.ntmps214 rfl (by repeat (first | exact has00 | refine has01 ?_)) fun w0=>?_
 repeat' first|refine bx fun c6=>?_|refine al fun c7=>?_|refine sq ?_|refine rg ?_|refine xc ?_|refine nl ?_|refine bk ?_
 refine TC.loop (ι:=PwG) (fun _=>[]) (fun g=>[pt pw (C g.a) TPw,oww TRt 3 g.a (g.i + 1) (rcs (pows p g.i) g.hs),ofr g.hs (pows p g.i)]) (fun g=>g.a.oneCell' = true∧g.hs.length = g.i + 1∧g.i ≤ 12) (fun g=>m - g.i) ⟨i0,a0,hs0⟩ [0,1,3,6,7] ⟨ha0,hl0,hi0⟩ ?_
 rintro ⟨i,a,hs⟩ ⟨ha,hl,hi⟩
 dsimp only at ha hl hi ⊢
 have hpl:=pows_len p i
 have hlq:hs.length = (pows p i).length:=by rw [hpl,hl]
 have hget:=hC.get a
 by_cases hlt:i < m
 ·have hrow:=rcs_row hlq (i:=i) (by omega)
  rw [pows_get (Nat.le_refl i)] at hrow
  have hfr:=fun (F:List Ch) (h:ofr hs (pows p i) ∈ F)=>has_fr (has_ofr hlq h) hlq (i:=i) (by omega)
  rw [pows_get (Nat.le_refl i)] at hfr
  have hMul:=fun lv n1 d1=>FMul2_tr (p ^ i) p lv n1 d1 v1 v2 (hB i (by omega)) hFp
  rw [← Rat.pow_succ] at hMul
  have hps:=pows_succ p i
  have hra:=fun h=>rcs_app (qs:=pows p i) (rs:=[p ^ (i + 1)]) (hs:=hs) (gs:=[h]) hlq
  simp only [← hps,rcs_one] at hra
  unfold FQ2 at hMul
  generalize hs.getD i nS2 = h at *
  obtain ⟨x1,x2⟩:=h
  dsimp only at hfr
  repeat' first|(refine ixa (m:=2) (i:=(w:Int)) ?_;rw [Int.toNat_natCast])|refine ld (cs:=C a) (j:=w) ?_ (hj:=hget)|refine lnw (N:=i + 1) (xs:=rcs (pows p i) hs) ?_ (hm:=has_oww memA)|(refine wo ?_;first|(refine ao ?_;first|refine oa ?_)|refine oa ?_)|(refine gc ?_;first|(refine ci (fun hB=>?_) (fun hB=>?_) <;> try (exfalso;omega)))|refine sq ?_|refine rg ?_|refine xc ?_|refine nl ?_|refine sk ?_|refine bk ?_
  refine cutY (ι:=Nat × HV) (fun g=>g.2.1.oneCell' = true∧g.2.2.oneCell' = true) (fun g=>[(0,I w),(1,I m),(3,ptr pw),(6,ptr c6),(7,ptr c7),(8,ptr g.1)]) (fun g=>[pt g.1 (rrow (p ^ (i + 1)) (g.2.1,g.2.2)) TRt,own T64 g.2.1 (Us (dg (p ^ (i + 1)).num.natAbs)),own T64 g.2.2 (Us (dg (p ^ (i + 1)).den)),pt pw (C a) TPw,oww TRt 3 a (i + 1) (rcs (pows p i) hs),ofr hs (pows p i),pt c7 [.bool false,nS,nS] TRt,pt c6 (rrow p (v1,v2)) TRt,vw v1 (Us (dg p.num.natAbs)),vw v2 (Us (dg p.den))]) ?_ ?_
  ·rintro ⟨c8,n3,d3⟩ ⟨hn3,hd3⟩
   dsimp only at hn3 hd3 ⊢
   repeat' first|(refine wo ?_;first|(refine ao ?_;first|refine aw ?_|refine aw6 ?_|refine oa ?_|refine adiv ?_|refine amod ?_|refine shr1 ?_|refine shr ?_|refine umod ?_|refine isl ?_|refine ipe ?_|refine ipn ?_|refine ibe ?_)|refine acw ?_|refine ucv ?_|refine anw ?_|refine oa ?_|refine ld ?_|refine ldl ?_|refine lnm ?_|refine ixmn ?_|refine ixm ?_|refine li ?_|refine lb ?_|refine lv ?_|refine ln ?_|refine ixn ?_|refine ix ?_|refine le ?_|refine sr ?_|refine soi ?_|refine sob ?_|refine scm ?_|refine sclm ?_|refine schm ?_|refine gy ?_|refine gn ?_|refine gnn ?_|refine gu ?_|(refine gsi (fun hB=>?_) (fun hB=>?_) <;> try (exfalso;omega))|(refine gsn (fun hB=>?_) (fun hB=>?_) <;> try (exfalso;omega))|(refine gs (fun hB=>?_) (fun hB=>?_) <;> try (exfalso;omega)))|(refine gc ?_;first|refine ct ?_|refine cf ?_|(refine ci (fun hB=>?_) (fun hB=>?_) <;> try (exfalso;omega))|(refine cn (fun hB=>?_) (fun hB=>?_) <;> try (exfalso;omega))|(refine cb (fun hB=>?_) (fun hB=>?_) <;> try (exfalso;omega)))|refine sq ?_|refine rg ?_|refine xc ?_|refine nl ?_|refine sk ?_|refine bk ?_|refine xe ?_|refine rt ?_|refine xb ?_
   refine rs (fun w'=>w'.heap[c8]? = some (.cells (rrow (p ^ (i + 1)) (n3,d3)).toArray TRt (0,0))) ?_ (fun w' hw=>pt_at memA hw)
   refine tka 0 ?_
   refine tka 1 ?_
   refine tk 2 (v:=.pointer (some ⟨pw,w,none⟩)) (fun w' h=>R_ixa (E:=env) (m:=2) (i:=(w:Int)) rfl rfl rfl rfl ⟨by omega,by omega⟩) ?_
   refine tk 4 (v:=.agg (rrow (p ^ (i + 1)) (n3,d3)).toArray) (fun w' h=>R_loadA (E:=env) (vs:=rrow (p ^ (i + 1)) (n3,d3)) rfl rfl rfl rfl h rfl rfl) ?_
   refine t2 3 5 ?_ ?_
   ·refine ld (cs:=C a) (j:=w) ?_ (hj:=hget)
    refine nl ?_
    refine te (fun w' hw=>pt_at memA hw) ?_
    refine t1 5 ?_
    refine slws (sz:=3) (xs:=rrow (p ^ (i + 1)) (n3,d3)) fun g3=>?_
    refine nl ?_
    refine te (fun w' hw=>pt_at memA hw) ?_
    refine t1 6 ?_
    refine apw (sz:=3) (M:=1) (N:=i + 1) (xs:=rcs (pows p i) hs) (ys:=rrow (p ^ (i + 1)) (n3,d3)) (by decide) rfl (one_cons rfl (one_cons hn3 (one_cons hd3 one_nil))) (fun o2 ho2=>?_) (hu:=has_oww memA)
    refine nl ?_
    refine te (fun w' hw=>pt_at memA hw) ?_
    refine tk 7 (v:=.pointer (some ⟨pw,w,none⟩)) (fun w' h=>R_ixa (E:=env) (m:=2) (i:=(w:Int)) rfl rfl rfl rfl ⟨by omega,by omega⟩) ?_
    refine t1 8 ?_
    refine sr (cs:=C a) (cs':=C o2) ?_ (hs:=hC.set a o2)
    refine nl ?_
    refine te (fun w' hw=>pt_at memA hw) ?_
    refine t0 ?_
    repeat' first|refine xb ?_
    refine TX.im (ofr_snoc hlq (p ^ (i + 1)) n3 d3 fitA) ?_
    rw [← hps,← hra]
    exact lp ⟨i + 1,o2,hs ++ [(n3,d3)]⟩ ⟨ho2,by simp [hl],(by omega:i + 1 ≤ 12)⟩
   ·refine slws (sz:=3) (xs:=rrow (p ^ (i + 1)) (n3,d3)) fun g3=>?_
    refine nl ?_
    refine te (fun w' hw=>pt_at memA hw) ?_
    refine t1 3 ?_
    refine ld (cs:=C a) (j:=w) ?_ (hj:=hget)
    refine nl ?_
    refine te (fun w' hw=>pt_at memA hw) ?_
    refine t1 6 ?_
    refine apw (sz:=3) (M:=1) (N:=i + 1) (xs:=rcs (pows p i) hs) (ys:=rrow (p ^ (i + 1)) (n3,d3)) (by decide) rfl (one_cons rfl (one_cons hn3 (one_cons hd3 one_nil))) (fun o2 ho2=>?_) (hu:=has_oww memA)
    refine nl ?_
    refine te (fun w' hw=>pt_at memA hw) ?_
    refine tk 7 (v:=.pointer (some ⟨pw,w,none⟩)) (fun w' h=>R_ixa (E:=env) (m:=2) (i:=(w:Int)) rfl rfl rfl rfl ⟨by omega,by omega⟩) ?_
    refine t1 8 ?_
    refine sr (cs:=C a) (cs':=C o2) ?_ (hs:=hC.set a o2)
    refine nl ?_
    refine te (fun w' hw=>pt_at memA hw) ?_
    refine t0 ?_
    repeat' first|refine xb ?_
    refine TX.im (ofr_snoc hlq (p ^ (i + 1)) n3 d3 fitA) ?_
    rw [← hps,← hra]
    exact lp ⟨i + 1,o2,hs ++ [(n3,d3)]⟩ ⟨ho2,by simp [hl],(by omega:i + 1 ≤ 12)⟩
  ·intro b' kb
   refine rs (fun w'=>w'.heap[pw]? = some (.cells (C a).toArray TPw (0,0))∧SlW w' a (i + 1) (rcs (pows p i) hs)∧w'.heap[c6]? = some (.cells (rrow p (v1,v2)).toArray TRt (0,0))) ?_ (fun w' hw=>⟨pt_at memA hw,(has_oww (e:=TRt) (sz:=3) (v:=a) (n:=i + 1) (xs:=rcs (pows p i) hs) memA).P w' hw,pt_at memA hw⟩)
   refine tka 0 ?_
   refine tk 1 (v:=.pointer (some ⟨pw,w,none⟩)) (fun w' h=>R_ixa (E:=env) (m:=2) (i:=(w:Int)) rfl rfl rfl rfl ⟨by omega,by omega⟩) ?_
   refine tkl 2 (cs:=C a) (v:=a) (fun w' h=>h.1) ?_ (hj:=hget)
   refine tka 3 ?_
   refine tk 4 (v:=.pointer (some ⟨pw,w,none⟩)) (fun w' h=>R_ixa (E:=env) (m:=2) (i:=(w:Int)) rfl rfl rfl rfl ⟨by omega,by omega⟩) ?_
   refine tkl 5 (cs:=C a) (v:=a) (fun w' h=>h.1) ?_ (hj:=hget)
   refine tk 6 (v:=I ((i + 1:Nat):Int)) (fun w' h=>R_lenW (E:=env) rfl rfl h.2.1) ?_
   refine tkw 7 (i:Int) ?_
   refine tk 8 (v:=.pointer (some (adr a (3 * i)))) (fun w' h=>R_idxW (E:=env) (i:=(i:Int)) rfl rfl rfl rfl h.2.1 ⟨by omega,by omega⟩) ?_
   refine tk 9 (v:=.agg (rrow (p ^ i) (x1,x2)).toArray) (fun w' h=>R_loadW (E:=env) rfl rfl rfl rfl h.2.1 hrow rfl) ?_
   refine tk 10 (v:=.agg (rrow p (v1,v2)).toArray) (fun w' h=>R_loadA (E:=env) (vs:=rrow p (v1,v2)) rfl rfl rfl rfl h.2.2 rfl rfl) ?_
   refine t2 11 16 ?_ ?_
   ·refine slws (sz:=3) (xs:=rrow (p ^ i) (x1,x2) ++ rrow p (v1,v2)) fun g2=>?_
    refine nl ?_
    refine te (fun w' hw=>⟨pt_at memA hw,(has_oww (e:=TRt) (sz:=3) (v:=a) (n:=i + 1) (xs:=rcs (pows p i) hs) memA).P w' hw,pt_at memA hw⟩) ?_
    refine t2 12 16 ?_ ?_
    ·refine ca (hMul _ x1 x2) ?_ (hp:=has1 (has_oww memA) (has1 (hfr _ memA).1 (has1 (hfr _ memA).2 (has1 hasA (has1 hasA has0)))))
     rintro _ _ ⟨n3,d3,rfl,hn3,hd3,rfl⟩
     refine nl ?_
     refine te (fun w' hw=>⟨pt_at memA hw,(has_oww (e:=TRt) (sz:=3) (v:=a) (n:=i + 1) (xs:=rcs (pows p i) hs) memA).P w' hw,pt_at memA hw⟩) ?_
     refine tka 13 ?_
     refine tka 14 ?_
     refine tka 15 ?_
     refine t1 16 ?_
     refine al fun c8=>?_
     refine nl ?_
     refine te (fun w' hw=>⟨pt_at memA hw,(has_oww (e:=TRt) (sz:=3) (v:=a) (n:=i + 1) (xs:=rcs (pows p i) hs) memA).P w' hw,pt_at memA hw⟩) ?_
     refine t1 17 ?_
     refine srz ?_
     refine nl ?_
     refine te (fun w' hw=>⟨pt_at memA hw,(has_oww (e:=TRt) (sz:=3) (v:=a) (n:=i + 1) (xs:=rcs (pows p i) hs) memA).P w' hw,pt_at memA hw⟩) ?_
     refine tka 18 ?_
     refine t0 ?_
     repeat' first|refine xc ?_
     exact kb (c8,n3,d3) ⟨hn3,hd3⟩ _ _ (by (repeat (refine Sub.cons rfl (by first | rfl | go_num) ?_));exact Sub.nil) fitA
    ·refine al fun c8=>?_
     refine nl ?_
     refine te (fun w' hw=>⟨pt_at memA hw,(has_oww (e:=TRt) (sz:=3) (v:=a) (n:=i + 1) (xs:=rcs (pows p i) hs) memA).P w' hw,pt_at memA hw⟩) ?_
     refine t1 12 ?_
     refine ca (hMul _ x1 x2) ?_ (hp:=has1 (has_oww memA) (has1 (hfr _ memA).1 (has1 (hfr _ memA).2 (has1 hasA (has1 hasA has0)))))
     rintro _ _ ⟨n3,d3,rfl,hn3,hd3,rfl⟩
     refine nl ?_
     refine te (fun w' hw=>⟨pt_at memA hw,(has_oww (e:=TRt) (sz:=3) (v:=a) (n:=i + 1) (xs:=rcs (pows p i) hs) memA).P w' hw,pt_at memA hw⟩) ?_
     refine tka 13 ?_
     refine tka 14 ?_
     refine tka 15 ?_
     refine t1 17 ?_
     refine srz ?_
     refine nl ?_
     refine te (fun w' hw=>⟨pt_at memA hw,(has_oww (e:=TRt) (sz:=3) (v:=a) (n:=i + 1) (xs:=rcs (pows p i) hs) memA).P w' hw,pt_at memA hw⟩) ?_
     refine tka 18 ?_
     refine t0 ?_
     repeat' first|refine xc ?_
     exact kb (c8,n3,d3) ⟨hn3,hd3⟩ _ _ (by (repeat (refine Sub.cons rfl (by first | rfl | go_num) ?_));exact Sub.nil) fitA
   ·refine al fun c8=>?_
    refine nl ?_
    refine te (fun w' hw=>⟨pt_at memA hw,(has_oww (e:=TRt) (sz:=3) (v:=a) (n:=i + 1) (xs:=rcs (pows p i) hs) memA).P w' hw,pt_at memA hw⟩) ?_
    refine t1 11 ?_
    refine slws (sz:=3) (xs:=rrow (p ^ i) (x1,x2) ++ rrow p (v1,v2)) fun g2=>?_
    refine nl ?_
    refine te (fun w' hw=>⟨pt_at memA hw,(has_oww (e:=TRt) (sz:=3) (v:=a) (n:=i + 1) (xs:=rcs (pows p i) hs) memA).P w' hw,pt_at memA hw⟩) ?_
    refine t1 12 ?_
    refine ca (hMul _ x1 x2) ?_ (hp:=has1 (has_oww memA) (has1 (hfr _ memA).1 (has1 (hfr _ memA).2 (has1 hasA (has1 hasA has0)))))
    rintro _ _ ⟨n3,d3,rfl,hn3,hd3,rfl⟩
    refine nl ?_
    refine te (fun w' hw=>⟨pt_at memA hw,(has_oww (e:=TRt) (sz:=3) (v:=a) (n:=i + 1) (xs:=rcs (pows p i) hs) memA).P w' hw,pt_at memA hw⟩) ?_
    refine tka 13 ?_
    refine tka 14 ?_
    refine tka 15 ?_
    refine t1 17 ?_
    refine srz ?_
    refine nl ?_
    refine te (fun w' hw=>⟨pt_at memA hw,(has_oww (e:=TRt) (sz:=3) (v:=a) (n:=i + 1) (xs:=rcs (pows p i) hs) memA).P w' hw,pt_at memA hw⟩) ?_
    refine tka 18 ?_
    refine t0 ?_
    repeat' first|refine xc ?_
    exact kb (c8,n3,d3) ⟨hn3,hd3⟩ _ _ (by (repeat (refine Sub.cons rfl (by first | rfl | go_num) ?_));exact Sub.nil) fitA
 ·have hrow:=rcs_row hlq (i:=m) (by omega)
  rw [pows_get (show m ≤ i by omega)] at hrow
  refine TC.fact (fun w' hw=>fr_one (hs:=hs) (qs:=pows p i) (has_ofr hlq memA) hlq (i:=m) (by omega) w' hw) fun hone=>?_
  obtain ⟨y,hy⟩ : ∃ y,y = hs.getD m nS2:=⟨_,rfl⟩
  rw [← hy] at hrow hone
  obtain ⟨x1,x2⟩:=y
  dsimp only at hone
  obtain ⟨hone1,hone2⟩:=hone
  repeat' first|(refine ixa (m:=2) (i:=(w:Int)) ?_;rw [Int.toNat_natCast])|refine ld (cs:=C a) (j:=w) ?_ (hj:=hget)|refine lnw (N:=i + 1) (xs:=rcs (pows p i) hs) ?_ (hm:=has_oww memA)|refine ixws (i:=(m:Int)) (N:=i + 1) (xs:=rcs (pows p i) hs) ?_ (hm:=has_oww memA)|refine ldaw (N:=i + 1) (xs:=rcs (pows p i) hs) (m:=3 * m) hrow ?_ (hm:=has_oww memA)|refine srz ?_ (hj:=Nat.le_of_ble_eq_true rfl)|(refine wo ?_;first|(refine ao ?_;first|refine oa ?_)|refine oa ?_)|(refine gc ?_;first|(refine ci (fun hB=>?_) (fun hB=>?_) <;> try (exfalso;omega)))|refine sq ?_|refine rg ?_|refine xc ?_|refine nl ?_|refine xe ?_|refine rt ?_
  exact rca1 (b:=c7) (cs:=rrow (p ^ m) (x1,x2)) (vs:=rrow (p ^ m) (x1,x2)) (T:=TRt) ⟨i,a,hs,by rw [← hy],ha,hl,by omega,hi,rfl⟩
end Go.Art
namespace Go.Art
open Go Go.Proofs Go.RowKit
theorem Tr.post {P:Program} {f:FuncId} {args:List Value} {pre A:List Ch} {R R':Value→List Ch→Prop} (h:Tr P f args pre A R) (k:∀ v D,R v D→∃ D',R' v D'∧Im D D'∧∀ c ∈ D',∀ b,¬ c.bd b):Tr P f args pre A R':=by
 refine ⟨fun w hw=>(h.run w hw).mono fun v w' ⟨B,hR,hS,hM,_⟩=>?_,h.lent⟩
 obtain ⟨D',hR',hI,hB'⟩:=k v B hR
 refine ⟨D',hR',hI.sat w' hS,⟨hM.os,hM.tape,hM.output,hM.size,hM.block,fun b hb=>hM.wr b (hI.wr b hb),fun b hb=>?_⟩,hB'⟩
 rcases hI.rd b hb with h1 | h1
 ·rcases hM.wr b h1 with h2 | h2
  ·exact .inl h2
  ·exact .inr (.inr h2)
 ·exact hM.rd b h1
structure ShC where
 bq:Nat
 bp:Nat
 bl:Nat
 pw:Nat
 l1:Value
 l2:Value
structure ShG where
 a0:Value
 h0:List HV
 i0:Nat
 a1:Value
 h1:List HV
 i1:Nat
structure ShOk (c:ShC) (g:ShG):Prop where
 a0:g.a0.oneCell' = true
 a1:g.a1.oneCell' = true
 h0:g.h0.length = g.i0 + 1
 h1:g.h1.length = g.i1 + 1
 i0:g.i0 ≤ 12
 i1:g.i1 ≤ 12
 l1:c.l1.oneCell' = true
 l2:c.l2.oneCell' = true
theorem chs_mk (n:Nat):mkRat (n:Int) 1 = (n:Rat):=by rw [Rat.mkRat_eq_div];push_cast;grind
attribute [local irreducible] Fit pt own ro vw mpc lpt vels rels mow lrc dfr
attribute [local irreducible] lmp lme mit velg relg bnd owl dfrl gow
abbrev powV (pw:Nat):Value:=.func (.func 214) #[] #[ptr pw]
abbrev shV (c:ShC):Value:=.func (.func 215) #[] #[ptr c.bq,ptr c.bp,ptr c.bl]
abbrev shP (c:ShC) (p:Rat) (v:HV) (g:ShG):List Ch:=[pt c.bq [powV c.pw] TPf,pt c.bp (rrow p v) TRt,pt c.bl (rrow (1 - p) (c.l1,c.l2)) TRt,own T64 c.l1 (Us (dg (1 - p).num.natAbs)),own T64 c.l2 (Us (dg (1 - p).den)),pt c.pw [g.a0,g.a1] TPw,oww TRt 3 g.a0 (g.i0 + 1) (rcs (pows p g.i0) g.h0),ofr g.h0 (pows p g.i0),oww TRt 3 g.a1 (g.i1 + 1) (rcs (pows (1 - p) g.i1) g.h1),ofr g.h1 (pows (1 - p) g.i1)]
def shB (c:ShC) (p:Rat) (v:HV) (g:ShG):Ch:=bnd (shP c p v g)
theorem shP_nb (c:ShC) (p:Rat) (v:HV) (g:ShG):∀ x ∈ shP c p v g,∀ b,¬ x.bd b:=by repeat (first | exact nb0 | refine nb1 ?_)
instance (c:ShC) (p:Rat) (v:HV) (g:ShG):NoB (shB c p v g):=⟨bnd_nob (shP_nb c p v g)⟩
structure PwB (p:Rat):Prop where
 hp:∀ j,j ≤ 13→FB (p ^ j) 8589934592
 hl:∀ j,j ≤ 13→FB ((1 - p) ^ j) 8589934592
 hcp:∀ m s,m ≤ 12→s ≤ m→FB ((chs m s:Rat) * p ^ s) 8589934592
theorem share0_tr (c:ShC) (p:Rat) (v:HV) (g:ShG) (hv1:v.1.oneCell' = true) (hv2:v.2.oneCell' = true) (ho:ShOk c g) (hB:PwB p) (many so:Nat) (hm:many ≤ 12) (hs:so ≤ many) :
  Tr Tryz.prog 215 [I many,I so,ptr c.bq,ptr c.bp,ptr c.bl] [vw v.1 (Us (dg p.num.natAbs)),vw v.2 (Us (dg p.den))] (shP c p v g) fun u D=>∃ g' vn vd,u = rv (shar p many so) vn vd∧vn.oneCell' = true∧vd.oneCell' = true∧ShOk c g'∧D = own T64 vn (Us (dg (shar p many so).num.natAbs)) :: own T64 vd (Us (dg (shar p many so).den)) :: shP c p v g':=by
 obtain ⟨o1,o2,o3,o4,o5,o6,o7,o8⟩:=ho
 have hC:=Choose_tr many so (by omega) hs
 have hcl:=chs_len many so
 have hI:=fun o=>IMake_tr false o (dg (chs many so)) (Dg_dg _) (by omega)
 have hR:=fun o dv=>FMake_tr ((chs many so:Nat):Int) o dv [1] (Dg.one (by decide)) (by unfold dz;rw [Int.natAbs_natCast];omega) (by decide) (by decide)
 have hsg:∀ n:Nat,sg false n = (n:Int):=fun n=>rfl
 simp only [nv_dg,hsg] at hI
 unfold IR at hI
 unfold dz iv at hR
 rw [show nv [1] = 1 from rfl,chs_mk] at hR
 simp only [Int.natAbs_natCast] at hI hR
 have hn:decide (((chs many so:Nat):Int) < 0) = false:=decide_eq_false (by omega)
 rw [hn] at hI hR
 unfold eNat at hC
 unfold FQ2 at hR
 have hP0:=fun b=>power_tr (fun a=>[a,b]) 0 so (hole0 b) (by decide) p v.1 v.2 hv1 hv2 c.pw g.i0 g.a0 g.h0 o1 o3 (by omega) o5 hB.hp
 have hP1:=fun b=>power_tr (fun a=>[b,a]) 1 (many - so) (hole1 b) (by decide) (1 - p) c.l1 c.l2 o7 o8 c.pw g.i1 g.a1 g.h1 o2 o4 (by omega) o6 hB.hl
 have hF1:FB (chs many so:Rat) 8589934592:=by
  have:=hB.hcp many so hm hs
  have e:=FB_nat (a:=chs many so) (E:=1) (B:=1) (by decide) (Nat.lt_of_le_of_lt (chs_le many so) (Nat.lt_of_le_of_lt (Nat.pow_le_pow_right (by decide) (show many ≤ 63 by omega)) (by decide))) (by decide)
  rw [show ((chs many so:Nat):Rat) / ((1:Nat):Rat) = (chs many so:Rat) by rw [show ((1:Nat):Rat) = 1 from rfl];grind] at e
  exact e.le (by decide)
 have hMul:=fun lv v1 v2 v3 v4 v5 v6=>FMul3_tr (chs many so:Rat) (p ^ so) ((1 - p) ^ (many - so)) lv v1 v2 v3 v4 v5 v6 hF1 (hB.hp so (by omega)) (hB.hl (many - so) (by omega)) (hB.hcp many so hm hs)
 have hms:(many:Int) - so = ((many - so:Nat):Int):=by omega
 rw [show (chs many so:Rat) * p ^ so * (1 - p) ^ (many - so) = shar p many so from rfl] at hMul
 have hpg:=fun (hs:List HV) (i:Nat) (hl:hs.length = i + 1) (hi:so ≤ i) (F:List Ch) (h:ofr hs (pows p i) ∈ F)=>has_fr (i:=so) (has_ofr (by rw [pows_len];exact hl) h) (by rw [pows_len];exact hl) (by rw [pows_len];omega)
 have hlg:=fun (hs:List HV) (i:Nat) (hl:hs.length = i + 1) (hi:many - so ≤ i) (F:List Ch) (h:ofr hs (pows (1 - p) i) ∈ F)=>has_fr (i:=many - so) (has_ofr (by rw [pows_len];exact hl) h) (by rw [pows_len];exact hl) (by rw [pows_len];omega)
 have hpe:=fun i (hi:so ≤ i)=>pows_get (p:=p) hi
 have hle:=fun i (hi:many - so ≤ i)=>pows_get (p:=1 - p) hi
 unfold FQ2 at hMul
 clear hF1 hB hn hsg
 obtain ⟨v1,v2⟩:=v
 dsimp only at hv1 hv2 hP0 hP1
 generalize (chs many so:Rat) = qc at *
 generalize dg (chs many so) = lc at *
 generalize shar p many so = q at *
 refine Tr.enter env _ Tryz.func215 (by kernel_rfl) rfl Tryz.ntmps215 rfl (by repeat (first | exact has00 | refine has01 ?_)) fun w0=>?_
 repeat' first|(refine gca ?_;first|(refine ca hC ?_;rintro _ _ ⟨o1,rfl,ho1,rfl⟩)|(refine ca (hI o1) ?_;rintro _ _ ⟨o5,rfl,ho5,rfl⟩)|(refine ca (hR o5 o6) ?_;rintro _ _ ⟨n1,d1,rfl,hn1,hd1,rfl⟩))|refine al fun c10=>?_|refine slu [1] (fun o6 ho6=>?_)|refine srz ?_|(refine wo ?_;first|refine oa ?_)|refine sq ?_|refine rg ?_|refine xc ?_|refine nl ?_
 rename_i c7
 refine rs (fun w'=>w'.heap[c10]? = some (.cells (rrow qc (n1,d1)).toArray TRt (0,0))∧w'.heap[c.bq]? = some (.cells [powV c.pw].toArray TPf (0,0))∧w'.heap[c.bp]? = some (.cells (rrow p (v1,v2)).toArray TRt (0,0))∧w'.heap[c.bl]? = some (.cells (rrow (1 - p) (c.l1,c.l2)).toArray TRt (0,0))) ?_ (fun w' hw=>⟨pt_at memA hw,pt_at memA hw,pt_at memA hw,pt_at memA hw⟩)
 refine tk 0 (v:=.agg (rrow qc (n1,d1)).toArray) (fun w' h=>R_loadA (E:=env) (vs:=rrow qc (n1,d1)) rfl rfl rfl rfl h.1 rfl rfl) ?_
 refine tkl 1 (cs:=[powV c.pw]) (fun w' h=>h.2.1) ?_
 refine tka 2 ?_
 refine tk 3 (v:=.agg (rrow p (v1,v2)).toArray) (fun w' h=>R_loadA (E:=env) (vs:=rrow p (v1,v2)) rfl rfl rfl rfl h.2.2.1 rfl rfl) ?_
 refine tkl 5 (cs:=[powV c.pw]) (fun w' h=>h.2.1) ?_
 refine tka 6 ?_
 refine tka 7 ?_
 refine tkw 8 ((many - so:Nat):Int) ?_
 refine tk 9 (v:=.agg (rrow (1 - p) (c.l1,c.l2)).toArray) (fun w' h=>R_loadA (E:=env) (vs:=rrow (1 - p) (c.l1,c.l2)) rfl rfl rfl rfl h.2.2.2 rfl rfl) ?_
 refine t2 4 16 ?_ ?_
 ·refine cav (cap:=#[ptr c.pw]) (vs:=[I ((0:Nat):Int),I so,rv p v1 v2]) (hP0 g.a1) ?_
  rintro _ _ ⟨i0',a0',h0',rfl,q1,q2,q3,q4,rfl⟩
  refine nl ?_
  refine te (fun w' hw=>⟨pt_at memA hw,pt_at memA hw,pt_at memA hw,pt_at memA hw⟩) ?_
  refine t2 10 16 ?_ ?_
  ·refine cav (cap:=#[ptr c.pw]) (vs:=[I ((1:Nat):Int),I ((many - so:Nat):Int),rv (1 - p) c.l1 c.l2]) (hP1 a0') ?_
   rintro _ _ ⟨i1',a1',h1',rfl,r1',r2',r3',r4',rfl⟩
   refine nl ?_
   refine te (fun w' hw=>⟨pt_at memA hw,pt_at memA hw,pt_at memA hw,pt_at memA hw⟩) ?_
   refine t2 11 16 ?_ ?_
   ·refine slws (sz:=3) (xs:=rrow qc (n1,d1) ++ rrow (p ^ so) (h0'.getD so nS2) ++ rrow ((1 - p) ^ (many - so)) (h1'.getD (many - so) nS2)) fun g2=>?_
    refine nl ?_
    refine te (fun w' hw=>⟨pt_at memA hw,pt_at memA hw,pt_at memA hw,pt_at memA hw⟩) ?_
    refine t2 12 16 ?_ ?_
    ·refine ca (hMul _ n1 d1 (h0'.getD so nS2).1 (h0'.getD so nS2).2 (h1'.getD (many - so) nS2).1 (h1'.getD (many - so) nS2).2) ?_ (hp:=has1 (has_oww memA) (has1 hasA (has1 hasA (has1 (by rw [← hpe i0' q3];exact (hpg h0' i0' q2 q3 _ memA).1) (has1 (by rw [← hpe i0' q3];exact (hpg h0' i0' q2 q3 _ memA).2) (has1 (by rw [← hle i1' r3'];exact (hlg h1' i1' r2' r3' _ memA).1) (has1 (by rw [← hle i1' r3'];exact (hlg h1' i1' r2' r3' _ memA).2) has0)))))))
     rintro _ _ ⟨n3,d3,rfl,hn3,hd3,rfl⟩
     refine nl ?_
     refine te (fun w' hw=>⟨pt_at memA hw,pt_at memA hw,pt_at memA hw,pt_at memA hw⟩) ?_
     refine tka 13 ?_
     refine tka 14 ?_
     refine tka 15 ?_
     refine t1 16 ?_
     refine al fun c12=>?_
     refine nl ?_
     refine te (fun w' hw=>⟨pt_at memA hw,pt_at memA hw,pt_at memA hw,pt_at memA hw⟩) ?_
     refine t1 17 ?_
     refine srz ?_
     refine nl ?_
     refine te (fun w' hw=>⟨pt_at memA hw,pt_at memA hw,pt_at memA hw,pt_at memA hw⟩) ?_
     refine tka 18 ?_
     refine t0 ?_
     repeat' first|refine lda (cs:=rrow q (n3,d3)) ?_|refine srz ?_ (hj:=Nat.le_of_ble_eq_true rfl)|refine sq ?_|refine rg ?_|refine xc ?_|refine nl ?_|refine rt ?_
     exact rca1 (b:=c7) (cs:=rrow q (n3,d3)) (vs:=rrow q (n3,d3)) (T:=TRt) ⟨⟨a0',h0',i0',a1',h1',i1'⟩,n3,d3,rfl,hn3,hd3,⟨q1,r1',q2,r2',q4,r4',o7,o8⟩,rfl⟩
    ·refine al fun c12=>?_
     refine nl ?_
     refine te (fun w' hw=>⟨pt_at memA hw,pt_at memA hw,pt_at memA hw,pt_at memA hw⟩) ?_
     refine t1 12 ?_
     refine ca (hMul _ n1 d1 (h0'.getD so nS2).1 (h0'.getD so nS2).2 (h1'.getD (many - so) nS2).1 (h1'.getD (many - so) nS2).2) ?_ (hp:=has1 (has_oww memA) (has1 hasA (has1 hasA (has1 (by rw [← hpe i0' q3];exact (hpg h0' i0' q2 q3 _ memA).1) (has1 (by rw [← hpe i0' q3];exact (hpg h0' i0' q2 q3 _ memA).2) (has1 (by rw [← hle i1' r3'];exact (hlg h1' i1' r2' r3' _ memA).1) (has1 (by rw [← hle i1' r3'];exact (hlg h1' i1' r2' r3' _ memA).2) has0)))))))
     rintro _ _ ⟨n3,d3,rfl,hn3,hd3,rfl⟩
     refine nl ?_
     refine te (fun w' hw=>⟨pt_at memA hw,pt_at memA hw,pt_at memA hw,pt_at memA hw⟩) ?_
     refine tka 13 ?_
     refine tka 14 ?_
     refine tka 15 ?_
     refine t1 17 ?_
     refine srz ?_
     refine nl ?_
     refine te (fun w' hw=>⟨pt_at memA hw,pt_at memA hw,pt_at memA hw,pt_at memA hw⟩) ?_
     refine tka 18 ?_
     refine t0 ?_
     repeat' first|refine lda (cs:=rrow q (n3,d3)) ?_|refine srz ?_ (hj:=Nat.le_of_ble_eq_true rfl)|refine sq ?_|refine rg ?_|refine xc ?_|refine nl ?_|refine rt ?_
     exact rca1 (b:=c7) (cs:=rrow q (n3,d3)) (vs:=rrow q (n3,d3)) (T:=TRt) ⟨⟨a0',h0',i0',a1',h1',i1'⟩,n3,d3,rfl,hn3,hd3,⟨q1,r1',q2,r2',q4,r4',o7,o8⟩,rfl⟩
   ·refine al fun c12=>?_
    refine nl ?_
    refine te (fun w' hw=>⟨pt_at memA hw,pt_at memA hw,pt_at memA hw,pt_at memA hw⟩) ?_
    refine t1 11 ?_
    refine slws (sz:=3) (xs:=rrow qc (n1,d1) ++ rrow (p ^ so) (h0'.getD so nS2) ++ rrow ((1 - p) ^ (many - so)) (h1'.getD (many - so) nS2)) fun g2=>?_
    refine nl ?_
    refine te (fun w' hw=>⟨pt_at memA hw,pt_at memA hw,pt_at memA hw,pt_at memA hw⟩) ?_
    refine t1 12 ?_
    refine ca (hMul _ n1 d1 (h0'.getD so nS2).1 (h0'.getD so nS2).2 (h1'.getD (many - so) nS2).1 (h1'.getD (many - so) nS2).2) ?_ (hp:=has1 (has_oww memA) (has1 hasA (has1 hasA (has1 (by rw [← hpe i0' q3];exact (hpg h0' i0' q2 q3 _ memA).1) (has1 (by rw [← hpe i0' q3];exact (hpg h0' i0' q2 q3 _ memA).2) (has1 (by rw [← hle i1' r3'];exact (hlg h1' i1' r2' r3' _ memA).1) (has1 (by rw [← hle i1' r3'];exact (hlg h1' i1' r2' r3' _ memA).2) has0)))))))
    rintro _ _ ⟨n3,d3,rfl,hn3,hd3,rfl⟩
    refine nl ?_
    refine te (fun w' hw=>⟨pt_at memA hw,pt_at memA hw,pt_at memA hw,pt_at memA hw⟩) ?_
    refine tka 13 ?_
    refine tka 14 ?_
    refine tka 15 ?_
    refine t1 17 ?_
    refine srz ?_
    refine nl ?_
    refine te (fun w' hw=>⟨pt_at memA hw,pt_at memA hw,pt_at memA hw,pt_at memA hw⟩) ?_
    refine tka 18 ?_
    refine t0 ?_
    repeat' first|refine lda (cs:=rrow q (n3,d3)) ?_|refine srz ?_ (hj:=Nat.le_of_ble_eq_true rfl)|refine sq ?_|refine rg ?_|refine xc ?_|refine nl ?_|refine rt ?_
    exact rca1 (b:=c7) (cs:=rrow q (n3,d3)) (vs:=rrow q (n3,d3)) (T:=TRt) ⟨⟨a0',h0',i0',a1',h1',i1'⟩,n3,d3,rfl,hn3,hd3,⟨q1,r1',q2,r2',q4,r4',o7,o8⟩,rfl⟩
  ·refine al fun c12=>?_
   refine nl ?_
   refine te (fun w' hw=>⟨pt_at memA hw,pt_at memA hw,pt_at memA hw,pt_at memA hw⟩) ?_
   refine t1 10 ?_
   refine cav (cap:=#[ptr c.pw]) (vs:=[I ((1:Nat):Int),I ((many - so:Nat):Int),rv (1 - p) c.l1 c.l2]) (hP1 a0') ?_
   rintro _ _ ⟨i1',a1',h1',rfl,r1',r2',r3',r4',rfl⟩
   refine nl ?_
   refine te (fun w' hw=>⟨pt_at memA hw,pt_at memA hw,pt_at memA hw,pt_at memA hw⟩) ?_
   refine t1 11 ?_
   refine slws (sz:=3) (xs:=rrow qc (n1,d1) ++ rrow (p ^ so) (h0'.getD so nS2) ++ rrow ((1 - p) ^ (many - so)) (h1'.getD (many - so) nS2)) fun g2=>?_
   refine nl ?_
   refine te (fun w' hw=>⟨pt_at memA hw,pt_at memA hw,pt_at memA hw,pt_at memA hw⟩) ?_
   refine t1 12 ?_
   refine ca (hMul _ n1 d1 (h0'.getD so nS2).1 (h0'.getD so nS2).2 (h1'.getD (many - so) nS2).1 (h1'.getD (many - so) nS2).2) ?_ (hp:=has1 (has_oww memA) (has1 hasA (has1 hasA (has1 (by rw [← hpe i0' q3];exact (hpg h0' i0' q2 q3 _ memA).1) (has1 (by rw [← hpe i0' q3];exact (hpg h0' i0' q2 q3 _ memA).2) (has1 (by rw [← hle i1' r3'];exact (hlg h1' i1' r2' r3' _ memA).1) (has1 (by rw [← hle i1' r3'];exact (hlg h1' i1' r2' r3' _ memA).2) has0)))))))
   rintro _ _ ⟨n3,d3,rfl,hn3,hd3,rfl⟩
   refine nl ?_
   refine te (fun w' hw=>⟨pt_at memA hw,pt_at memA hw,pt_at memA hw,pt_at memA hw⟩) ?_
   refine tka 13 ?_
   refine tka 14 ?_
   refine tka 15 ?_
   refine t1 17 ?_
   refine srz ?_
   refine nl ?_
   refine te (fun w' hw=>⟨pt_at memA hw,pt_at memA hw,pt_at memA hw,pt_at memA hw⟩) ?_
   refine tka 18 ?_
   refine t0 ?_
   repeat' first|refine lda (cs:=rrow q (n3,d3)) ?_|refine srz ?_ (hj:=Nat.le_of_ble_eq_true rfl)|refine sq ?_|refine rg ?_|refine xc ?_|refine nl ?_|refine rt ?_
   exact rca1 (b:=c7) (cs:=rrow q (n3,d3)) (vs:=rrow q (n3,d3)) (T:=TRt) ⟨⟨a0',h0',i0',a1',h1',i1'⟩,n3,d3,rfl,hn3,hd3,⟨q1,r1',q2,r2',q4,r4',o7,o8⟩,rfl⟩
 ·refine al fun c12=>?_
  refine nl ?_
  refine te (fun w' hw=>⟨pt_at memA hw,pt_at memA hw,pt_at memA hw,pt_at memA hw⟩) ?_
  refine t1 4 ?_
  refine cav (cap:=#[ptr c.pw]) (vs:=[I ((0:Nat):Int),I so,rv p v1 v2]) (hP0 g.a1) ?_
  rintro _ _ ⟨i0',a0',h0',rfl,q1,q2,q3,q4,rfl⟩
  refine nl ?_
  refine te (fun w' hw=>⟨pt_at memA hw,pt_at memA hw,pt_at memA hw,pt_at memA hw⟩) ?_
  refine t1 10 ?_
  refine cav (cap:=#[ptr c.pw]) (vs:=[I ((1:Nat):Int),I ((many - so:Nat):Int),rv (1 - p) c.l1 c.l2]) (hP1 a0') ?_
  rintro _ _ ⟨i1',a1',h1',rfl,r1',r2',r3',r4',rfl⟩
  refine nl ?_
  refine te (fun w' hw=>⟨pt_at memA hw,pt_at memA hw,pt_at memA hw,pt_at memA hw⟩) ?_
  refine t1 11 ?_
  refine slws (sz:=3) (xs:=rrow qc (n1,d1) ++ rrow (p ^ so) (h0'.getD so nS2) ++ rrow ((1 - p) ^ (many - so)) (h1'.getD (many - so) nS2)) fun g2=>?_
  refine nl ?_
  refine te (fun w' hw=>⟨pt_at memA hw,pt_at memA hw,pt_at memA hw,pt_at memA hw⟩) ?_
  refine t1 12 ?_
  refine ca (hMul _ n1 d1 (h0'.getD so nS2).1 (h0'.getD so nS2).2 (h1'.getD (many - so) nS2).1 (h1'.getD (many - so) nS2).2) ?_ (hp:=has1 (has_oww memA) (has1 hasA (has1 hasA (has1 (by rw [← hpe i0' q3];exact (hpg h0' i0' q2 q3 _ memA).1) (has1 (by rw [← hpe i0' q3];exact (hpg h0' i0' q2 q3 _ memA).2) (has1 (by rw [← hle i1' r3'];exact (hlg h1' i1' r2' r3' _ memA).1) (has1 (by rw [← hle i1' r3'];exact (hlg h1' i1' r2' r3' _ memA).2) has0)))))))
  rintro _ _ ⟨n3,d3,rfl,hn3,hd3,rfl⟩
  refine nl ?_
  refine te (fun w' hw=>⟨pt_at memA hw,pt_at memA hw,pt_at memA hw,pt_at memA hw⟩) ?_
  refine tka 13 ?_
  refine tka 14 ?_
  refine tka 15 ?_
  refine t1 17 ?_
  refine srz ?_
  refine nl ?_
  refine te (fun w' hw=>⟨pt_at memA hw,pt_at memA hw,pt_at memA hw,pt_at memA hw⟩) ?_
  refine tka 18 ?_
  refine t0 ?_
  repeat' first|refine lda (cs:=rrow q (n3,d3)) ?_|refine srz ?_ (hj:=Nat.le_of_ble_eq_true rfl)|refine sq ?_|refine rg ?_|refine xc ?_|refine nl ?_|refine rt ?_
  exact rca1 (b:=c7) (cs:=rrow q (n3,d3)) (vs:=rrow q (n3,d3)) (T:=TRt) ⟨⟨a0',h0',i0',a1',h1',i1'⟩,n3,d3,rfl,hn3,hd3,⟨q1,r1',q2,r2',q4,r4',o7,o8⟩,rfl⟩
theorem share_tr (c:ShC) (p:Rat) (v:HV) (g:ShG) (hv1:v.1.oneCell' = true) (hv2:v.2.oneCell' = true) (ho:ShOk c g) (hB:PwB p) (many so:Nat) (hm:many ≤ 12) (hs:so ≤ many) :
  Tr Tryz.prog 215 [I many,I so,ptr c.bq,ptr c.bp,ptr c.bl] [vw v.1 (Us (dg p.num.natAbs)),vw v.2 (Us (dg p.den))] [shB c p v g] fun u D=>∃ g' vn vd,u = rv (shar p many so) vn vd∧vn.oneCell' = true∧vd.oneCell' = true∧ShOk c g'∧D = [own T64 vn (Us (dg (shar p many so).num.natAbs)),own T64 vd (Us (dg (shar p many so).den)),shB c p v g']:=by
 refine (TrB (share0_tr c p v g hv1 hv2 ho hB many so hm hs)).post ?_
 rintro u D ⟨D',⟨g',vn,vd,hu,h1,h2,h3,rfl⟩,rfl⟩
 refine ⟨_,⟨g',vn,vd,hu,h1,h2,h3,rfl⟩,?_,nb1 (nb1 (nb1 nb0))⟩
 have e1:=un_bnd (own T64 vn (Us (dg (shar p many so).num.natAbs)) :: own T64 vd (Us (dg (shar p many so).den)) :: shP c p v g') []
 rw [List.append_nil] at e1
 refine e1.trans (Im.cons _ (Im.cons _ ?_))
 have e2:=im_bnd (shP c p v g') []
 rw [List.append_nil] at e2
 exact e2
end Go.Art
namespace Go.Art
open Go Go.Proofs Go.RowKit
theorem nb1' {c:Ch} (h:∀ b,¬ c.bd b):∀ x ∈ [c],∀ b,¬ x.bd b:=fun x hx=>by rw [List.mem_singleton.1 hx];exact h
theorem one_mk1:mkRat ((1:Nat):Int) 1 = 1:=by rw [chs_mk];rfl
theorem ofr_one (q:Rat) (v1 v2:Value) {A F:List Ch} (hf:Fit A [own T64 v1 (Us (dg q.num.natAbs)),own T64 v2 (Us (dg q.den))] F):Im A (ofr [(v1,v2)] [q] :: F):=by
 refine Im.trans hf ?_
 show Im (own T64 v1 (Us (dg q.num.natAbs)) :: own T64 v2 (Us (dg q.den)) :: F) (ofr [(v1,v2)] [q] :: F)
 refine (Im.cons _ (Im.cons _ (owl_nil (e:=T64) (g:=wU) F))).trans ?_
 have hf2:Fit (own T64 v1 (Us (dg q.num.natAbs)) :: own T64 v2 (Us (dg q.den)) :: ofr [] [] :: F) [own T64 v1 (Us (dg q.num.natAbs)),own T64 v2 (Us (dg q.den)),ofr [] []] F:=by unfold Fit;exact Im.refl _
 exact ofr_snoc (hs:=[]) (qs:=[]) rfl q v1 v2 hf2
structure FiG where
 r:Nat
 es:List (Option HV)
 g:ShG
attribute [local irreducible] Fit pt own ro vw mpc lpt vels rels mow lrc dfr
attribute [local irreducible] lmp lme mit velg relg bnd owl dfrl gow shB
theorem shares_tr (p:Rat) (v:HV) (hv1:v.1.oneCell' = true) (hv2:v.2.oneCell' = true) (hp:FB p 8589934592):Tr Tryz.prog 168 [rv p v.1 v.2] [vw v.1 (Us (dg p.num.natAbs)),vw v.2 (Us (dg p.den))] []
  fun u D=>∃ c g,u = shV c∧ShOk c g∧D = [shB c p v g]:=by
 have hW:=whole_tr 1 (by decide)
 rw [one_mk1] at hW
 have hS:=fun n1 d1 h1 h2=>FSub_tr 1 p n1 d1 v.1 v.2 h1 h2 hv1 hv2 FB_one hp
 unfold FQ at hW
 unfold FQ2 at hS
 obtain ⟨v1,v2⟩:=v
 dsimp only at hv1 hv2 hS
 obtain ⟨o,ho⟩ : ∃ o:Rat,o = 1:=⟨_,rfl⟩
 have hpz:∀ q:Rat,pows q 0 = [o]:=fun q=>by rw [pows_zero,ho]
 obtain ⟨q,hq⟩ : ∃ q:Rat,q = 1 - p:=⟨_,rfl⟩
 have e1:((1:Nat):Int) = 1:=rfl
 rw [e1] at hW
 rw [← ho] at hW
 rw [← ho] at hS hq
 simp only [← hq] at hS
 have hsh:∀ c g,shB c p (v1,v2) g = bnd [pt c.bq [powV c.pw] TPf,pt c.bp (rrow p (v1,v2)) TRt,pt c.bl (rrow q (c.l1,c.l2)) TRt,own T64 c.l1 (Us (dg q.num.natAbs)),own T64 c.l2 (Us (dg q.den)),pt c.pw [g.a0,g.a1] TPw,oww TRt 3 g.a0 (g.i0 + 1) (rcs (pows p g.i0) g.h0),ofr g.h0 (pows p g.i0),oww TRt 3 g.a1 (g.i1 + 1) (rcs (pows q g.i1) g.h1),ofr g.h1 (pows q g.i1)]:=fun c g=>by rw [hq,ho];unfold shB;rfl
 simp only [hsh]
 clear hq hsh hp
 refine Tr.enter env _ Tryz.func168 (by kernel_rfl) rfl Tryz.ntmps168 rfl (by repeat (first | exact has00 | refine has01 ?_)) fun w0=>?_
 repeat' first|refine bx fun c1=>?_|(refine wo ?_;first|refine oa ?_)|refine sq ?_|refine rg ?_|refine xc ?_|refine nl ?_
 refine cutY (ι:=Nat × HV) (fun g=>g.2.1.oneCell' = true∧g.2.2.oneCell' = true) (fun g=>[(1,ptr c1),(3,ptr g.1)]) (fun g=>[pt g.1 (rrow q g.2) TRt,own T64 g.2.1 (Us (dg q.num.natAbs)),own T64 g.2.2 (Us (dg q.den)),pt c1 (rrow p (v1,v2)) TRt,vw v1 (Us (dg p.num.natAbs)),vw v2 (Us (dg p.den))]) ?_ ?_
 ·rintro ⟨c3,l1,l2⟩ ⟨hl1,hl2⟩
  dsimp only at hl1 hl2 ⊢
  repeat' first|(refine gca ?_;first|(refine ca hW ?_;rintro _ _ ⟨n1,d1,rfl,hn1,hd1,rfl⟩))|refine slws (sz:=3) (xs:=rrow o (n1,d1)) (fun g2=>?_)|refine sq ?_|refine rg ?_
  rename_i n0 d0 hn0 hd0 g1
  repeat' first|refine bda (cs:=[.slice (some ⟨g1,0,none⟩) 1 1,.slice (some ⟨g2,0,none⟩) 1 1]) ?_|refine al fun c6=>?_|refine srz ?_|(refine wo ?_;first|refine oa ?_|refine sr ?_)|refine sq ?_|refine rg ?_|refine xc ?_|refine nl ?_|refine rt ?_
  rename_i c5
  refine TX.im (ofr_one o n0 d0 fitA) (TX.im (ofr_one o n1 d1 fitA) ?_)
  exact r1 (D:=[bnd [pt c6 [powV c5] TPf,pt c1 (rrow p (v1,v2)) TRt,pt c3 (rrow q (l1,l2)) TRt,own T64 l1 (Us (dg q.num.natAbs)),own T64 l2 (Us (dg q.den)),pt c5 [.slice (some ⟨g1,0,none⟩) 1 1,.slice (some ⟨g2,0,none⟩) 1 1] TPw,oww TRt 3 (.slice (some ⟨g1,0,none⟩) 1 1) 1 (rrow o (n0,d0)),ofr [(n0,d0)] [o],oww TRt 3 (.slice (some ⟨g2,0,none⟩) 1 1) 1 (rrow o (n1,d1)),ofr [(n1,d1)] [o]]]) ⟨⟨c6,c1,c3,c5,l1,l2⟩,⟨.slice (some ⟨g1,0,none⟩) 1 1,[(n0,d0)],0,.slice (some ⟨g2,0,none⟩) 1 1,[(n1,d1)],0⟩,rfl,⟨rfl,rfl,rfl,rfl,Nat.zero_le _,Nat.zero_le _,hl1,hl2⟩,by dsimp only;rw [hpz,hpz,rcs_one,rcs_one]⟩ (hf:=fit_bnd (C:=[pt c6 [powV c5] TPf,pt c1 (rrow p (v1,v2)) TRt,pt c3 (rrow q (l1,l2)) TRt,own T64 l1 (Us (dg q.num.natAbs)),own T64 l2 (Us (dg q.den)),pt c5 [.slice (some ⟨g1,0,none⟩) 1 1,.slice (some ⟨g2,0,none⟩) 1 1] TPw,oww TRt 3 (.slice (some ⟨g1,0,none⟩) 1 1) 1 (rrow o (n0,d0)),ofr [(n0,d0)] [o],oww TRt 3 (.slice (some ⟨g2,0,none⟩) 1 1) 1 (rrow o (n1,d1)),ofr [(n1,d1)] [o]]) fitA) (nb:=nb1' (bnd_nob (by repeat (first | exact nb0 | refine nb1 ?_))))
 ·intro b' kb
  refine rs (fun w'=>w'.heap[c1]? = some (.cells (rrow p (v1,v2)).toArray TRt (0,0))) ?_ (fun w' hw=>pt_at memA hw)
  refine tk 1 (v:=.agg (rrow p (v1,v2)).toArray) (fun w' h=>R_loadA (E:=env) (vs:=rrow p (v1,v2)) rfl rfl rfl rfl h rfl rfl) ?_
  refine t2 0 6 ?_ ?_
  ·refine ca hW ?_
   rintro _ _ ⟨n1,d1,rfl,hn1,hd1,rfl⟩
   refine nl ?_
   refine te (fun w' hw=>pt_at memA hw) ?_
   refine t2 2 6 ?_ ?_
   ·refine ca (hS n1 d1 hn1 hd1) ?_
    rintro _ _ ⟨l1,l2,rfl,hl1,hl2,rfl⟩
    refine nl ?_
    refine te (fun w' hw=>pt_at memA hw) ?_
    refine tka 3 ?_
    refine tka 4 ?_
    refine tka 5 ?_
    refine t1 6 ?_
    refine al fun c3=>?_
    refine nl ?_
    refine te (fun w' hw=>pt_at memA hw) ?_
    refine t1 7 ?_
    refine srz ?_
    refine nl ?_
    refine te (fun w' hw=>pt_at memA hw) ?_
    refine tka 8 ?_
    refine t0 ?_
    repeat' first|refine xc ?_
    exact kb (c3,l1,l2) ⟨hl1,hl2⟩ _ _ (by (repeat (refine Sub.cons rfl (by first | rfl | go_num) ?_));exact Sub.nil) fitA
   ·refine al fun c3=>?_
    refine nl ?_
    refine te (fun w' hw=>pt_at memA hw) ?_
    refine t1 2 ?_
    refine ca (hS n1 d1 hn1 hd1) ?_
    rintro _ _ ⟨l1,l2,rfl,hl1,hl2,rfl⟩
    refine nl ?_
    refine te (fun w' hw=>pt_at memA hw) ?_
    refine tka 3 ?_
    refine tka 4 ?_
    refine tka 5 ?_
    refine t1 7 ?_
    refine srz ?_
    refine nl ?_
    refine te (fun w' hw=>pt_at memA hw) ?_
    refine tka 8 ?_
    refine t0 ?_
    repeat' first|refine xc ?_
    exact kb (c3,l1,l2) ⟨hl1,hl2⟩ _ _ (by (repeat (refine Sub.cons rfl (by first | rfl | go_num) ?_));exact Sub.nil) fitA
  ·refine al fun c3=>?_
   refine nl ?_
   refine te (fun w' hw=>pt_at memA hw) ?_
   refine t1 0 ?_
   refine ca hW ?_
   rintro _ _ ⟨n1,d1,rfl,hn1,hd1,rfl⟩
   refine nl ?_
   refine te (fun w' hw=>pt_at memA hw) ?_
   refine t1 2 ?_
   refine ca (hS n1 d1 hn1 hd1) ?_
   rintro _ _ ⟨l1,l2,rfl,hl1,hl2,rfl⟩
   refine nl ?_
   refine te (fun w' hw=>pt_at memA hw) ?_
   refine tka 3 ?_
   refine tka 4 ?_
   refine tka 5 ?_
   refine t1 7 ?_
   refine srz ?_
   refine nl ?_
   refine te (fun w' hw=>pt_at memA hw) ?_
   refine tka 8 ?_
   refine t0 ?_
   repeat' first|refine xc ?_
   exact kb (c3,l1,l2) ⟨hl1,hl2⟩ _ _ (by (repeat (refine Sub.cons rfl (by first | rfl | go_num) ?_));exact Sub.nil) fitA
end Go.Art
namespace Go.Art
open Go Go.Proofs Go.RowKit
theorem pow_lt_W {F B j:Nat} (hF:F < 18446744073709551616 ^ B) (hj:j ≤ 13):F ^ j < 18446744073709551616 ^ (B * 13 + 1):=by
 have h1:F ^ j ≤ (18446744073709551616 ^ B) ^ j:=Nat.pow_le_pow_left (Nat.le_of_lt hF) j
 rw [← Nat.pow_mul] at h1
 refine Nat.lt_of_le_of_lt h1 ?_
 refine Nat.pow_lt_pow_right (by decide) ?_
 have:=Nat.mul_le_mul_left B hj
 omega
theorem Ch01.lack {F:Nat} {p:Rat} (h:Ch01 F p):Ch01 F (1 - p):=⟨h.fr.lack h.nz h.le,by have:=h.fr.nonneg;grind,h.nz⟩
theorem Ch01.powFB {F B:Nat} {p:Rat} (h:Ch01 F p) (hF:F < 18446744073709551616 ^ B) (hB:B ≤ 12) {j:Nat} (hj:j ≤ 13):FB (p ^ j) 8589934592:=by
 refine (FB_le1 (B:=B * 13 + 1) (h.fr.pow j) (Nat.ne_of_gt (Nat.pow_pos (Nat.pos_of_ne_zero h.nz))) (pow_leR h.fr.nonneg h.le j) (pow_lt_W hF hj)).le ?_
 omega
theorem PwB_of {F B:Nat} {p:Rat} (h:Ch01 F p) (hF:F < 18446744073709551616 ^ B) (hB:B ≤ 12):PwB p:=by
 refine ⟨fun j hj=>h.powFB hF hB hj,fun j hj=>h.lack.powFB hF hB hj,fun m s hm hs=>?_⟩
 obtain ⟨b,hb,hq⟩:=(h.fr.pow s).le (Nat.ne_of_gt (Nat.pow_pos (Nat.pos_of_ne_zero h.nz))) (pow_leR h.fr.nonneg h.le s)
 rw [hq]
 have e:(chs m s:Rat) * ((b:Rat) / ((F ^ s:Nat):Rat)) = ((chs m s * b:Nat):Rat) / ((F ^ s:Nat):Rat):=by
  rw [Rat.div_def,Rat.div_def];push_cast;grind
 rw [e]
 have h1:=pow_lt_W (j:=s) hF (by omega)
 refine (FB_nat (B:=B * 13 + 2) (Nat.ne_of_gt (Nat.pow_pos (Nat.pos_of_ne_zero h.nz))) ?_ ?_).le (by omega)
 ·have h2:chs m s ≤ 2 ^ 12:=Nat.le_trans (chs_le m s) (Nat.pow_le_pow_right (by decide) hm)
  have h3:chs m s * b ≤ 2 ^ 12 * 18446744073709551616 ^ (B * 13 + 1):=Nat.mul_le_mul h2 (Nat.le_trans hb (Nat.le_of_lt h1))
  refine Nat.lt_of_le_of_lt h3 ?_
  rw [show B * 13 + 2 = B * 13 + 1 + 1 from rfl,Nat.pow_succ 18446744073709551616 (B * 13 + 1),Nat.mul_comm]
  exact Nat.mul_lt_mul_of_pos_left (by decide) (Nat.pow_pos (by decide))
 ·exact Nat.lt_of_lt_of_le h1 (Nat.pow_le_pow_right (by decide) (by omega))
theorem pT_ch {t:List Int} {k:Nat} (hz:solE t k = 0):Ch01 (oneS t k) (pT t k):=p_ch (oneS_pos hz) (tabX_one hz)
theorem fT_ch {t:List Int} {k u:Nat} (hz:solE t k = 0) (h1:1 ≤ u) (hu:u ≤ k):Ch01 (fT t k u).den (fT t k u)∧(fT t k u).den ≤ u * oneS t k:=free_ch (oneS_pos hz) (tabX_one hz) h1 hu
theorem fT_lt {t:List Int} {k u:Nat} (hz:solE t k = 0) (hk:k ≤ 40) (hl:t.length ≤ 12) (h1:1 ≤ u) (hu:u ≤ k):(fT t k u).den < 18446744073709551616 ^ 11:=by
 have h2:=oneS_lt hz hk hl
 have h3:=(fT_ch hz h1 hu).2
 have h4:u * oneS t k ≤ 40 * 18446744073709551616 ^ 10:=Nat.mul_le_mul (by omega) (Nat.le_of_lt h2)
 exact Nat.lt_of_le_of_lt (Nat.le_trans h3 h4) (by decide)
def firP (p:Rat) (n m:Nat):List Rat:=(List.range m).foldl (fun l r=>l.set ((n - r) * (n + 1) + r) (shar p n r)) (List.replicate ((n + 1) * (n + 1)) 0)
theorem firP_succ (p:Rat) (n m:Nat):firP p n (m + 1) = (firP p n m).set ((n - m) * (n + 1) + m) (shar p n m):=by unfold firP;rw [List.range_succ,List.foldl_append];rfl
theorem firP_all (p:Rat) (n:Nat):firP p n (n + 1) = firstR p n:=rfl
theorem firP_zero (p:Rat) (n:Nat):firP p n 0 = List.replicate ((n + 1) * (n + 1)) 0:=rfl
attribute [local irreducible] Fit pt own ro vw mpc lpt vels rels mow lrc dfr
attribute [local irreducible] lmp lme mit velg relg bnd owl dfrl gow shB
abbrev gP (n:Nat) (v:Value) (qs:List Rat) (es:List (Option HV)) (z:HV):List Ch:=[oww TRt 3 v ((n + 1) * (n + 1)) (rcs qs (hsE z es)),gow es qs,own T64 z.1 (Us (dg (0:Rat).num.natAbs)),own T64 z.2 (Us (dg (0:Rat).den))]
abbrev GR (n:Nat) (qs:List Rat) (u:Value) (D:List Ch):Prop:=∃ v es z,u = gV n v∧v.oneCell' = true∧(z.1.oneCell' = true∧z.2.oneCell' = true)∧Grd n es qs∧D = gP n v qs es z
theorem first_tr (tv:Value) (htv:tv.oneCell' = true) (t:List Int) (k n:Nat) (hz:solE t k = 0) (hk:k ≤ 40) (hl:t.length ≤ 12) (hn:n ≤ 12):Tr Tryz.prog 106 [tv,I k,I n] [vw tv (Is t)] [] (GR n (lvT t k n 0)):=by
 have hk1:=(solE_zero hz).1
 have hW:=whole_tr 0 (by decide)
 rw [zero_mk] at hW
 have hM:=fun z1 z2 h1 h2=>made_tr n _ 0 z1 z2 h1 h2 rfl hn
 have hI:=In_tr tv htv t k k 1 hz hk hl (Nat.le_refl k) (by omega)
 have hpB:=PwB_of (pT_ch hz) (oneS_lt hz hk hl) (by decide)
 have hpF:FB (pT t k) 8589934592:=(evI_FB hz hk hl (Nat.le_refl k) (Nat.le_refl _)).le (by decide)
 have hSh:=fun v1 v2 h1 h2=>shares_tr (pT t k) (v1,v2) h1 h2 hpF
 rw [show lvT t k n 0 = firP (pT t k) n (n + 1) from rfl]
 unfold FQ2 at hI
 unfold FQ at hW
 dsimp only at hSh
 have hI2:evI t.length k (omg t k) k 1 = pT t k:=rfl
 rw [hI2] at hI
 clear hI2 hz hpF
 generalize pT t k = p at *
 obtain ⟨N,hN⟩ : ∃ N,N = (n + 1) * (n + 1):=⟨_,rfl⟩
 obtain ⟨o,ho⟩ : ∃ o:Rat,o = 0:=⟨_,rfl⟩
 have hN1:=hN
 rw [← ho] at hW hM
 have e0:((0:Nat):Int) = 0:=rfl
 have e1:((1:Nat):Int) = 1:=rfl
 rw [e0] at hW
 rw [e1] at hI
 have hNi:∀ i r,i ≤ n→r ≤ n→i * (n + 1) + r < N:=fun i r h1 h2=>by rw [hN];exact place_lt h1 h2
 refine Tr.enter env _ Tryz.func106 (by kernel_rfl) rfl Tryz.ntmps106 rfl (by repeat (first | exact has00 | refine has01 ?_)) fun w0=>?_
 repeat' first|(refine gca ?_;first|(refine ca hW ?_;rintro _ _ ⟨z1,z2,rfl,hz1,hz2,rfl⟩)|(refine ca (hM z1 z2 hz1 hz2) ?_;rintro _ _ ⟨v,rfl,hv,rfl⟩)|(refine ca hI ?_;rintro _ _ ⟨p1,p2,rfl,hp1,hp2,rfl⟩)|(refine ca (hSh p1 p2 hp1 hp2) ?_;rintro _ _ ⟨c,g,rfl,hg,rfl⟩))|refine al fun c7=>?_|refine srz ?_|refine lda ?_|(refine wo ?_;first|(refine ao ?_;first|refine aw ?_)|refine oa ?_)|refine sq ?_|refine rg ?_|refine xc ?_|refine nl ?_|refine bk ?_
 rename_i c6 c7g
 subst ho
 refine TC.im (gow_none _ ((n + 1) * (n + 1)) (List.replicate ((n + 1) * (n + 1)) 0)) ?_
 rw [← firP_zero p n,← hsE_none (z1,z2)]
 refine TC.loop (ι:=FiG) (fun g=>[(26,I g.r)]) (fun g=>[oww TRt 3 v ((n + 1) * (n + 1)) (rcs (firP p n g.r) (hsE (z1,z2) g.es)),gow g.es (firP p n g.r),shB c p (p1,p2) g.g]) (fun g=>g.r ≤ n + 1∧Grd n g.es (firP p n g.r)∧ShOk c g.g) (fun g=>n + 1 - g.r) ⟨0,List.replicate ((n + 1) * (n + 1)) none,g⟩ [2,6,7,10,25] ⟨Nat.zero_le _,Grd.none n,hg⟩ ?_
 rintro ⟨r,es,g⟩ ⟨hr,hgr,hg⟩
 dsimp only at hr hgr hg ⊢
 by_cases hlt:r < n + 1
 ·have hS:=share_tr c p (p1,p2) g hp1 hp2 hg hpB n r hn (by omega)
  have hA:=fun xs=>gat_tr n v xs (n - r) r hv hn (by omega) (by omega)
  have hj:=hNi (n - r) r (by omega) (by omega)
  have hset:=rcs_setE (z:=(z1,z2)) hgr (i:=(n - r) * (n + 1) + r) (by rw [← hN];exact hj) (shar p n r)
  have hgo:=fun v1 v2=>hgr.set (i:=(n - r) * (n + 1) + r) (by rw [← hN];exact hj) (shar p n r) (v1,v2)
  have hsu:=firP_succ p n r
  rw [← hsu] at hgo
  simp only [← hsu] at hset
  have hel:=hgr.el
  have hql:=hgr.ql
  clear hpB hM hI hW hSh hNi
  obtain ⟨j,hjj⟩ : ∃ j,j = (n - r) * (n + 1) + r:=⟨_,rfl⟩
  rw [← hN] at hel hql
  rw [← hjj] at hA hj hset hgo hsu
  have hnr:(n:Int) - r = ((n - r:Nat):Int):=by omega
  clear hjj
  rw [← hN]
  rw [← hN] at hA
  generalize shar p n r = q at *
  generalize firP p n r = F at *
  obtain ⟨F2,hF2⟩ : ∃ F2,F2 = firP p n (r + 1):=⟨_,rfl⟩
  rw [← hF2] at hgo hsu
  simp only [← hF2] at hset
  repeat' first|(refine gca ?_;first|(refine ca (hA _) ?_ (hp:=has1 (has_oww memA) has0);rintro _ _ ⟨rfl,rfl⟩))|refine lda (cs:=[I n,v]) ?_|(refine aw (m:=(n:Int) - r) ?_;rw [hnr])|(refine cav (cap:=#[ptr c.bq,ptr c.bp,ptr c.bl]) (vs:=[I n,I r]) hS ?_;rintro _ _ ⟨g',vn,vd,rfl,hvn,hvd,hg',rfl⟩)|refine sow (sz:=3) (m:=3 * j) (N:=N) (xs:=rcs F (hsE (z1,z2) es)) (vs:=rrow q (vn,vd)) (by omega) ?_ (h1:=one_cons rfl (one_cons hvn (one_cons hvd one_nil)))|(refine wo ?_;first|(refine ao ?_;first|refine aw ?_|refine oa ?_)|refine oa ?_)|(refine gc ?_;first|(refine ci (fun hB=>?_) (fun hB=>?_) <;> try (exfalso;omega)))|refine sq ?_|refine rg ?_|refine xc ?_|refine nl ?_|refine sk ?_|refine bk ?_|refine xb ?_
  refine TX.im (gow_set (es:=es) (qs:=F) (by rw [hel,hql]) (i:=j) (by rw [hql];exact hj) q vn vd fitA) ?_
  rw [hset,← hsu]
  exact lp ⟨r + 1,es.set j (some (vn,vd)),g'⟩ ⟨hlt,by dsimp only;rw [← hF2];exact hgo vn vd,hg'⟩ (hf:=by dsimp only;rw [← hF2];exact fitA)
 ·obtain rfl:r = n + 1:=by omega
  repeat' first|refine lda (cs:=[I n,v]) ?_|refine srz ?_|(refine wo ?_;first|(refine ao ?_;first|refine oa ?_))|(refine gc ?_;first|(refine ci (fun hB=>?_) (fun hB=>?_) <;> try (exfalso;omega)))|refine sq ?_|refine rg ?_|refine xc ?_|refine nl ?_|refine xe ?_|refine rt ?_
  exact rca1 (b:=c6) (cs:=[I n,v]) (vs:=[I n,v]) (T:=TGr) ⟨v,es,(z1,z2),rfl,hv,⟨hz1,hz2⟩,hgr,rfl⟩
end Go.Art
namespace Go.Art
open Go Go.Proofs Go.RowKit
theorem mul_le1 {q r:Rat} (hq:0 ≤ q) (h1:q ≤ 1) (h3:r ≤ 1):q * r ≤ 1:=by
 have:=Rat.mul_le_mul_of_nonneg_left h3 hq
 rw [Rat.mul_one] at this
 exact Rat.le_trans this h1
structure NxF (n B:Nat) (f g:Rat) (x:List Rat) (i a b:Nat):Prop where
 cr:i / (n + 1) + i % (n + 1) ≤ n
 y:FB (x.getD i 0) B
 sf:FB (shar f (i / (n + 1)) a) B
 sg:FB (shar g (i % (n + 1) - 1) b) B
 ys:FB (x.getD i 0 * shar f (i / (n + 1)) a) B
 p:FB (x.getD i 0 * shar f (i / (n + 1)) a * shar g (i % (n + 1) - 1) b) B
 o:∀ j,j < (n + 1) * (n + 1)→FB ((outB n f g (x.getD i 0) (i / (n + 1)) (i % (n + 1)) a (outA n f g (x.getD i 0) (i / (n + 1)) (i % (n + 1)) (outN n f g x i) a) b).getD j 0) B
theorem nx_facts {n E F u B:Nat} {f:Rat} {x:List Rat} (hf:Ch01 F f) (hg:Ch01 u (1 / (u:Rat))) (hs:Supp n x) (hx:Lv n E x) (ht:tot n x ≤ 1) (hE:E ≠ 0) (hB:E * (F ^ n * u ^ n) < 18446744073709551616 ^ B)
  {i:Nat} (hi:i < (n + 1) * (n + 1)) (h:¬ (i % (n + 1) = 0∨x.getD i 0 = 0)) {a:Nat} (ha:a ≤ i / (n + 1)) (h2:¬ shar f (i / (n + 1)) a = 0) {b:Nat} (hb:b < i % (n + 1)):NxF n B f (1 / (u:Rat)) x i a b:=by
 have hcr:i / (n + 1) + i % (n + 1) ≤ n:=by
  rcases Nat.lt_or_ge n (i / (n + 1) + i % (n + 1)) with h1 | h1
  ·exact absurd (.inr (hs.z i hi h1)) h
  ·exact h1
 have hF0:F ^ n ≠ 0:=Nat.ne_of_gt (Nat.pow_pos (Nat.pos_of_ne_zero hf.nz))
 have hu0:u ^ n ≠ 0:=Nat.ne_of_gt (Nat.pow_pos (Nat.pos_of_ne_zero hg.nz))
 have hFu:=Nat.mul_ne_zero hF0 hu0
 have hE0:=Nat.mul_ne_zero hE hFu
 have le1:E ≤ E * (F ^ n * u ^ n):=Nat.le_mul_of_pos_right _ (Nat.pos_of_ne_zero hFu)
 have le2:F ^ n ≤ E * (F ^ n * u ^ n):=Nat.le_trans (Nat.le_mul_of_pos_right _ (Nat.pos_of_ne_zero hu0)) (Nat.le_mul_of_pos_left _ (Nat.pos_of_ne_zero hE))
 have le3:u ^ n ≤ E * (F ^ n * u ^ n):=Nat.le_trans (Nat.le_mul_of_pos_left _ (Nat.pos_of_ne_zero hF0)) (Nat.le_mul_of_pos_left _ (Nat.pos_of_ne_zero hE))
 have le4:E * F ^ n ≤ E * (F ^ n * u ^ n):=Nat.mul_le_mul_left E (Nat.le_mul_of_pos_right _ (Nat.pos_of_ne_zero hu0))
 have y0:=hx.fr i hi
 have y1:x.getD i 0 ≤ 1:=Rat.le_trans (hx.le_tot hi) ht
 have f0:=shar_fr (n:=n) hf ha (by omega)
 have f1:=shar_le hf ha
 have g0:=shar_fr (n:=n) (m:=i % (n + 1) - 1) (s:=b) hg (by omega) (by omega)
 have g1:=shar_le (m:=i % (n + 1) - 1) (s:=b) hg (by omega)
 have m1:=mul_le1 y0.nonneg y1 f1
 have m2:=mul_le1 (y0.mul f0).nonneg m1 g1
 have p0:=(y0.mul f0).mul g0
 rw [Nat.mul_assoc] at p0
 refine ⟨hcr,FB_le1 y0 hE y1 (by omega),FB_le1 f0 hF0 f1 (by omega),FB_le1 g0 hu0 g1 (by omega),FB_le1 (y0.mul f0) (Nat.mul_ne_zero hE hF0) m1 (by omega),FB_le1 p0 hE0 m2 hB,fun j hj=>?_⟩
 obtain ⟨k1,k2⟩:=out_okB hf hg hs hx ht hi h ha h2 (b:=b) (by omega)
 exact FB_le1 (k1.fr j hj) hE0 (Rat.le_trans (k1.le_tot hj) k2) hB
theorem y_FB {n E B:Nat} {x:List Rat} (hx:Lv n E x) (ht:tot n x ≤ 1) (hE:E ≠ 0) (hB:E < 18446744073709551616 ^ B) {i:Nat} (hi:i < (n + 1) * (n + 1)):FB (x.getD i 0) B:=FB_le1 (hx.fr i hi) hE (Rat.le_trans (hx.le_tot hi) ht) hB
theorem s_FB {n E F u B:Nat} {f:Rat} {x:List Rat} (hf:Ch01 F f) (hu:u ≠ 0) (hs:Supp n x) (hE:E ≠ 0) (hB:E * (F ^ n * u ^ n) < 18446744073709551616 ^ B) {i:Nat} (hi:i < (n + 1) * (n + 1)) (h:¬ (i % (n + 1) = 0∨x.getD i 0 = 0)) {a:Nat} (ha:a ≤ i / (n + 1)):i / (n + 1) + i % (n + 1) ≤ n∧FB (shar f (i / (n + 1)) a) B:=by
 have hcr:i / (n + 1) + i % (n + 1) ≤ n:=by
  rcases Nat.lt_or_ge n (i / (n + 1) + i % (n + 1)) with h1 | h1
  ·exact absurd (.inr (hs.z i hi h1)) h
  ·exact h1
 have hF0:F ^ n ≠ 0:=Nat.ne_of_gt (Nat.pow_pos (Nat.pos_of_ne_zero hf.nz))
 have hu0:u ^ n ≠ 0:=Nat.ne_of_gt (Nat.pow_pos (Nat.pos_of_ne_zero hu))
 have le2:F ^ n ≤ E * (F ^ n * u ^ n):=Nat.le_trans (Nat.le_mul_of_pos_right _ (Nat.pos_of_ne_zero hu0)) (Nat.le_mul_of_pos_left _ (Nat.pos_of_ne_zero hE))
 exact ⟨hcr,FB_le1 (shar_fr (n:=n) hf ha (by omega)) hF0 (shar_le hf ha) (by omega)⟩
open Go Go.Proofs Go.RowKit
structure NxS where
 i:Nat
 es:List (Option HV)
 gf:ShG
 gg:ShG
structure NxB where
 b:Nat
 es:List (Option HV)
 gg:ShG
structure NxC where
 v:Value
 z:HV
 c9:Nat
structure NxD where
 c14:Nat
 c15:Nat
 cf:ShC
 cg:ShC
 gf:ShG
 gg:ShG
section
variable {P:Program} {E:Env P} {n:Sh} {X:Cx} {s:List K} {fr:Fr} {A:List Ch} {ops:Array Oper} {S:World→Prop} {fuel:Nat} {listed:Array Bool}
theorem krw (i:Nat) (c:Int) {m:Int} {d:Nat} {o:Op} {ty:TypeId} {pos:String} {after:Array Edge} (k:TS E n X s S ops fuel (listed.setIfInBounds i true) ((d,I c) :: fr) A) (hi:ops[i]? = some ⟨some d,o,ty,pos,after,none⟩:=by rfl) (hv:evOp E fr o = some (.int .i64 (IntKind.i64.wrap m)):=by rfl) (he:m = c:=by first | rfl | assumption | omega) (hb : -9223372036854775808 ≤ m∧m ≤ 9223372036854775807:=by omega) (hs:Region.noSelect ops = true:=by kernel_rfl) (hf:Region.free .any ops listed i = true:=by kernel_rfl)
  (hr:(Region.ready .any ops listed).contains i = true:=by kernel_rfl) (hnd:noDef ops = true:=by kernel_rfl) (hd:Nat.blt d n.n = true:=by rfl) (hab:∀ w ρ,(⟨some d,o,ty,pos,after,none⟩ : Oper).about P w ρ = none:=by exact fun _ _=>rfl):TS E n X s S ops (fuel + 1) listed fr A:=
 kr i (fun _ _=>by subst he;exact R_wrap (R_auto hv) hb) k hi hs hf hr hnd hd hab
end
structure NxM where
 c23:Nat
 m1:Value
 m2:Value
 gg:ShG
theorem inv_mk (u:Nat):mkRat ((1:Nat):Int) u = 1 / (u:Rat):=by rw [Rat.mkRat_eq_div];rfl
attribute [local irreducible] Fit pt own ro vw mpc lpt vels rels mow lrc dfr
attribute [local irreducible] lmp lme mit velg relg bnd owl dfrl gow shB
abbrev TSh:TypeId:=191
abbrev TPl:TypeId:=85
set_option maxHeartbeats 1000000 in
theorem nxt_tr (tv gv:Value) (htv:tv.oneCell' = true) (hgv:gv.oneCell' = true) (t:List Int) (k u n E B:Nat) (xs:List Rat) (hs:List HV) (hz:solE t k = 0) (hk:k ≤ 40) (hl:t.length ≤ 12) (hn:n ≤ 12) (hu1:1 ≤ u) (hu:u ≤ k)
  (hlen:hs.length = xs.length) (hsu:Supp n xs) (hlv:Lv n E xs) (htot:tot n xs ≤ 1) (hE:E ≠ 0) (hBd:E * ((fT t k u).den ^ n * u ^ n) < 18446744073709551616 ^ B) (hB0:B ≤ 8589934592) :
  Tr Tryz.prog 107 [gV n gv,tv,I k,I u] [vw tv (Is t),vwf gv ((n + 1) * (n + 1)) (rcs xs hs),vfr hs xs] [] (GR n (nextR (fT t k u) (1 / (u:Rat)) n xs)):=by
 have hf:=(fT_ch hz hu1 hu).1
 have hg:=one_over (u:=u) (by omega)
 have hEB:E < 18446744073709551616 ^ B:=Nat.lt_of_le_of_lt (Nat.le_mul_of_pos_right _ (Nat.pos_of_ne_zero (Nat.mul_ne_zero (Nat.ne_of_gt (Nat.pow_pos (Nat.pos_of_ne_zero hf.nz))) (Nat.ne_of_gt (Nat.pow_pos (by omega)))))) hBd
 have hnx:=fun i a b h1 h2 h3 h4 h5=>nx_facts (i:=i) (a:=a) (b:=b) hf hg hsu hlv htot hE hBd h1 h2 h3 h4 h5
 have hyF:=fun i hi=>(y_FB (i:=i) hlv htot hE hEB hi).le hB0
 have hsF:=fun i a hi h ha=>s_FB (i:=i) (a:=a) hf (show u ≠ 0 by omega) hsu hE hBd hi h ha
 have hpf:=PwB_of hf (fT_lt hz hk hl hu1 hu) (by decide)
 have hpg:=PwB_of (B:=1) hg (by have:=(solE_zero hz).1;omega) (by decide)
 have hFf:FB (fT t k u) 8589934592:=by have:=hpf.hp 1 (by decide);rwa [show fT t k u ^ 1 = fT t k u by rw [Rat.pow_succ,Rat.pow_zero,Rat.one_mul]] at this
 have hFg:FB (1 / (u:Rat)) 8589934592:=by have:=hpg.hp 1 (by decide);rwa [show (1 / (u:Rat)) ^ 1 = 1 / (u:Rat) by rw [Rat.pow_succ,Rat.pow_zero,Rat.one_mul]] at this
 have hFree:=Free_tr tv htv t k u hz hk hl hu1 hu
 have hPair:=FPair_tr 1 u (by decide) (by omega) (by omega)
 rw [inv_mk] at hPair
 have hW:=whole_tr 0 (by decide)
 rw [zero_mk] at hW
 have hM:=fun z1 z2 h1 h2=>made_tr n _ 0 z1 z2 h1 h2 rfl hn
 have hSf:=fun v1 v2 h1 h2=>shares_tr (fT t k u) (v1,v2) h1 h2 hFf
 have hSg:=fun v1 v2 h1 h2=>shares_tr (1 / (u:Rat)) (v1,v2) h1 h2 hFg
 have hql:xs.length = (n + 1) * (n + 1):=hlv.len
 have hPl:=places_tr n gv hgv
 unfold FQ2 at hFree hPair
 unfold FQ at hW
 dsimp only at hSf hSg
 have e0:((0:Nat):Int) = 0:=rfl
 have e1:((1:Nat):Int) = 1:=rfl
 rw [e0] at hW
 rw [e1] at hPair
 clear hz hsu htot hBd hEB hf hg hFf hFg hE hlv
 generalize fT t k u = f at *
 generalize 1 / (u:Rat) = g at *
 obtain ⟨o,ho⟩ : ∃ o:Rat,o = 0:=⟨_,rfl⟩
 rw [← ho] at hW hM
 refine Tr.enterM env _ Tryz.func107 (by kernel_rfl) rfl Tryz.ntmps107 rfl (by repeat (first | exact has00 | refine has01 ?_)) fun w0=>?_
 refine TC.fact (fun w hw i hi=>fr_one (hs:=hs) (qs:=xs) hasA hlen (i:=i) hi w hw) fun hone=>?_
 repeat' first|refine bx fun c4=>?_|refine al fun c8=>?_|refine sq ?_|refine rg ?_|refine xc ?_|refine nl ?_
 refine cutY (ι:=NxC) (fun x=>x.v.oneCell' = true∧x.z.1.oneCell' = true∧x.z.2.oneCell' = true) (fun x=>[(1,tv),(2,I k),(3,I u),(4,ptr c4),(8,ptr c8),(9,ptr x.c9)]) (fun x=>[pt x.c9 [I n,x.v] TGr,oww TRt 3 x.v ((n + 1) * (n + 1)) (rcs (List.replicate ((n + 1) * (n + 1)) o) (List.replicate ((n + 1) * (n + 1)) x.z)),own T64 x.z.1 (Us (dg o.num.natAbs)),own T64 x.z.2 (Us (dg o.den)),pt c8 [I 0,nS] TGr,pt c4 [I n,gv] TGr,vw tv (Is t),vwf gv ((n + 1) * (n + 1)) (rcs xs hs),vfr hs xs]) ?_ ?_
 rotate_left
 ·intro b' kb
  refine rs (fun w'=>w'.heap[c4]? = some (.cells [I n,gv].toArray TGr (0,0))) ?_ (fun w' hw=>pt_at memA hw)
  refine tka 0 ?_
  refine tkl 1 (cs:=[I n,gv]) (fun w' h=>h) ?_
  refine t2 2 4 ?_ ?_
  ·refine ca hW ?_
   rintro _ _ ⟨z1,z2,rfl,hz1,hz2,rfl⟩
   refine nl ?_
   refine te (fun w' hw=>pt_at memA hw) ?_
   refine t2 3 4 ?_ ?_
   ·refine ca (hM z1 z2 hz1 hz2) ?_
    rintro _ _ ⟨v,rfl,hv,rfl⟩
    refine nl ?_
    refine te (fun w' hw=>pt_at memA hw) ?_
    refine t1 4 ?_
    refine al fun c9=>?_
    refine nl ?_
    refine te (fun w' hw=>pt_at memA hw) ?_
    refine t1 5 ?_
    refine srz ?_
    refine nl ?_
    refine te (fun w' hw=>pt_at memA hw) ?_
    refine t0 ?_
    repeat' first|refine xc ?_
    exact kb ⟨v,(z1,z2),c9⟩ ⟨hv,hz1,hz2⟩ _ _ (by (repeat (refine Sub.cons rfl (by first | rfl | go_num) ?_));exact Sub.nil) fitA
   ·refine al fun c9=>?_
    refine nl ?_
    refine te (fun w' hw=>pt_at memA hw) ?_
    refine t1 3 ?_
    refine ca (hM z1 z2 hz1 hz2) ?_
    rintro _ _ ⟨v,rfl,hv,rfl⟩
    refine nl ?_
    refine te (fun w' hw=>pt_at memA hw) ?_
    refine t1 5 ?_
    refine srz ?_
    refine nl ?_
    refine te (fun w' hw=>pt_at memA hw) ?_
    refine t0 ?_
    repeat' first|refine xc ?_
    exact kb ⟨v,(z1,z2),c9⟩ ⟨hv,hz1,hz2⟩ _ _ (by (repeat (refine Sub.cons rfl (by first | rfl | go_num) ?_));exact Sub.nil) fitA
  ·refine al fun c9=>?_
   refine nl ?_
   refine te (fun w' hw=>pt_at memA hw) ?_
   refine t1 2 ?_
   refine ca hW ?_
   rintro _ _ ⟨z1,z2,rfl,hz1,hz2,rfl⟩
   refine nl ?_
   refine te (fun w' hw=>pt_at memA hw) ?_
   refine t1 3 ?_
   refine ca (hM z1 z2 hz1 hz2) ?_
   rintro _ _ ⟨v,rfl,hv,rfl⟩
   refine nl ?_
   refine te (fun w' hw=>pt_at memA hw) ?_
   refine t1 5 ?_
   refine srz ?_
   refine nl ?_
   refine te (fun w' hw=>pt_at memA hw) ?_
   refine t0 ?_
   repeat' first|refine xc ?_
   exact kb ⟨v,(z1,z2),c9⟩ ⟨hv,hz1,hz2⟩ _ _ (by (repeat (refine Sub.cons rfl (by first | rfl | go_num) ?_));exact Sub.nil) fitA
 rintro ⟨v,⟨z1,z2⟩,c9⟩ ⟨hv,hz1,hz2⟩
 dsimp only at hv hz1 hz2 ⊢
 clear hW hM
 repeat' first|(refine gca ?_;first|(refine ca hFree ?_;rintro _ _ ⟨f1,f2,rfl,hf1,hf2,rfl⟩)|(refine ca hPair ?_;rintro _ _ ⟨y1,y2,rfl,hy1,hy2,rfl⟩))|refine al fun c=>?_|refine srz ?_|(refine wo ?_;first|refine oa ?_)|refine sq ?_|refine rg ?_|refine xc ?_|refine nl ?_
 rename_i c10
 refine cutY (ι:=NxD) (fun x=>ShOk x.cf x.gf∧ShOk x.cg x.gg) (fun x=>[(4,ptr c4),(8,ptr c8),(9,ptr c9),(14,ptr x.c14),(15,ptr x.c15)]) (fun x=>[pt x.c14 [shV x.cf] TSh,pt x.c15 [shV x.cg] TSh,shB x.cf f (f1,f2) x.gf,shB x.cg g (y1,y2) x.gg,own T64 f1 (Us (dg f.num.natAbs)),own T64 f2 (Us (dg f.den)),own T64 y1 (Us (dg g.num.natAbs)),own T64 y2 (Us (dg g.den)),pt c9 [I n,v] TGr,oww TRt 3 v ((n + 1) * (n + 1)) (rcs (List.replicate ((n + 1) * (n + 1)) o) (List.replicate ((n + 1) * (n + 1)) (z1,z2))),own T64 z1 (Us (dg o.num.natAbs)),own T64 z2 (Us (dg o.den)),pt c8 [I 0,nS] TGr,pt c4 [I n,gv] TGr,vwf gv ((n + 1) * (n + 1)) (rcs xs hs),vfr hs xs]) ?_ ?_
 rotate_left
 ·intro b' kb
  refine rs (fun w'=>w'.heap[c10]? = some (.cells (rrow f (f1,f2)).toArray TRt (0,0))∧w'.heap[c]? = some (.cells (rrow g (y1,y2)).toArray TRt (0,0))) ?_ (fun w' hw=>⟨pt_at memA hw,pt_at memA hw⟩)
  refine tk 0 (v:=.agg (rrow f (f1,f2)).toArray) (fun w' h=>R_loadA (E:=env) (vs:=rrow f (f1,f2)) rfl rfl rfl rfl h.1 rfl rfl) ?_
  refine tk 2 (v:=.agg (rrow g (y1,y2)).toArray) (fun w' h=>R_loadA (E:=env) (vs:=rrow g (y1,y2)) rfl rfl rfl rfl h.2 rfl rfl) ?_
  refine t3 1 4 5 ?_ ?_ ?_
  ·refine ca (hSf f1 f2 hf1 hf2) ?_
   rintro _ _ ⟨cf,gf,rfl,hgf,rfl⟩
   refine nl ?_
   refine te (fun w' hw=>⟨pt_at memA hw,pt_at memA hw⟩) ?_
   refine t3 3 4 5 ?_ ?_ ?_
   ·refine ca (hSg y1 y2 hy1 hy2) ?_
    rintro _ _ ⟨cg,gg,rfl,hgg,rfl⟩
    refine nl ?_
    refine te (fun w' hw=>⟨pt_at memA hw,pt_at memA hw⟩) ?_
    refine t2 4 5 ?_ ?_
    ·refine al fun c14=>?_
     refine nl ?_
     refine te (fun w' hw=>⟨pt_at memA hw,pt_at memA hw⟩) ?_
     refine t1 5 ?_
     refine al fun c15=>?_
     refine nl ?_
     refine te (fun w' hw=>⟨pt_at memA hw,pt_at memA hw⟩) ?_
     refine t1 6 ?_
     refine sr ?_
     refine nl ?_
     refine te (fun w' hw=>⟨pt_at memA hw,pt_at memA hw⟩) ?_
     refine t1 7 ?_
     refine sr ?_
     refine nl ?_
     refine te (fun w' hw=>⟨pt_at memA hw,pt_at memA hw⟩) ?_
     refine t0 ?_
     repeat' first|refine xc ?_
     exact kb ⟨c14,c15,cf,cg,gf,gg⟩ ⟨hgf,hgg⟩ _ _ (by (repeat (refine Sub.cons rfl (by first | rfl | go_num) ?_));exact Sub.nil) fitA
    ·refine al fun c15=>?_
     refine nl ?_
     refine te (fun w' hw=>⟨pt_at memA hw,pt_at memA hw⟩) ?_
     refine t1 4 ?_
     refine al fun c14=>?_
     refine nl ?_
     refine te (fun w' hw=>⟨pt_at memA hw,pt_at memA hw⟩) ?_
     refine t1 6 ?_
     refine sr ?_
     refine nl ?_
     refine te (fun w' hw=>⟨pt_at memA hw,pt_at memA hw⟩) ?_
     refine t1 7 ?_
     refine sr ?_
     refine nl ?_
     refine te (fun w' hw=>⟨pt_at memA hw,pt_at memA hw⟩) ?_
     refine t0 ?_
     repeat' first|refine xc ?_
     exact kb ⟨c14,c15,cf,cg,gf,gg⟩ ⟨hgf,hgg⟩ _ _ (by (repeat (refine Sub.cons rfl (by first | rfl | go_num) ?_));exact Sub.nil) fitA
   ·refine al fun c14=>?_
    refine nl ?_
    refine te (fun w' hw=>⟨pt_at memA hw,pt_at memA hw⟩) ?_
    refine t2 3 5 ?_ ?_
    ·refine ca (hSg y1 y2 hy1 hy2) ?_
     rintro _ _ ⟨cg,gg,rfl,hgg,rfl⟩
     refine nl ?_
     refine te (fun w' hw=>⟨pt_at memA hw,pt_at memA hw⟩) ?_
     refine t1 5 ?_
     refine al fun c15=>?_
     refine nl ?_
     refine te (fun w' hw=>⟨pt_at memA hw,pt_at memA hw⟩) ?_
     refine t1 6 ?_
     refine sr ?_
     refine nl ?_
     refine te (fun w' hw=>⟨pt_at memA hw,pt_at memA hw⟩) ?_
     refine t1 7 ?_
     refine sr ?_
     refine nl ?_
     refine te (fun w' hw=>⟨pt_at memA hw,pt_at memA hw⟩) ?_
     refine t0 ?_
     repeat' first|refine xc ?_
     exact kb ⟨c14,c15,cf,cg,gf,gg⟩ ⟨hgf,hgg⟩ _ _ (by (repeat (refine Sub.cons rfl (by first | rfl | go_num) ?_));exact Sub.nil) fitA
    ·refine al fun c15=>?_
     refine nl ?_
     refine te (fun w' hw=>⟨pt_at memA hw,pt_at memA hw⟩) ?_
     refine t1 3 ?_
     refine ca (hSg y1 y2 hy1 hy2) ?_
     rintro _ _ ⟨cg,gg,rfl,hgg,rfl⟩
     refine nl ?_
     refine te (fun w' hw=>⟨pt_at memA hw,pt_at memA hw⟩) ?_
     refine t1 6 ?_
     refine sr ?_
     refine nl ?_
     refine te (fun w' hw=>⟨pt_at memA hw,pt_at memA hw⟩) ?_
     refine t1 7 ?_
     refine sr ?_
     refine nl ?_
     refine te (fun w' hw=>⟨pt_at memA hw,pt_at memA hw⟩) ?_
     refine t0 ?_
     repeat' first|refine xc ?_
     exact kb ⟨c14,c15,cf,cg,gf,gg⟩ ⟨hgf,hgg⟩ _ _ (by (repeat (refine Sub.cons rfl (by first | rfl | go_num) ?_));exact Sub.nil) fitA
   ·refine al fun c15=>?_
    refine nl ?_
    refine te (fun w' hw=>⟨pt_at memA hw,pt_at memA hw⟩) ?_
    refine t2 3 4 ?_ ?_
    ·refine ca (hSg y1 y2 hy1 hy2) ?_
     rintro _ _ ⟨cg,gg,rfl,hgg,rfl⟩
     refine nl ?_
     refine te (fun w' hw=>⟨pt_at memA hw,pt_at memA hw⟩) ?_
     refine t1 4 ?_
     refine al fun c14=>?_
     refine nl ?_
     refine te (fun w' hw=>⟨pt_at memA hw,pt_at memA hw⟩) ?_
     refine t1 6 ?_
     refine sr ?_
     refine nl ?_
     refine te (fun w' hw=>⟨pt_at memA hw,pt_at memA hw⟩) ?_
     refine t1 7 ?_
     refine sr ?_
     refine nl ?_
     refine te (fun w' hw=>⟨pt_at memA hw,pt_at memA hw⟩) ?_
     refine t0 ?_
     repeat' first|refine xc ?_
     exact kb ⟨c14,c15,cf,cg,gf,gg⟩ ⟨hgf,hgg⟩ _ _ (by (repeat (refine Sub.cons rfl (by first | rfl | go_num) ?_));exact Sub.nil) fitA
    ·refine al fun c14=>?_
     refine nl ?_
     refine te (fun w' hw=>⟨pt_at memA hw,pt_at memA hw⟩) ?_
     refine t1 3 ?_
     refine ca (hSg y1 y2 hy1 hy2) ?_
     rintro _ _ ⟨cg,gg,rfl,hgg,rfl⟩
     refine nl ?_
     refine te (fun w' hw=>⟨pt_at memA hw,pt_at memA hw⟩) ?_
     refine t1 6 ?_
     refine sr ?_
     refine nl ?_
     refine te (fun w' hw=>⟨pt_at memA hw,pt_at memA hw⟩) ?_
     refine t1 7 ?_
     refine sr ?_
     refine nl ?_
     refine te (fun w' hw=>⟨pt_at memA hw,pt_at memA hw⟩) ?_
     refine t0 ?_
     repeat' first|refine xc ?_
     exact kb ⟨c14,c15,cf,cg,gf,gg⟩ ⟨hgf,hgg⟩ _ _ (by (repeat (refine Sub.cons rfl (by first | rfl | go_num) ?_));exact Sub.nil) fitA
  ·refine al fun c14=>?_
   refine nl ?_
   refine te (fun w' hw=>⟨pt_at memA hw,pt_at memA hw⟩) ?_
   refine t2 1 5 ?_ ?_
   ·refine ca (hSf f1 f2 hf1 hf2) ?_
    rintro _ _ ⟨cf,gf,rfl,hgf,rfl⟩
    refine nl ?_
    refine te (fun w' hw=>⟨pt_at memA hw,pt_at memA hw⟩) ?_
    refine t2 3 5 ?_ ?_
    ·refine ca (hSg y1 y2 hy1 hy2) ?_
     rintro _ _ ⟨cg,gg,rfl,hgg,rfl⟩
     refine nl ?_
     refine te (fun w' hw=>⟨pt_at memA hw,pt_at memA hw⟩) ?_
     refine t1 5 ?_
     refine al fun c15=>?_
     refine nl ?_
     refine te (fun w' hw=>⟨pt_at memA hw,pt_at memA hw⟩) ?_
     refine t1 6 ?_
     refine sr ?_
     refine nl ?_
     refine te (fun w' hw=>⟨pt_at memA hw,pt_at memA hw⟩) ?_
     refine t1 7 ?_
     refine sr ?_
     refine nl ?_
     refine te (fun w' hw=>⟨pt_at memA hw,pt_at memA hw⟩) ?_
     refine t0 ?_
     repeat' first|refine xc ?_
     exact kb ⟨c14,c15,cf,cg,gf,gg⟩ ⟨hgf,hgg⟩ _ _ (by (repeat (refine Sub.cons rfl (by first | rfl | go_num) ?_));exact Sub.nil) fitA
    ·refine al fun c15=>?_
     refine nl ?_
     refine te (fun w' hw=>⟨pt_at memA hw,pt_at memA hw⟩) ?_
     refine t1 3 ?_
     refine ca (hSg y1 y2 hy1 hy2) ?_
     rintro _ _ ⟨cg,gg,rfl,hgg,rfl⟩
     refine nl ?_
     refine te (fun w' hw=>⟨pt_at memA hw,pt_at memA hw⟩) ?_
     refine t1 6 ?_
     refine sr ?_
     refine nl ?_
     refine te (fun w' hw=>⟨pt_at memA hw,pt_at memA hw⟩) ?_
     refine t1 7 ?_
     refine sr ?_
     refine nl ?_
     refine te (fun w' hw=>⟨pt_at memA hw,pt_at memA hw⟩) ?_
     refine t0 ?_
     repeat' first|refine xc ?_
     exact kb ⟨c14,c15,cf,cg,gf,gg⟩ ⟨hgf,hgg⟩ _ _ (by (repeat (refine Sub.cons rfl (by first | rfl | go_num) ?_));exact Sub.nil) fitA
   ·refine al fun c15=>?_
    refine nl ?_
    refine te (fun w' hw=>⟨pt_at memA hw,pt_at memA hw⟩) ?_
    refine t1 1 ?_
    refine ca (hSf f1 f2 hf1 hf2) ?_
    rintro _ _ ⟨cf,gf,rfl,hgf,rfl⟩
    refine nl ?_
    refine te (fun w' hw=>⟨pt_at memA hw,pt_at memA hw⟩) ?_
    refine t1 3 ?_
    refine ca (hSg y1 y2 hy1 hy2) ?_
    rintro _ _ ⟨cg,gg,rfl,hgg,rfl⟩
    refine nl ?_
    refine te (fun w' hw=>⟨pt_at memA hw,pt_at memA hw⟩) ?_
    refine t1 6 ?_
    refine sr ?_
    refine nl ?_
    refine te (fun w' hw=>⟨pt_at memA hw,pt_at memA hw⟩) ?_
    refine t1 7 ?_
    refine sr ?_
    refine nl ?_
    refine te (fun w' hw=>⟨pt_at memA hw,pt_at memA hw⟩) ?_
    refine t0 ?_
    repeat' first|refine xc ?_
    exact kb ⟨c14,c15,cf,cg,gf,gg⟩ ⟨hgf,hgg⟩ _ _ (by (repeat (refine Sub.cons rfl (by first | rfl | go_num) ?_));exact Sub.nil) fitA
  ·refine al fun c15=>?_
   refine nl ?_
   refine te (fun w' hw=>⟨pt_at memA hw,pt_at memA hw⟩) ?_
   refine t2 1 4 ?_ ?_
   ·refine ca (hSf f1 f2 hf1 hf2) ?_
    rintro _ _ ⟨cf,gf,rfl,hgf,rfl⟩
    refine nl ?_
    refine te (fun w' hw=>⟨pt_at memA hw,pt_at memA hw⟩) ?_
    refine t2 3 4 ?_ ?_
    ·refine ca (hSg y1 y2 hy1 hy2) ?_
     rintro _ _ ⟨cg,gg,rfl,hgg,rfl⟩
     refine nl ?_
     refine te (fun w' hw=>⟨pt_at memA hw,pt_at memA hw⟩) ?_
     refine t1 4 ?_
     refine al fun c14=>?_
     refine nl ?_
     refine te (fun w' hw=>⟨pt_at memA hw,pt_at memA hw⟩) ?_
     refine t1 6 ?_
     refine sr ?_
     refine nl ?_
     refine te (fun w' hw=>⟨pt_at memA hw,pt_at memA hw⟩) ?_
     refine t1 7 ?_
     refine sr ?_
     refine nl ?_
     refine te (fun w' hw=>⟨pt_at memA hw,pt_at memA hw⟩) ?_
     refine t0 ?_
     repeat' first|refine xc ?_
     exact kb ⟨c14,c15,cf,cg,gf,gg⟩ ⟨hgf,hgg⟩ _ _ (by (repeat (refine Sub.cons rfl (by first | rfl | go_num) ?_));exact Sub.nil) fitA
    ·refine al fun c14=>?_
     refine nl ?_
     refine te (fun w' hw=>⟨pt_at memA hw,pt_at memA hw⟩) ?_
     refine t1 3 ?_
     refine ca (hSg y1 y2 hy1 hy2) ?_
     rintro _ _ ⟨cg,gg,rfl,hgg,rfl⟩
     refine nl ?_
     refine te (fun w' hw=>⟨pt_at memA hw,pt_at memA hw⟩) ?_
     refine t1 6 ?_
     refine sr ?_
     refine nl ?_
     refine te (fun w' hw=>⟨pt_at memA hw,pt_at memA hw⟩) ?_
     refine t1 7 ?_
     refine sr ?_
     refine nl ?_
     refine te (fun w' hw=>⟨pt_at memA hw,pt_at memA hw⟩) ?_
     refine t0 ?_
     repeat' first|refine xc ?_
     exact kb ⟨c14,c15,cf,cg,gf,gg⟩ ⟨hgf,hgg⟩ _ _ (by (repeat (refine Sub.cons rfl (by first | rfl | go_num) ?_));exact Sub.nil) fitA
   ·refine al fun c14=>?_
    refine nl ?_
    refine te (fun w' hw=>⟨pt_at memA hw,pt_at memA hw⟩) ?_
    refine t1 1 ?_
    refine ca (hSf f1 f2 hf1 hf2) ?_
    rintro _ _ ⟨cf,gf,rfl,hgf,rfl⟩
    refine nl ?_
    refine te (fun w' hw=>⟨pt_at memA hw,pt_at memA hw⟩) ?_
    refine t1 3 ?_
    refine ca (hSg y1 y2 hy1 hy2) ?_
    rintro _ _ ⟨cg,gg,rfl,hgg,rfl⟩
    refine nl ?_
    refine te (fun w' hw=>⟨pt_at memA hw,pt_at memA hw⟩) ?_
    refine t1 6 ?_
    refine sr ?_
    refine nl ?_
    refine te (fun w' hw=>⟨pt_at memA hw,pt_at memA hw⟩) ?_
    refine t1 7 ?_
    refine sr ?_
    refine nl ?_
    refine te (fun w' hw=>⟨pt_at memA hw,pt_at memA hw⟩) ?_
    refine t0 ?_
    repeat' first|refine xc ?_
    exact kb ⟨c14,c15,cf,cg,gf,gg⟩ ⟨hgf,hgg⟩ _ _ (by (repeat (refine Sub.cons rfl (by first | rfl | go_num) ?_));exact Sub.nil) fitA
 rintro ⟨c14,c15,cf,cg,gf,gg⟩ ⟨hgf,hgg⟩
 dsimp only at hgf hgg ⊢
 clear hSf hSg hFree hPair
 repeat' first|(refine gca ?_;first|(refine ca hPl ?_;rintro _ _ ⟨bp,rfl,rfl⟩))|refine lda (cs:=[I n,gv]) ?_|refine sq ?_|refine rg ?_|refine xc ?_|refine nl ?_|refine bk ?_
 subst ho
 refine TC.im (gow_none _ ((n + 1) * (n + 1)) (List.replicate ((n + 1) * (n + 1)) 0)) ?_
 rw [← outN_zero n f g xs,← hsE_none (z1,z2)]
 have hrun:=@SeqP.run _ _ _ _ _ _ _ (places1_seq bp n gv xs hs hlen hql hn hone)
 clear hPl
 refine TC.range [lbd [lpt c14 [shV cf] TSh,lpt c15 [shV cg] TSh,vw f1 (Us (dg f.num.natAbs)),vw f2 (Us (dg f.den)),vw y1 (Us (dg g.num.natAbs)),vw y2 (Us (dg g.den)),lpt c9 [I n,v] TGr,vw z1 (Us (dg (0:Rat).num.natAbs)),vw z2 (Us (dg (0:Rat).den)),vfr hs xs],lbd [lpt bp [I n,gv] TGr,vwf gv ((n + 1) * (n + 1)) (rcs xs hs)]] [oww TRt 3 v ((n + 1) * (n + 1)) (rcs (outN n f g xs 0) (hsE (z1,z2) (List.replicate ((n + 1) * (n + 1)) none))),gow (List.replicate ((n + 1) * (n + 1)) none) (outN n f g xs 0),shB cf f (f1,f2) gf,shB cg g (y1,y2) gg] (fun l2 rec Dm pend B'=>∃ s:NxS,B' = [dfr Dm,oww TRt 3 v ((n + 1) * (n + 1)) (rcs (outN n f g xs ((n + 1) * (n + 1))) (hsE (z1,z2) s.es)),gow s.es (outN n f g xs ((n + 1) * (n + 1))),shB cf f (f1,f2) s.gf,shB cg g (y1,y2) s.gg]∧pend = none∧Grd n s.es (outN n f g xs ((n + 1) * (n + 1)))) ?_ ?_ (hp:=has1 (lbd_of (by repeat (first | exact has0 | refine has1 hasA ?_))) (has1 (lbd_of (has1 hasA (has1 hasA has0))) has0))
 ·intro rec l2 Dm hr
  refine Tr.unb (hrun (α:=NxS) (lbd [lpt c14 [shV cf] TSh,lpt c15 [shV cg] TSh,vw f1 (Us (dg f.num.natAbs)),vw f2 (Us (dg f.den)),vw y1 (Us (dg g.num.natAbs)),vw y2 (Us (dg g.den)),lpt c9 [I n,v] TGr,vw z1 (Us (dg (0:Rat).num.natAbs)),vw z2 (Us (dg (0:Rat).den)),vfr hs xs]) l2 (fun s=>bnd [lrc l2 rec .ready none,dfr Dm,oww TRt 3 v ((n + 1) * (n + 1)) (rcs (outN n f g xs s.i) (hsE (z1,z2) s.es)),gow s.es (outN n f g xs s.i),shB cf f (f1,f2) s.gf,shB cg g (y1,y2) s.gg]) (fun s i=>s.i = i∧Grd n s.es (outN n f g xs i)∧ShOk cf s.gf∧ShOk cg s.gg) (fun _=>False) ⟨0,List.replicate ((n + 1) * (n + 1)) none,gf,gg⟩ ⟨rfl,Grd.none n,hgf,hgg⟩ (fun p=>bnd_nob (by repeat (first | exact nb0 | refine nb1 ?_))) ?_) ?_
  ·rintro ⟨i,es,gf,gg⟩ j ⟨hji,hgr,hgf,hgg⟩ hj
   dsimp only at hji hgr hgf hgg
   subst hji
   refine Ty.bnd ?_
   refine Ty.pre (pre:=[lpt c14 [shV cf] TSh,lpt c15 [shV cg] TSh,vw f1 (Us (dg f.num.natAbs)),vw f2 (Us (dg f.den)),vw y1 (Us (dg g.num.natAbs)),vw y2 (Us (dg g.den)),lpt c9 [I n,v] TGr,vw z1 (Us (dg (0:Rat).num.natAbs)),vw z2 (Us (dg (0:Rat).den)),vfr hs xs]) ?_ (has_lbds (C:=[lpt c14 [shV cf] TSh,lpt c15 [shV cg] TSh,vw f1 (Us (dg f.num.natAbs)),vw f2 (Us (dg f.den)),vw y1 (Us (dg g.num.natAbs)),vw y2 (Us (dg g.den)),lpt c9 [I n,v] TGr,vw z1 (Us (dg (0:Rat).num.natAbs)),vw z2 (Us (dg (0:Rat).den)),vfr hs xs]) (List.Mem.head _) _ (by repeat (first | exact has00 | refine has01 ?_)) fun c hc=>hc) (by repeat (first | exact has00 | refine has01 ?_))
   refine Ty.intro env hr (by repeat (first | exact has00 | refine has01 ?_)) fun w1=>?_
   have hF1:=(hyF i hj)
   have hgot:=fun (F:List Ch) (h:vfr hs xs ∈ F)=>has_fr (has_mem h) hlen (i:=i) (by rw [hql];exact hj)
   have hskip:=fun h=>outN_skip (n:=n) (f:=f) (g:=g) (x:=xs) (i:=i) h
   have hstep:=fun h=>outN_step (n:=n) (f:=f) (g:=g) (x:=xs) (i:=i) h
   have hSF:=fun h a ha=>hsF i a hj h ha
   have hXF:∀ a b,¬ (i % (n + 1) = 0∨xs.getD i 0 = 0)→a ≤ i / (n + 1)→¬ shar f (i / (n + 1)) a = 0→b < i % (n + 1)→(FB (shar g (i % (n + 1) - 1) b) B∧FB (xs.getD i 0 * shar f (i / (n + 1)) a) B∧FB (xs.getD i 0 * shar f (i / (n + 1)) a * shar g (i % (n + 1) - 1) b) B)∧∀ j,j < (n + 1) * (n + 1)→FB ((outB n f g (xs.getD i 0) (i / (n + 1)) (i % (n + 1)) a (outA n f g (xs.getD i 0) (i / (n + 1)) (i % (n + 1)) (outN n f g xs i) a) b).getD j 0) B:=fun a b h1 h2 h3 h4=>by
    have h:=hnx i a b hj h1 h2 h3 h4
    exact ⟨⟨h.sg,h.ys,h.p⟩,h.o⟩
   have hx1:(hs.getD i nS2).1.oneCell' = true∧(hs.getD i nS2).2.oneCell' = true:=hone i (by rw [hql];exact hj)
   clear hyF hsF hnx hrun hone
   generalize i / (n + 1) = c at *
   generalize i % (n + 1) = r at *
   generalize xs.getD i 0 = y at *
   generalize hs.getD i nS2 = hx at *
   obtain ⟨x1,x2⟩:=hx
   dsimp only at hx1 hgot
   obtain ⟨hx1,hx2⟩:=hx1
   have hSome:=some_tr y x1 x2 hx1 (by have:=hF1.1;omega)
   repeat' first|refine al fun c17=>?_|refine srz ?_ (hj:=Nat.le_of_ble_eq_true rfl)|refine xbeg ?_|refine sq ?_|refine rg ?_|refine xc ?_|refine nl ?_|refine bk ?_
   rename_i c16
   refine rs (fun w'=>w'.heap[c16]? = some (.cells [I c,I r].toArray TPl (0,0))) ?_ (fun w' hw=>pt_at memA hw)
   refine kr 0 (v:=.pointer (some ⟨c16,0,none⟩)) (fun w' h=>R_ixa (E:=env) (m:=2) (i:=0) rfl rfl rfl rfl (by decide)) ?_
   refine krl 1 (cs:=[I c,I r]) (fun w' h=>h) ?_
   refine kr 2 (v:=.pointer (some ⟨c16,1,none⟩)) (fun w' h=>R_ixa (E:=env) (m:=2) (i:=1) rfl rfl rfl rfl (by decide)) ?_
   refine krl 3 (cs:=[I c,I r]) (fun w' h=>h) ?_
   refine kra 4 ?_
   refine kra 5 ?_
   refine t0 ?_
   refine id ?_
   by_cases hr0:r = 0
   ·rw [← hskip (.inl hr0)] at hgr ⊢
    repeat' first|(refine wo ?_;first|(refine ao ?_;first|refine oa ?_)|refine oa ?_|refine gn ?_|(refine gsi (fun hB=>?_) (fun hB=>?_) <;> try (exfalso;omega)))|(refine gc ?_;first|refine ct ?_)|refine sq ?_|refine rg ?_|refine xc ?_|refine nl ?_|refine xe ?_
    exact yn ⟨⟨i + 1,es,gf,gg⟩,rfl,.inl ⟨rfl,rfl,hgr,hgf,hgg⟩⟩
   by_cases hy0:y = 0
   ·rw [← hskip (.inr hy0)] at hgr ⊢
    rw [show decide (y ≠ 0) = false from decide_eq_false fun h=>h hy0] at hSome
    repeat' first|(refine gca ?_;first|(refine ca hSome ?_ (hp:=has1 (hgot _ memA).1 has0);rintro _ _ ⟨rfl,rfl⟩))|refine lda (cs:=rrow y (x1,x2)) ?_|(refine wo ?_;first|(refine ao ?_;first|refine oa ?_)|refine oa ?_|refine gy ?_|(refine gsi (fun hB=>?_) (fun hB=>?_) <;> try (exfalso;omega)))|(refine gc ?_;first|refine ct ?_)|refine sq ?_|refine rg ?_|refine xc ?_|refine nl ?_|refine xe ?_
    exact yn ⟨⟨i + 1,es,gf,gg⟩,rfl,.inl ⟨rfl,rfl,hgr,hgf,hgg⟩⟩
   have hne:¬ (r = 0∨y = 0):=by rintro (h | h);exact hr0 h;exact hy0 h
   rw [show decide (y ≠ 0) = true from decide_eq_true hy0] at hSome
   have hst:=hstep hne
   have hSF:=hSF hne
   have hXF:=fun a b=>hXF a b hne
   have hcr:c + r ≤ n:=(hSF 0 (Nat.zero_le _)).1
   clear hskip hstep
   generalize outN n f g xs i = F0 at *
   repeat' first|(refine gca ?_;first|(refine ca hSome ?_ (hp:=has1 (hgot _ memA).1 has0);rintro _ _ ⟨rfl,rfl⟩))|refine lda (cs:=rrow y (x1,x2)) ?_|(refine wo ?_;first|(refine ao ?_;first|refine aw ?_|refine oa ?_)|refine oa ?_|refine gy ?_|(refine gsi (fun hB=>?_) (fun hB=>?_) <;> try (exfalso;omega)))|(refine gc ?_;first|(refine cb (fun hB=>?_) (fun hB=>?_) <;> try (exfalso;omega)))|refine sq ?_|refine rg ?_|refine xc ?_|refine nl ?_|refine sk ?_|refine bk ?_|refine xe ?_
   ·exact absurd hB (by decide)
   refine TC.loop (ι:=NxS) (fun g'=>[(63,I g'.i)]) (fun g'=>[oww TRt 3 v ((n + 1) * (n + 1)) (rcs (outA n f g y c r F0 g'.i) (hsE (z1,z2) g'.es)),gow g'.es (outA n f g y c r F0 g'.i),shB cf f (f1,f2) g'.gf,shB cg g (y1,y2) g'.gg]) (fun g'=>g'.i ≤ c + 1∧Grd n g'.es (outA n f g y c r F0 g'.i)∧ShOk cf g'.gf∧ShOk cg g'.gg) (fun g'=>c + 1 - g'.i) ⟨0,es,gf,gg⟩ [9,14,15,17,18,19,62] ⟨Nat.zero_le _,hgr,hgf,hgg⟩ ?_ (hf:=by dsimp only;rw [outA_zero];exact fitA)
   clear hgr hgf hgg
   rintro ⟨a,es,gf,gg⟩ ⟨ha,hgr,hgf,hgg⟩
   dsimp only at ha hgr hgf hgg ⊢
   by_cases hac:a < c + 1
   rotate_left
   ·obtain rfl:a = c + 1:=by omega
    rw [← hst] at hgr ⊢
    repeat' first|(refine wo ?_;first|(refine ao ?_;first|refine oa ?_))|(refine gc ?_;first|(refine ci (fun hB=>?_) (fun hB=>?_) <;> try (exfalso;omega)))|refine sq ?_|refine rg ?_|refine xc ?_|refine nl ?_|refine xe ?_|refine xb ?_
    exact yn ⟨⟨i + 1,es,gf,gg⟩,rfl,.inl ⟨rfl,rfl,hgr,hgf,hgg⟩⟩
   have hShf:=share_tr cf f (f1,f2) gf hf1 hf2 hgf hpf c a (by omega) (by omega)
   have hSF1:=(hSF a (by omega)).2
   have hSm2:=fun s1 s2 hs1=>some_tr (shar f c a) s1 s2 hs1 (by have:=hSF1.1;omega)
   have hskA:=fun h=>outA_skip (n:=n) (f:=f) (g:=g) (y:=y) (c:=c) (r:=r) (l:=F0) (a:=a) h
   have hstA:=fun h=>outA_step (n:=n) (f:=f) (g:=g) (y:=y) (c:=c) (r:=r) (l:=F0) (a:=a) h
   have hXF:=fun b h1 h2=>hXF a b (by omega) h1 h2
   clear hSF hst
   obtain ⟨q,hq⟩ : ∃ q,q = shar f c a:=⟨_,rfl⟩
   simp only [← hq] at hShf hSF1 hSm2 hskA hstA hXF
   by_cases hq0:q = 0
   ·rw [show decide (q ≠ 0) = false from decide_eq_false fun h=>h hq0] at hSm2
    rw [← hskA hq0] at hgr ⊢
    repeat' first|(refine gca ?_;first|(refine ca (hSm2 s1 s2 hs1) ?_;rintro _ _ ⟨rfl,rfl⟩))|(refine cav (cap:=#[ptr cf.bq,ptr cf.bp,ptr cf.bl]) (vs:=[I c,I a]) hShf ?_;rintro _ _ ⟨gf',s1,s2,rfl,hs1,hs2,hgf',rfl⟩)|refine al fun c21=>?_|refine srz ?_|refine lda (vs:=rrow q (s1,s2)) ?_|(refine wo ?_;first|(refine ao ?_;first|refine aw ?_|refine oa ?_)|refine oa ?_|refine ldl ?_)|(refine gc ?_;first|refine ct ?_|(refine ci (fun hB=>?_) (fun hB=>?_) <;> try (exfalso;omega)))|refine sq ?_|refine rg ?_|refine xc ?_|refine nl ?_|refine sk ?_|refine bk ?_|refine xe ?_
    exact lp ⟨a + 1,es,gf',gg⟩ ⟨hac,hgr,hgf',hgg⟩
   rw [show decide (q ≠ 0) = true from decide_eq_true hq0] at hSm2
   have hstA:=hstA hq0
   have hXF:=fun b h2=>hXF b hq0 h2
   clear hskA
   generalize outA n f g y c r F0 a = F1 at *
   repeat' first|(refine gca ?_;first|(refine ca (hSm2 s1 s2 hs1) ?_;rintro _ _ ⟨rfl,rfl⟩))|(refine cav (cap:=#[ptr cf.bq,ptr cf.bp,ptr cf.bl]) (vs:=[I c,I a]) hShf ?_;rintro _ _ ⟨gf',s1,s2,rfl,hs1,hs2,hgf',rfl⟩)|refine al fun c21=>?_|refine srz ?_|refine lda (vs:=rrow q (s1,s2)) ?_|(refine wo ?_;first|(refine ao ?_;first|refine aw ?_|refine oa ?_)|refine oa ?_|refine ldl ?_)|(refine gc ?_;first|(refine ci (fun hB=>?_) (fun hB=>?_) <;> try (exfalso;omega))|(refine cb (fun hB=>?_) (fun hB=>?_) <;> try (exfalso;omega)))|refine sq ?_|refine rg ?_|refine xc ?_|refine nl ?_|refine sk ?_|refine bk ?_|refine xe ?_
   ·exact absurd hB (by decide)
   refine TC.loop (ι:=NxB) (fun g'=>[(74,I g'.b)]) (fun g'=>[oww TRt 3 v ((n + 1) * (n + 1)) (rcs (outB n f g y c r a F1 g'.b) (hsE (z1,z2) g'.es)),gow g'.es (outB n f g y c r a F1 g'.b),shB cg g (y1,y2) g'.gg]) (fun g'=>g'.b ≤ r∧Grd n g'.es (outB n f g y c r a F1 g'.b)∧ShOk cg g'.gg) (fun g'=>r - g'.b) ⟨0,es,gg⟩ [9,14,15,17,18,19,20,21,62,63,73] ⟨Nat.zero_le _,hgr,hgg⟩ ?_ (hf:=by dsimp only;rw [outB_zero];exact fitA)
   clear hgr hgg
   rintro ⟨b,es,gg⟩ ⟨hb,hgr,hgg⟩
   dsimp only at hb hgr hgg ⊢
   by_cases hbr:b < r
   rotate_left
   ·obtain rfl:b = r:=by omega
    rw [← hstA] at hgr ⊢
    repeat' first|(refine wo ?_;first|(refine ao ?_;first|refine aw ?_|refine oa ?_)|refine oa ?_)|(refine gc ?_;first|(refine ci (fun hB=>?_) (fun hB=>?_) <;> try (exfalso;omega)))|refine sq ?_|refine rg ?_|refine xc ?_|refine nl ?_|refine xe ?_|refine xb ?_
    exact lp ⟨a + 1,es,gf',gg⟩ ⟨hac,hgr,hgf',hgg⟩
   have hShg:=share_tr cg g (y1,y2) gg hy1 hy2 hgg hpg (r - 1) b (by omega) (by omega)
   obtain ⟨⟨hG1,hG2,hG3⟩,hG4⟩:=hXF b hbr
   have hrJ:=place_lt (n:=n) (q:=c - a) (r:=r - 1 - b + a) (by omega) (by omega)
   have hG4:=(hG4 _ hrJ).le hB0
   have hAt:=fun xs'=>gat_tr n v xs' (c - a) (r - 1 - b + a) hv hn (by omega) (by omega)
   have hstB:=outB_step n f g y c r a F1 b
   rw [← hq] at hstB
   clear hstA hXF
   obtain ⟨q2,hq2⟩ : ∃ q2,q2 = shar g (r - 1) b:=⟨_,rfl⟩
   rw [← hq2] at hShg hG1 hG3 hstB
   have hMul:=fun lv v1 v2 v3 v4 v5 v6=>FMul3_tr y q q2 lv v1 v2 v3 v4 v5 v6 hF1 (hSF1.le hB0) (hG1.le hB0) (hG2.le hB0)
   obtain ⟨pr,hpr⟩ : ∃ pr,pr = y * q * q2:=⟨_,rfl⟩
   rw [← hpr] at hMul hG3 hstB
   obtain ⟨J,hJ⟩ : ∃ J,J = (c - a) * (n + 1) + (r - 1 - b + a):=⟨_,rfl⟩
   simp only [← hJ] at hrJ hG4 hAt hstB
   unfold FQ2 at hMul
   have hrow:=rcs_row (hs:=hsE (z1,z2) es) (qs:=outB n f g y c r a F1 b) (by rw [hsE_len,hgr.el,hgr.ql]) (i:=J) (by rw [hgr.ql];exact hrJ)
   have hgo:=fun (F:List Ch) (h1:gow es (outB n f g y c r a F1 b) ∈ F) (h2:Has F (vw z1 (Us (dg (0:Rat).num.natAbs)))) (h3:Has F (vw z2 (Us (dg (0:Rat).den))))=>has_gow (z:=(z1,z2)) hgr h1 h2 h3 hrJ
   have hset:=fun q' p'=>rcs_setE (z:=(z1,z2)) hgr hrJ q' p'
   have hgset:=fun q' p'=>hgr.set hrJ q' p'
   have hel:=hgr.el
   have hqlB:=hgr.ql
   obtain ⟨FB0,hFB0⟩ : ∃ F',F' = outB n f g y c r a F1 b:=⟨_,rfl⟩
   rw [← hFB0] at hgr hG4 hstB hrow hqlB ⊢
   simp only [← hFB0] at hgo hset hgset
   unfold addAt at hstB
   obtain ⟨qJ,hqJ⟩ : ∃ q',q' = FB0.getD J 0:=⟨_,rfl⟩
   rw [← hqJ] at hG4 hstB hrow
   simp only [← hqJ] at hgo
   obtain ⟨eJ,heJ⟩ : ∃ e,e = (hsE (z1,z2) es).getD J nS2:=⟨_,rfl⟩
   rw [← heJ] at hrow
   simp only [← heJ] at hgo
   have hAdd:=fun lv m1 m2=>FAdd2_tr qJ pr lv eJ.1 eJ.2 m1 m2 hG4 (hG3.le hB0)
   obtain ⟨qS,hqS⟩ : ∃ q',q' = qJ + pr:=⟨_,rfl⟩
   rw [← hqS] at hstB
   simp only [← hqS] at hAdd
   unfold FQ2 at hAdd
   have hca:(c:Int) - a = ((c - a:Nat):Int):=by omega
   have hto:(r:Int) - 1 - b + a = ((r - 1 - b + a:Nat):Int):=by omega
   have hr1:(r:Int) - 1 = ((r - 1:Nat):Int):=by omega
   repeat' first|(refine wo ?_;first|(refine ao ?_;first|refine oa ?_)|refine oa ?_)|(refine gc ?_;first|(refine ci (fun hB=>?_) (fun hB=>?_) <;> try (exfalso;omega)))|refine sq ?_|refine rg ?_|refine xc ?_|refine nl ?_|refine sk ?_|refine bk ?_
   refine cutY (ι:=NxM) (fun x=>x.m1.oneCell' = true∧x.m2.oneCell' = true∧ShOk cg x.gg) (fun x=>[(9,ptr c9),(14,ptr c14),(15,ptr c15),(17,ptr c17),(18,I c),(19,I r),(20,I a),(21,ptr c21),(22,I b),(23,ptr x.c23),(62,I ((c:Int) + 1)),(63,I a),(73,I r),(74,I b)]) (fun x=>[pt x.c23 (rrow pr (x.m1,x.m2)) TRt,own T64 x.m1 (Us (dg pr.num.natAbs)),own T64 x.m2 (Us (dg pr.den)),shB cg g (y1,y2) x.gg,oww TRt 3 v ((n + 1) * (n + 1)) (rcs FB0 (hsE (z1,z2) es)),gow es FB0,shB cf f (f1,f2) gf',own T64 s1 (Us (dg q.num.natAbs)),own T64 s2 (Us (dg q.den)),pt c21 (rrow q (s1,s2)) TRt,pt c17 (rrow y (x1,x2)) TRt,pt c16 [I c,I r] TPl,lrc l2 rec .busy none,dfr Dm,lpt c14 [shV cf] TSh,lpt c15 [shV cg] TSh,vw f1 (Us (dg f.num.natAbs)),vw f2 (Us (dg f.den)),vw y1 (Us (dg g.num.natAbs)),vw y2 (Us (dg g.den)),lpt c9 [I n,v] TGr,vw z1 (Us (dg (0:Rat).num.natAbs)),vw z2 (Us (dg (0:Rat).den)),vfr hs xs]) ?_ ?_
   rotate_left
   ·intro b' kb
    refine rs (fun w'=>w'.heap[c17]? = some (.cells (rrow y (x1,x2)).toArray TRt (0,0))∧w'.heap[c21]? = some (.cells (rrow q (s1,s2)).toArray TRt (0,0))∧w'.heap[c15]? = some (.cells [shV cg].toArray TSh (0,0))) ?_ (fun w' hw=>⟨pt_at memA hw,pt_at memA hw,lpt_at memA hw⟩)
    refine kr 0 (v:=.agg (rrow y (x1,x2)).toArray) (fun w' h=>R_loadA (E:=env) (vs:=rrow y (x1,x2)) rfl rfl rfl rfl h.1 rfl rfl) ?_
    refine kr 1 (v:=.agg (rrow q (s1,s2)).toArray) (fun w' h=>R_loadA (E:=env) (vs:=rrow q (s1,s2)) rfl rfl rfl rfl h.2.1 rfl rfl) ?_
    refine krl 2 (cs:=[shV cg]) (fun w' h=>h.2.2) ?_
    refine kra 3 ?_
    refine krw 4 ((r - 1:Nat):Int) ?_
    refine kra 5 ?_
    refine t2 6 12 ?_ ?_
    ·refine cav (cap:=#[ptr cg.bq,ptr cg.bp,ptr cg.bl]) (vs:=[I ((r - 1:Nat):Int),I b]) hShg ?_
     rintro _ _ ⟨gg',k1,k2,rfl,hk1,hk2,hgg',rfl⟩
     refine nl ?_
     refine te (fun w' hw=>⟨pt_at memA hw,pt_at memA hw,lpt_at memA hw⟩) ?_
     refine t2 7 12 ?_ ?_
     ·refine slws (sz:=3) (xs:=rrow y (x1,x2) ++ rrow q (s1,s2) ++ rrow q2 (k1,k2)) fun g2=>?_
      refine nl ?_
      refine te (fun w' hw=>⟨pt_at memA hw,pt_at memA hw,lpt_at memA hw⟩) ?_
      refine t2 8 12 ?_ ?_
      ·refine ca (hMul _ x1 x2 s1 s2 k1 k2) ?_ (hp:=has1 (has_oww memA) (has1 (hgot _ memA).1 (has1 (hgot _ memA).2 (has1 hasA (has1 hasA (has1 hasA (has1 hasA has0)))))))
       rintro _ _ ⟨m1,m2,rfl,hm1,hm2,rfl⟩
       refine nl ?_
       refine te (fun w' hw=>⟨pt_at memA hw,pt_at memA hw,lpt_at memA hw⟩) ?_
       refine kra 9 ?_
       refine kra 10 ?_
       refine kra 11 ?_
       refine t1 12 ?_
       refine al fun c23=>?_
       refine nl ?_
       refine te (fun w' hw=>⟨pt_at memA hw,pt_at memA hw,lpt_at memA hw⟩) ?_
       refine t1 13 ?_
       refine srz ?_
       refine nl ?_
       refine te (fun w' hw=>⟨pt_at memA hw,pt_at memA hw,lpt_at memA hw⟩) ?_
       refine kra 14 ?_
       refine t0 ?_
       repeat' first|refine xc ?_
       exact kb ⟨c23,m1,m2,gg'⟩ ⟨hm1,hm2,hgg'⟩ _ _ (by (repeat (refine Sub.cons rfl (by first | rfl | go_num) ?_));exact Sub.nil) fitA
      ·refine al fun c23=>?_
       refine nl ?_
       refine te (fun w' hw=>⟨pt_at memA hw,pt_at memA hw,lpt_at memA hw⟩) ?_
       refine t1 8 ?_
       refine ca (hMul _ x1 x2 s1 s2 k1 k2) ?_ (hp:=has1 (has_oww memA) (has1 (hgot _ memA).1 (has1 (hgot _ memA).2 (has1 hasA (has1 hasA (has1 hasA (has1 hasA has0)))))))
       rintro _ _ ⟨m1,m2,rfl,hm1,hm2,rfl⟩
       refine nl ?_
       refine te (fun w' hw=>⟨pt_at memA hw,pt_at memA hw,lpt_at memA hw⟩) ?_
       refine kra 9 ?_
       refine kra 10 ?_
       refine kra 11 ?_
       refine t1 13 ?_
       refine srz ?_
       refine nl ?_
       refine te (fun w' hw=>⟨pt_at memA hw,pt_at memA hw,lpt_at memA hw⟩) ?_
       refine kra 14 ?_
       refine t0 ?_
       repeat' first|refine xc ?_
       exact kb ⟨c23,m1,m2,gg'⟩ ⟨hm1,hm2,hgg'⟩ _ _ (by (repeat (refine Sub.cons rfl (by first | rfl | go_num) ?_));exact Sub.nil) fitA
     ·refine al fun c23=>?_
      refine nl ?_
      refine te (fun w' hw=>⟨pt_at memA hw,pt_at memA hw,lpt_at memA hw⟩) ?_
      refine t1 7 ?_
      refine slws (sz:=3) (xs:=rrow y (x1,x2) ++ rrow q (s1,s2) ++ rrow q2 (k1,k2)) fun g2=>?_
      refine nl ?_
      refine te (fun w' hw=>⟨pt_at memA hw,pt_at memA hw,lpt_at memA hw⟩) ?_
      refine t1 8 ?_
      refine ca (hMul _ x1 x2 s1 s2 k1 k2) ?_ (hp:=has1 (has_oww memA) (has1 (hgot _ memA).1 (has1 (hgot _ memA).2 (has1 hasA (has1 hasA (has1 hasA (has1 hasA has0)))))))
      rintro _ _ ⟨m1,m2,rfl,hm1,hm2,rfl⟩
      refine nl ?_
      refine te (fun w' hw=>⟨pt_at memA hw,pt_at memA hw,lpt_at memA hw⟩) ?_
      refine kra 9 ?_
      refine kra 10 ?_
      refine kra 11 ?_
      refine t1 13 ?_
      refine srz ?_
      refine nl ?_
      refine te (fun w' hw=>⟨pt_at memA hw,pt_at memA hw,lpt_at memA hw⟩) ?_
      refine kra 14 ?_
      refine t0 ?_
      repeat' first|refine xc ?_
      exact kb ⟨c23,m1,m2,gg'⟩ ⟨hm1,hm2,hgg'⟩ _ _ (by (repeat (refine Sub.cons rfl (by first | rfl | go_num) ?_));exact Sub.nil) fitA
    ·refine al fun c23=>?_
     refine nl ?_
     refine te (fun w' hw=>⟨pt_at memA hw,pt_at memA hw,lpt_at memA hw⟩) ?_
     refine t1 6 ?_
     refine cav (cap:=#[ptr cg.bq,ptr cg.bp,ptr cg.bl]) (vs:=[I ((r - 1:Nat):Int),I b]) hShg ?_
     rintro _ _ ⟨gg',k1,k2,rfl,hk1,hk2,hgg',rfl⟩
     refine nl ?_
     refine te (fun w' hw=>⟨pt_at memA hw,pt_at memA hw,lpt_at memA hw⟩) ?_
     refine t1 7 ?_
     refine slws (sz:=3) (xs:=rrow y (x1,x2) ++ rrow q (s1,s2) ++ rrow q2 (k1,k2)) fun g2=>?_
     refine nl ?_
     refine te (fun w' hw=>⟨pt_at memA hw,pt_at memA hw,lpt_at memA hw⟩) ?_
     refine t1 8 ?_
     refine ca (hMul _ x1 x2 s1 s2 k1 k2) ?_ (hp:=has1 (has_oww memA) (has1 (hgot _ memA).1 (has1 (hgot _ memA).2 (has1 hasA (has1 hasA (has1 hasA (has1 hasA has0)))))))
     rintro _ _ ⟨m1,m2,rfl,hm1,hm2,rfl⟩
     refine nl ?_
     refine te (fun w' hw=>⟨pt_at memA hw,pt_at memA hw,lpt_at memA hw⟩) ?_
     refine kra 9 ?_
     refine kra 10 ?_
     refine kra 11 ?_
     refine t1 13 ?_
     refine srz ?_
     refine nl ?_
     refine te (fun w' hw=>⟨pt_at memA hw,pt_at memA hw,lpt_at memA hw⟩) ?_
     refine kra 14 ?_
     refine t0 ?_
     repeat' first|refine xc ?_
     exact kb ⟨c23,m1,m2,gg'⟩ ⟨hm1,hm2,hgg'⟩ _ _ (by (repeat (refine Sub.cons rfl (by first | rfl | go_num) ?_));exact Sub.nil) fitA
   clear hMul hShg hgot
   rintro ⟨c23,m1,m2,gg'⟩ ⟨hm1,hm2,hgg'⟩
   dsimp only at hm1 hm2 hgg' ⊢
   obtain ⟨e1',e2'⟩:=eJ
   dsimp only at hAdd hgo hrow
   repeat' first|(refine gca ?_;first|(refine ca (hAt _) ?_ (hp:=has1 (has_oww memA) has0);rintro _ _ ⟨rfl,rfl⟩))|refine ldla (cs:=[I n,v]) ?_|(refine aw (m:=(c:Int) - a) ?_;rw [hca])|(refine aw (m:=(r:Int) - 1 - b + a) ?_;rw [hto])|(refine wo ?_;first|(refine ao ?_;first|refine aw ?_)|refine oa ?_)|refine sq ?_|refine rg ?_|refine xc ?_|refine nl ?_
   refine rs (fun w'=>w'.heap[c23]? = some (.cells (rrow pr (m1,m2)).toArray TRt (0,0))) ?_ (fun w' hw=>pt_at memA hw)
   refine kra 0 ?_
   refine kra 1 ?_
   refine kra 2 ?_
   refine kr 4 (v:=.agg (rrow pr (m1,m2)).toArray) (fun w' h=>R_loadA (E:=env) (vs:=rrow pr (m1,m2)) rfl rfl rfl rfl h rfl rfl) ?_
   refine t1 3 ?_
   refine ldaw (N:=((n + 1) * (n + 1))) (xs:=rcs FB0 (hsE (z1,z2) es)) (m:=3 * J) hrow ?_ (hm:=has_oww memA)
   refine nl ?_
   refine te (fun w' hw=>pt_at memA hw) ?_
   refine t1 5 ?_
   refine slws (sz:=3) (xs:=rrow qJ (e1',e2') ++ rrow pr (m1,m2)) fun g2=>?_
   refine nl ?_
   refine te (fun w' hw=>pt_at memA hw) ?_
   refine t1 6 ?_
   refine ca (hAdd _ m1 m2) ?_ (hp:=has1 (has_oww memA) (has1 (hgo _ memA hasA hasA).1 (has1 (hgo _ memA hasA hasA).2 (has1 hasA (has1 hasA has0)))))
   rintro _ _ ⟨n1,d1,rfl,hn1,hd1,rfl⟩
   refine nl ?_
   refine te (fun w' hw=>pt_at memA hw) ?_
   refine kra 7 ?_
   refine kra 8 ?_
   refine kra 9 ?_
   refine kra 10 ?_
   refine t1 11 ?_
   refine sow (sz:=3) (m:=3 * J) (N:=((n + 1) * (n + 1))) (xs:=rcs FB0 (hsE (z1,z2) es)) (vs:=rrow qS (n1,d1)) (by omega) ?_ (h1:=one_cons rfl (one_cons hn1 (one_cons hd1 one_nil)))
   refine nl ?_
   refine te (fun w' hw=>pt_at memA hw) ?_
   refine t0 ?_
   repeat' first|(refine wo ?_;first|(refine ao ?_;first|refine aw ?_)|refine oa ?_)|refine rg ?_|refine xc ?_|refine nl ?_|refine xb ?_
   refine TX.im (gow_set (es:=es) (qs:=FB0) (by rw [hel,hqlB]) (i:=J) (by rw [hqlB];exact hrJ) qS n1 d1 fitA) ?_
   rw [hset qS (n1,d1),← hstB]
   exact lp ⟨b + 1,es.set J (some (n1,d1)),gg'⟩ ⟨hbr,by dsimp only;rw [hstB];exact hgset qS (n1,d1),hgg'⟩
  ·rintro _ _ ⟨s,rfl,⟨hi,g2,g3,g4⟩ | h⟩
   ·exact ⟨_,rfl,.ready,none,_,rfl,by decide,s,by rw [hi],rfl,g2⟩
   ·exact h.elim
 ·rintro l2 rec Dm pend B' ⟨s,rfl,rfl,hgr⟩
  show TX env _ _ _ _ _ _
  refine TX.im (dfrl_nil _) ?_
  refine TX.im (dfrl_push (D:=Dm) (Ds:=[]) fitA) ?_
  rw [outN_all] at hgr ⊢
  generalize nextR f g n xs = q at *
  repeat' first|refine lda (cs:=[I n,v]) ?_|refine srz ?_|refine sq ?_|refine rg ?_|refine xc ?_|refine nl ?_|refine rt ?_|refine xb ?_
  exact mca1 (Ds:=[Dm]) (b:=c8) (cs:=[I n,v]) (vs:=[I n,v]) (T:=TGr) ⟨v,s.es,(z1,z2),rfl,hv,⟨hz1,hz2⟩,hgr,rfl⟩
end Go.Art
namespace Go.Art
open Go Go.Proofs Go.RowKit
abbrev lvD (t:List Int) (k n j:Nat):Nat:=lvE (oneS t k) (fun u=>(fT t k u).den) n k j
theorem lvT_facts {t:List Int} {k n:Nat} (hz:solE t k = 0) (hk:k ≤ 40) (hl:t.length ≤ 12) (hn:n ≤ 12) {B:Nat} (hB:B = 20000) {j:Nat} (hj:j ≤ k) :
  Lv n (lvD t k n j) (lvT t k n j)∧tot n (lvT t k n j) ≤ 1∧lvD t k n j ≠ 0∧lvD t k n j < 18446744073709551616 ^ B:=by
 have hf:∀ u,1 ≤ u→u ≤ k→Ch01 (fT t k u).den (fT t k u):=fun u h1 h2=>(fT_ch hz h1 h2).1
 obtain ⟨h1,h2⟩:=lv_ok (n:=n) (pT_ch hz) hf j hj
 refine ⟨h1,h2,lvE_pos (oneS_pos hz) (fun u h1 h2=>(hf u h1 h2).nz) j hj,?_⟩
 have h3:=lvE_le (n:=n) (B:=18446744073709551616 ^ 11) (F:=fun u=>(fT t k u).den) (D:=oneS t k) (k:=k) (fun u h1 h2=>Nat.le_of_lt (fT_lt hz hk hl h1 h2)) (Nat.le_trans hk (by decide)) (Nat.le_of_lt (Nat.lt_trans (oneS_lt hz hk hl) (by decide))) (by decide) j hj
 rw [← Nat.pow_mul] at h3
 refine Nat.lt_of_le_of_lt h3 (Nat.pow_lt_pow_right (by decide) ?_)
 have h4:2 * n * j ≤ 24 * 40:=Nat.mul_le_mul (by omega) (by omega)
 omega
theorem lvT_succ (t:List Int) (k n j:Nat):lvT t k n (j + 1) = nextR (fT t k (k - j)) (1 / ((k - j:Nat):Rat)) n (lvT t k n j):=rfl
theorem lvD_succ (t:List Int) (k n j:Nat):lvD t k n (j + 1) = lvD t k n j * ((fT t k (k - j)).den ^ n * (k - j) ^ n):=rfl
theorem has_bndC {F C:List Ch} {d:Ch} (h:bnd C ∈ F) (k:Has C d):Has F d:=⟨fun w hw=>k.P w (hw.h _ h),k.wr,k.rd,fun b hb=>⟨_,h,bnd_ft.2 (k.ft b hb)⟩⟩
structure LvG (α:Type) where
 j:Nat
 v:Value
 es:List (Option HV)
 z:HV
 a:α
attribute [local irreducible] Fit pt own ro vw mpc lpt vels rels mow lrc dfr
def grB (n:Nat) (v:Value) (qs:List Rat) (es:List (Option HV)) (z:HV):Ch:=bnd (gP n v qs es z)
instance (n:Nat) (v:Value) (qs:List Rat) (es:List (Option HV)) (z:HV):NoB (grB n v qs es z):=⟨bnd_nob (by repeat (first | exact nb0 | refine nb1 ?_))⟩
abbrev GRB (n:Nat) (qs:List Rat) (u:Value) (D:List Ch):Prop:=∃ v es z,u = gV n v∧v.oneCell' = true∧(z.1.oneCell' = true∧z.2.oneCell' = true)∧Grd n es qs∧D = [grB n v qs es z]
theorem Tr.grb {P:Program} {f:FuncId} {args:List Value} {pre A:List Ch} {n:Nat} {qs:List Rat} (h:Tr P f args pre A (GR n qs)):Tr P f args pre A (GRB n qs):=by
 refine h.post ?_
 rintro u D ⟨v,es,z,hu,h1,h2,h3,rfl⟩
 refine ⟨_,⟨v,es,z,hu,h1,h2,h3,rfl⟩,?_,nb1 nb0⟩
 have:=im_bnd (gP n v qs es z) []
 rwa [List.append_nil] at this
theorem has_grB {F:List Ch} {n:Nat} {v:Value} {qs:List Rat} {es:List (Option HV)} {z:HV} (hg:Grd n es qs) (h:grB n v qs es z ∈ F):Has F (vwf v ((n + 1) * (n + 1)) (rcs qs (hsE z es)))∧Has F (vfr (hsE z es) qs):=
 ⟨has_bndC h (has_oww (List.Mem.head _)),has_bndC h (has_gvfr hg (List.Mem.tail _ (List.Mem.head _)) (has_own (List.Mem.tail _ (List.Mem.tail _ (List.Mem.head _)))) (has_own (List.Mem.tail _ (List.Mem.tail _ (List.Mem.tail _ (List.Mem.head _))))))⟩
structure SeqW (P:Program) (f:FuncId) (cap:Array Value) (U:Ch) (n k:Nat) (L:Nat→List Rat):Prop where
 run:∀ {α:Type} (V:Ch) [Lent V] (l:Nat) (J:α→Ch) (pl:α→Nat→Prop) (S:α→Prop) (a0:α),pl a0 0→(∀ a b,¬ (J a).bd b) →
  (∀ a j v es z,v.oneCell' = true→(z.1.oneCell' = true∧z.2.oneCell' = true)→Grd n es (L j)→pl a j→j ≤ k→Ty P l [I ((k - j:Nat):Int),gV n v] [V] [grB n v (L j) es z,J a] fun ok B=>(ok = true∧∃ a',B = [grB n v (L j) es z,J a']∧pl a' (j + 1))∨(ok = false∧∃ a',B = [J a']∧S a')) →
  Tr P f (yv l :: cap.toList) [V,U] [J a0] fun _ B=>∃ a,B = [J a]∧(pl a (k + 1)∨S a)
attribute [local irreducible] lmp lme mit velg relg bnd owl dfrl gow shB grB
theorem levels_tr (tv:Value) (htv:tv.oneCell' = true) (k n:Int):Tr Tryz.prog 57 [tv,I k,I n] [] [] fun u D=>∃ p1 p2 p3,u = .func (.func 105) #[] #[ptr p1,ptr p2,ptr p3]∧D = [pt p3 [I n] TLI,pt p2 [I k] TLI,pt p1 [tv] TLs]:=by
 refine Tr.enter env _ Tryz.func57 (by kernel_rfl) rfl Tryz.ntmps57 rfl (by repeat (first | exact has00 | refine has01 ?_)) fun w0=>?_
 repeat' first|refine bx1 fun b=>?_|(refine wo ?_;first|refine oa ?_)|refine sq ?_|refine rg ?_|refine xc ?_|refine nl ?_|refine rt ?_
 exact r1 ⟨_,_,_,rfl,rfl⟩
theorem nxtT_tr (tv gv:Value) (htv:tv.oneCell' = true) (hgv:gv.oneCell' = true) (t:List Int) (k n j:Nat) (hs:List HV) (hz:solE t k = 0) (hk:k ≤ 40) (hl:t.length ≤ 12) (hn:n ≤ 12) (hj:j < k) (hlen:hs.length = (lvT t k n j).length) :
  Tr Tryz.prog 107 [gV n gv,tv,I k,I ((k - j:Nat):Int)] [vw tv (Is t),vwf gv ((n + 1) * (n + 1)) (rcs (lvT t k n j) hs),vfr hs (lvT t k n j)] [] (GRB n (lvT t k n (j + 1))):=by
 obtain ⟨B,hB⟩ : ∃ B,B = 20000:=⟨_,rfl⟩
 obtain ⟨b1,b2,b3,b4⟩:=lvT_facts hz hk hl hn hB (j:=j) (by omega)
 obtain ⟨_,_,_,c4⟩:=lvT_facts hz hk hl hn hB (j:=j + 1) (by omega)
 rw [lvD_succ] at c4
 rw [lvT_succ]
 exact (nxt_tr tv gv htv hgv t k (k - j) n (lvD t k n j) B (lvT t k n j) hs hz hk hl hn (by omega) (by omega) hlen (supp_lv _ _ _ _ j) b1 b2 b3 c4 (by omega)).grb
theorem levels1_seq (p1 p2 p3:Nat) (tv:Value) (htv:tv.oneCell' = true) (t:List Int) (k n:Nat) (hz:solE t k = 0) (hk:k ≤ 40) (hl:t.length ≤ 12) (hn:n ≤ 12) :
  SeqW Tryz.prog 105 #[ptr p1,ptr p2,ptr p3] (lbd [lpt p1 [tv] TLs,lpt p2 [I k] TLI,lpt p3 [I n] TLI,vw tv (Is t)]) n k (lvT t k n):=by
 refine ⟨fun {α} V hV l J pl S a0 h0 hnb hy=>?_⟩
 haveI:=hV
 haveI:∀ a,NoB (J a):=fun a=>⟨hnb a⟩
 refine Tr.pre (pre:=[V,lpt p1 [tv] TLs,lpt p2 [I k] TLI,lpt p3 [I n] TLI,vw tv (Is t)]) ?_ (has1 (has_mem (by simp)) (has_lbds (C:=[lpt p1 [tv] TLs,lpt p2 [I k] TLI,lpt p3 [I n] TLI,vw tv (Is t)]) (by simp) _ (by repeat (first | exact has00 | refine has01 ?_)) fun c hc=>hc)) (by repeat (first | exact has00 | refine has01 ?_))
 have hF:=(first_tr tv htv t k n hz hk hl hn).grb
 have hN:=fun j (hj:j < k) gv hgv hs hlen=>nxtT_tr tv gv htv hgv t k n j hs hz hk hl hn hj hlen
 clear hz
 generalize lvT t k n = L at *
 refine Tr.enter env _ Tryz.func105 (by kernel_rfl) rfl Tryz.ntmps105 rfl (by repeat (first | exact has00 | refine has01 ?_)) fun w0=>?_
 repeat' first|(refine gca ?_;first|(refine ca hF ?_;rintro _ _ ⟨v,es,z,rfl,hv,hz,hgr,rfl⟩))|refine al fun c5=>?_|refine srz ?_|(refine wo ?_;first|refine oa ?_|refine ldl ?_)|refine sq ?_|refine rg ?_|refine xc ?_|refine nl ?_|refine bk ?_
 refine TC.loop (ι:=LvG α) (fun g=>[(6,I ((k - g.j:Nat):Int))]) (fun g=>[pt c5 [I n,g.v] TGr,grB n g.v (L g.j) g.es g.z,J g.a]) (fun g=>g.j ≤ k∧g.v.oneCell' = true∧(g.z.1.oneCell' = true∧g.z.2.oneCell' = true)∧Grd n g.es (L g.j)∧pl g.a g.j) (fun g=>k - g.j) ⟨0,v,es,z,a0⟩ [0,1,2,3,5] ⟨Nat.zero_le _,hv,hz,hgr,h0⟩ ?_
 clear hv hz hgr hF
 rintro ⟨j,v,es,z,a⟩ ⟨hj,hv,hz,hgr,ha⟩
 dsimp only at hj hv hz hgr ha ⊢
 have hyj:=hy a j v es z hv hz hgr ha hj
 by_cases hlt:j < k
 ·have hNj:=hN j hlt v hv (hsE z es) (by rw [hsE_len,hgr.el,hgr.ql])
  have hs1:((k - j:Nat):Int) - 1 = ((k - (j + 1):Nat):Int):=by omega
  repeat' first|(refine gca ?_;first|(refine ca hNj ?_ (hp:=has1 hasA (has1 (has_grB hgr memA).1 (has1 (has_grB hgr memA).2 has0)));rintro _ _ ⟨v2,es2,z2,rfl,hv2,hz2,hgr2,rfl⟩))|refine lda (cs:=[I n,v]) ?_|(refine cy hyj ?_ (hp:=has1 (has_mem memA) has0);rintro ok _ (⟨rfl,a2,rfl,h3⟩ | ⟨rfl,a2,rfl,h3⟩))|refine srz ?_ (hj:=Nat.le_of_ble_eq_true rfl)|(refine aw (m:=((k - j:Nat):Int) - 1) ?_;rw [hs1])|(refine wo ?_;first|(refine ao ?_;first|refine oa ?_)|refine oa ?_|refine ldl ?_|refine gy ?_|refine gn ?_)|(refine gc ?_;first|refine cf ?_|(refine ci (fun hB=>?_) (fun hB=>?_) <;> try (exfalso;omega)))|refine sq ?_|refine rg ?_|refine xc ?_|refine nl ?_|refine sk ?_|refine bk ?_|refine xe ?_|refine xb ?_
  ·exact lp ⟨j + 1,v2,es2,z2,a2⟩ ⟨hlt,hv2,hz2,hgr2,h3⟩
  ·exact e0 ⟨a2,rfl,.inr h3⟩
 ·obtain rfl:j = k:=by omega
  rw [Nat.sub_self] at hyj
  repeat' first|refine lda (cs:=[I n,v]) ?_|(refine cy hyj ?_ (hp:=has1 (has_mem memA) has0) (hv:=by rw [Nat.sub_self];rfl);rintro ok _ (⟨rfl,a2,rfl,h3⟩ | ⟨rfl,a2,rfl,h3⟩))|(refine wo ?_;first|(refine ao ?_;first|refine oa ?_)|refine oa ?_|refine gy ?_|refine gn ?_)|(refine gc ?_;first|refine cf ?_|(refine ci (fun hB=>?_) (fun hB=>?_) <;> try (exfalso;omega)))|refine sq ?_|refine rg ?_|refine xc ?_|refine nl ?_|refine xe ?_
  ·exact e0 ⟨a2,rfl,.inl h3⟩
  ·exact e0 ⟨a2,rfl,.inr h3⟩
end Go.Art
namespace Go.Art
open Go Go.Proofs Go.RowKit
section
variable {P:Program} {E:Env P} {Q0:Exit→Act→World→Prop} {s:List K} {fr:Fr} {w:World}
theorem SC_rangeI {m l0:Nat} {ds:List Deferred} {g:Operand} {f:FuncId} {cap:Array Value} {ps:List Tmp} {assign body:Code} {rec0:Loop} {st0:LoopState} {pend0:Option Code} (h0:RAt w l0 rec0 st0 pend0) (hg:ev fr g = some (.func (.func f) #[] cap))
  (h:∀ (rec:Loop) (w1:World),RecOk rec m fr ps assign body rec0.defers→Ext w w1→w1.heap.size = w.heap.size + 1→RAt w1 w.heap.size rec .ready none →
   Fn P f (yv w.heap.size :: cap.toList) w1 fun _ w3=>∃ st pend,st ≠ LoopState.busy∧RAt w3 w.heap.size rec st pend ∧
    ∀ w4,Upd w3 w4 [w.heap.size]→afterR E ⟨m,ds,some l0⟩ Q0 s fr w4 pend) :
  SC E ⟨m,ds,some l0⟩ Q0 s (.rangeFunc g ps.toArray assign body) fr w:=⟨fun a ha=>by
 refine wpIn_rangeFunc fun fn _=>?_
 obtain ⟨rec,hrec⟩ : ∃ rec:Loop,rec = { state:=.ready,pending:=none,fn,tmps:=a.tmps,params:=ps.toArray,assign,body,defers:=rec0.defers }:=⟨_,rfl⟩
 obtain ⟨w1,hw1⟩ : ∃ w1,w1 = w.alloc (.loop rec):=⟨_,rfl⟩
 have hfn:=h rec w1 (by subst hrec;exact ⟨rfl,rfl,rfl,rfl,a,rfl,ha.size,rfl,ha.slot⟩) (by subst hw1;exact Upd.alloc w _) (by subst hw1;simp) (by subst hw1;subst hrec;exact World.alloc_heap_new w _)
 have hcf:=run_callFunc_fn hfn.can (yv w.heap.size :: cap.toList).toArray w1
 refine ⟨w.heap.size,[],w1,{ target:=.fn (.func f) cap,args:=#[yv w.heap.size] },w1,f,(yv w.heap.size :: cap.toList).toArray,w1,?_,?_,fun _ _=>trivial,?_,fun e=>(by cases e),?_⟩
 ·subst hw1;subst hrec;exact run_enterLoop_inner h0 fn a.tmps ps.toArray assign body
 ·simp only [resolve,rangeCall,ha.ev hg]
  simp [Deferred.ofValue,Act.eval]
 ·have e1 : #[yv w.heap.size] ++ cap = (yv w.heap.size :: cap.toList).toArray:=by apply Array.ext';simp
  simp only [invoke,e1]
  exact hcf
 ·refine callsFF (hfn.calls.mono fun e w3 ⟨v,he,st,pend,hst,hR,hk⟩=>?_)
  subst he
  refine ⟨pend,w3.putObj w.heap.size (.loop { rec with state:=.exhausted,pending:=pend }),run_endLoop hR hst,?_⟩
  have hh:=hk _ (putObj_upd w3 w.heap.size (.loop { rec with state:=.exhausted,pending:=pend }))
  have ha':Holds ⟨m,ds,some l0⟩ { a with defers:=[] ++ a.defers } fr:=⟨ha.size,by show [] ++ a.defers = _;rw [ha.defers];rfl,ha.slot⟩
  cases pend with
  | none=>exact hh.run _ ha'
  | some c=>exact hh.run _ ha'⟩
end
section
variable {P:Program} {E:Env P} {X:Cx} {s:List K} {fr:Fr} {A F:List Ch} {m l0:Nat} {assign body:Code} {rec0:Loop} {st0:LoopState} {pend0:Option Code}
theorem TC.rangeI {ds:List Deferred} {g:Operand} {f:FuncId} {cap:Array Value} {ps:List Tmp} (hl0:lrc l0 rec0 st0 pend0 ∈ A) (pre J:List Ch) (Aft:Nat→Loop→Option Code→List Ch→Prop)
  (hit:∀ rec l,RecOk rec m fr ps assign body rec0.defers→Tr P f (yv l :: cap.toList) pre (lrc l rec .ready none :: J) fun _ B=>∃ st pend B',B = lrc l rec st pend :: B'∧st ≠ LoopState.busy∧Aft l rec pend B')
  (aft:∀ l rec pend B',Aft l rec pend B'→afterT E ⟨m,ds,some l0⟩ X s fr (B' ++ F) pend) (hg:ev fr g = some (.func (.func f) #[] cap):=by rfl) (hs:Fit A J F:=by exact fitA)
  (hp:∀ c ∈ pre,Has F c:=by (repeat (first | exact has0 | refine has1 hasA ?_));first | done | fail):TC E ⟨m,ds,some l0⟩ X s (.rangeFunc g ps.toArray assign body) fr A:=⟨fun w hw=>by
 refine SC_rangeI (hw.mem hl0) hg fun rec w1 hr hE hz hl=>?_
 have h0:=hw.im hs
 have h1:=h0.ext hE
 have h2:St X (lrc w.heap.size rec .ready none :: (J ++ F)) w1:=by
  have hnew:∀ b,fts [lrc w.heap.size rec .ready none] b→w.heap.size ≤ b:=by
   rintro b ⟨c,hc,hb⟩
   rw [List.mem_singleton.1 hc] at hb
   rcases hb with hb | hb | hb
   ·have:b = w.heap.size:=hb;omega
   ·exact hb.elim
   ·exact hb.elim
  refine h0.step (A:=[]) (B:=[lrc w.heap.size rec .ready none]) (Mv.upd hE (by simp) (fun b hb=>.inr (hnew b hb.ft)) (fun b hb=>.inr (.inr (hnew b hb.ft)))) (Sat.one hl) ?_
  intro c hc b hb
  rw [List.mem_singleton.1 hc] at hb
  exact hb
 refine ((hit rec w.heap.size hr).at (F:=F) (by exact Im.refl _) hp h2).mono fun v w3 ⟨D,⟨st,pend,B',hB,hst,hA⟩,hS⟩=>?_
 subst hB
 refine ⟨st,pend,hst,hS.mem (List.Mem.head _),fun w4 hU=>?_⟩
 have h4:St X (B' ++ F) w4:=by
  have:=hS.step (A:=[lrc w.heap.size rec st pend]) (B:=[]) (F:=B' ++ F) (w':=w4) (Mv.upd hU (fun b hb=>.inl (wrs_one.2 (List.mem_singleton.1 hb))) (fun b hb=>absurd hb wrs_nil) (fun b hb=>absurd hb rds_nil)) (Sat.nil _) (by simp)
  exact this
 have h5:=aft _ _ _ _ hA
 cases pend with
 | none=>exact TX.run h5 w4 h4
 | some c=>exact TC.run h5 w4 h4⟩
end
end Go.Art
namespace Go.Art
open Go Go.Proofs Go.RowKit
theorem Ty.bndK {P:Program} {l:Nat} {vs:List Value} {K pre C:List Ch} {R:Bool→List Ch→Prop} (h:Ty P l vs pre (C ++ K) fun b D=>∃ C' K',D = C' ++ K'∧R b (K' ++ [Go.Art.bnd C'])):Ty P l vs pre (K ++ [Go.Art.bnd C]) R:=by
 refine ⟨fun w hw=>?_,h.lent⟩
 have p1:(pre ++ (K ++ [Go.Art.bnd C])).Perm (Go.Art.bnd C :: (pre ++ K)):=by
  have:((pre ++ K) ++ [Go.Art.bnd C]).Perm (Go.Art.bnd C :: (pre ++ K)):=List.perm_append_comm (l₁:=pre ++ K) (l₂:=[Go.Art.bnd C])
  simpa using this
 have h1:Sat (pre ++ (C ++ K)) w:=(bnd_sat.1 (hw.perm p1)).perm (List.perm_append_comm_assoc C pre K)
 have e1:∀ (C K:List Ch) (b:Nat),wrs (C ++ K) b ↔ wrs (K ++ [Go.Art.bnd C]) b:=fun C K b=>by
  constructor
  ·rintro ⟨c,hc,hb⟩
   rcases List.mem_append.1 hc with hc | hc
   ·exact ⟨Go.Art.bnd C,by simp,c,hc,hb⟩
   ·exact ⟨c,List.mem_append_left _ hc,hb⟩
  ·rintro ⟨c,hc,hb⟩
   rcases List.mem_append.1 hc with hc | hc
   ·exact ⟨c,List.mem_append_right _ hc,hb⟩
   ·rw [List.mem_singleton.1 hc] at hb
    obtain ⟨d,hd,h⟩:=hb
    exact ⟨d,List.mem_append_left _ hd,h⟩
 have e2:∀ (C K:List Ch) (b:Nat),rds (C ++ K) b ↔ rds (K ++ [Go.Art.bnd C]) b:=fun C K b=>by
  constructor
  ·rintro ⟨c,hc,hb⟩
   rcases List.mem_append.1 hc with hc | hc
   ·exact ⟨Go.Art.bnd C,by simp,c,hc,hb⟩
   ·exact ⟨c,List.mem_append_left _ hc,hb⟩
  ·rintro ⟨c,hc,hb⟩
   rcases List.mem_append.1 hc with hc | hc
   ·exact ⟨c,List.mem_append_right _ hc,hb⟩
   ·rw [List.mem_singleton.1 hc] at hb
    obtain ⟨d,hd,h⟩:=hb
    exact ⟨d,List.mem_append_left _ hd,h⟩
 refine (h.run w h1).mono fun b w' ⟨B,⟨C',K',hB',hR⟩,hS,hM,hnb⟩=>?_
 subst hB'
 refine ⟨K' ++ [Go.Art.bnd C'],hR,?_,⟨hM.os,hM.tape,hM.output,hM.size,fun k hk hn=>hM.block k hk fun h=>hn ((e1 C K k).1 h),fun x hx=>(hM.wr x ((e1 C' K' x).2 hx)).imp_left (e1 C K x).1,fun x hx=>(hM.rd x ((e2 C' K' x).2 hx)).imp (e1 C K x).1 (Or.imp_left (e2 C K x).1)⟩,fun c hc x hx=>?_⟩
 ·exact (bnd_sat.2 hS).perm (List.perm_append_comm (l₁:=[Go.Art.bnd C']) (l₂:=K'))
 ·rcases List.mem_append.1 hc with hc | hc
  ·exact hnb c (List.mem_append_right _ hc) x hx
  ·rw [List.mem_singleton.1 hc] at hx
   obtain ⟨y,hy,h2⟩:=hx
   exact hnb y (List.mem_append_left _ hy) x h2
def ripE (t:List Int) (k n:Int):Int:=if k < 1∨1024 < k∨n < 0∨4096 < n then 3 else solE t k
theorem ripE_zero {t:List Int} {k n:Int} (h:ripE t k n = 0):(1 ≤ k∧k ≤ 1024)∧(0 ≤ n∧n ≤ 4096)∧solE t k = 0:=by
 unfold ripE at h
 split at h
 ·cases h
 ·exact ⟨by omega,by omega,h⟩
def psN (n u:Nat) (x:List Rat) (i:Nat):Rat:=sR (fun i=>if u = 0∨i % (n + 1) = 0 then x.getD i 0 else 0) (List.range i)
theorem psN_all (n u:Nat) (x:List Rat):psN n u x ((n + 1) * (n + 1)) = stuckR n u x:=rfl
theorem psN_zero (n u:Nat) (x:List Rat):psN n u x 0 = 0:=rfl
theorem psN_in {n u:Nat} {x:List Rat} {i:Nat} (h:u = 0∨i % (n + 1) = 0):psN n u x (i + 1) = psN n u x i + x.getD i 0:=by unfold psN;rw [sR_last,if_pos h]
theorem psN_out {n u:Nat} {x:List Rat} {i:Nat} (h:¬ (u = 0∨i % (n + 1) = 0)):psN n u x (i + 1) = psN n u x i:=by unfold psN;rw [sR_last,if_neg h,Rat.add_zero]
theorem psN_fr {n E u:Nat} {x:List Rat} (hx:Lv n E x) {i:Nat} (hi:i ≤ (n + 1) * (n + 1)):FrQ E (psN n u x i):=FrQ.sum fun j hj=>by
 have:=List.mem_range.1 hj
 split
 ·exact hx.fr j (by omega)
 ·exact FrQ.zero E
theorem psN_le {n E u:Nat} {x:List Rat} (hx:Lv n E x) {i:Nat} (hi:i ≤ (n + 1) * (n + 1)):psN n u x i ≤ tot n x:=by
 rw [tot_eq]
 obtain ⟨q,hq⟩:=Nat.exists_eq_add_of_le hi
 rw [hq,List.range_add,sR_app]
 have h1:psN n u x i ≤ sR (fun i=>x.getD i 0) (List.range i):=sR_le fun j hj=>by
  have:=List.mem_range.1 hj
  split
  ·exact Rat.le_refl
  ·exact (hx.fr j (by omega)).nonneg
 have h2:0 ≤ sR (fun i=>x.getD i 0) ((List.range q).map (i + ·)):=sR_nonneg fun j hj=>by
  obtain ⟨a,ha,rfl⟩:=List.mem_map.1 hj
  have:=List.mem_range.1 ha
  exact (hx.fr _ (by omega)).nonneg
 grind
def stL (t:List Int) (k n:Nat):List Rat:=(List.range (k + 1)).map (stT t k n)
theorem stL_len (t:List Int) (k n:Nat):(stL t k n).length = k + 1:=by simp [stL]
theorem stL_get {t:List Int} {k n i:Nat} (h:i < k + 1):(stL t k n).getD i 0 = stT t k n i:=by simp [stL,List.getD_eq_getElem?_getD,h]
theorem zrs_rcs:∀ N:Nat,zrs N = rcs (List.replicate N 0) (hsE nS2 (List.replicate N none))
 | 0=>rfl
 | N + 1=>by
  have ih:=zrs_rcs N
  unfold zrs rcs hsE at *
  rw [List.replicate_succ,List.flatten_cons,ih,List.replicate_succ,List.replicate_succ,List.map_cons,List.zipWith_cons_cons,List.flatten_cons]
  rfl
theorem getD_setO (l:List (Option HV)) (i j:Nat) (x:Option HV) (hj:j < l.length):(l.set j x).getD i none = if i = j then x else l.getD i none:=by
 simp only [List.getD_eq_getElem?_getD,List.getElem?_set]
 by_cases e:i = j
 ·subst e;simp [hj]
 ·rw [if_neg (fun h=>e h.symm),if_neg e]
theorem has_gowS {F:List Ch} {es:List (Option HV)} {qs:List Rat} (hl:es.length = qs.length) (h:gow es qs ∈ F) {i:Nat} (hi:i < qs.length) {p:HV} (he:es.getD i none = some p) :
  Has F (vw p.1 (Us (dg (qs.getD i 0).num.natAbs)))∧Has F (vw p.2 (Us (dg (qs.getD i 0).den))):=by
 have h1:=gps_get (es:=es) (qs:=qs) (i:=i) (by omega) hi
 rw [he] at h1
 exact ⟨has_bndI (.inr h) (List.mem_of_getElem? h1) (has_bndI (.inr (List.mem_singleton.2 rfl)) (List.Mem.head _) (has_own (List.mem_singleton.2 rfl))),
  has_bndI (.inr h) (List.mem_of_getElem? h1) (has_bndI (.inr (List.mem_singleton.2 rfl)) (List.Mem.tail _ (List.Mem.head _)) (has_own (List.mem_singleton.2 rfl)))⟩
theorem gow_ofr (F:List Ch):∀ {es:List (Option HV)} {qs:List Rat},es.length = qs.length→(∀ i,i < qs.length→(es.getD i none).isSome)→Im (gow es qs :: F) (ofr (hsE nS2 es) qs :: F)
 | [],[],_,_=>(un_bnd [] F).trans (owl_nil F)
 | [],_ :: _,h,_=>by simp at h
 | _ :: _,[],h,_=>by simp at h
 | e :: es,q :: qs,h,H=>by
  have h0:=H 0 (by simp)
  cases e with
  | none=>cases h0
  | some p=>
   have ih:=gow_ofr (own T64 p.1 (Us (dg q.num.natAbs)) :: own T64 p.2 (Us (dg q.den)) :: F) (es:=es) (qs:=qs) (by simpa using h) fun i hi=>by
    have:=H (i + 1) (by simpa using hi)
    simpa [List.getD_eq_getElem?_getD] using this
   have a1:Im (gow (some p :: es) (q :: qs) :: F) (bnd [own T64 p.1 (Us (dg q.num.natAbs)),own T64 p.2 (Us (dg q.den))] :: gow es qs :: F):=bnd_uncons _ _ F
   refine a1.trans ((un_bnd _ _).trans ?_)
   show Im (own T64 p.1 (Us (dg q.num.natAbs)) :: own T64 p.2 (Us (dg q.den)) :: gow es qs :: F) _
   refine (im_swap3 _ _ _ F).trans (ih.trans ?_)
   show Im (owl T64 wU (hpc (hsE nS2 es)) (pcl qs) :: own T64 p.1 (Us (dg q.num.natAbs)) :: own T64 p.2 (Us (dg q.den)) :: F) (bnd (own T64 p.1 ((Zs (dg q.num.natAbs)).map wU) :: own T64 p.2 ((Zs (dg q.den)).map wU) :: owls T64 wU (hpc (hsE nS2 es)) (pcl qs)) :: F)
   rw [← Us_eq,← Us_eq]
   refine (Im.perm ((List.perm_middle (l₁:=[own T64 p.1 (Us (dg q.num.natAbs)),own T64 p.2 (Us (dg q.den))])).symm)).trans ?_
   exact (Im.cons _ (bnd_cons (own T64 p.2 (Us (dg q.den))) _ F)).trans (bnd_cons (own T64 p.1 (Us (dg q.num.natAbs))) _ F)
attribute [local irreducible] Fit pt own ro vw mpc lpt vels rels mow lrc dfr
attribute [local irreducible] lmp lme mit velg relg bnd owl dfrl gow shB grB
theorem riprefuses_tr (tv:Value) (t:List Int) (k n:Int):Tr Tryz.prog 56 [tv,I k,I n] [vw tv (Is t)] [] fun u D=>u = I (ripE t k n)∧D = []:=by
 have hC:=SoCheck_tr tv t k
 have h13:=@solE_13 t k
 unfold ripE
 by_cases hc:k < 1∨1024 < k∨n < 0∨4096 < n
 ·rw [if_pos hc]
  refine Tr.enter env _ Tryz.func56 (by kernel_rfl) rfl Tryz.ntmps56 rfl (by repeat (first | exact has00 | refine has01 ?_)) fun w0=>?_
  repeat' first|(refine wo ?_;first|(refine ao ?_;first|refine oa ?_)|refine oa ?_|refine gy ?_|refine gn ?_|(refine gsi (fun hB=>?_) (fun hB=>?_) <;> try (exfalso;omega)))|(refine gc ?_;first|refine ct ?_|(refine ci (fun hB=>?_) (fun hB=>?_) <;> try (exfalso;omega)))|refine sq ?_|refine rg ?_|refine xc ?_|refine nl ?_|refine bk ?_|refine rt ?_
  all_goals exact r1 ⟨rfl,rfl⟩
 ·rw [if_neg hc]
  by_cases hz:solE t k = 0
  ·rw [hz] at hC ⊢
   refine Tr.enter env _ Tryz.func56 (by kernel_rfl) rfl Tryz.ntmps56 rfl (by repeat (first | exact has00 | refine has01 ?_)) fun w0=>?_
   repeat' first|(refine gca ?_;first|(refine ca hC ?_;rintro _ _ ⟨rfl,rfl⟩))|(refine wo ?_;first|(refine ao ?_;first|refine oa ?_)|refine oa ?_|refine gy ?_|(refine gsi (fun hB=>?_) (fun hB=>?_) <;> try (exfalso;omega)))|(refine gc ?_;first|refine cf ?_|(refine ci (fun hB=>?_) (fun hB=>?_) <;> try (exfalso;omega)))|refine sq ?_|refine rg ?_|refine xc ?_|refine nl ?_|refine sk ?_|refine bk ?_|refine rt ?_|refine xb ?_
   exact r1 ⟨rfl,rfl⟩
  ·rw [h13 hz] at hC ⊢
   refine Tr.enter env _ Tryz.func56 (by kernel_rfl) rfl Tryz.ntmps56 rfl (by repeat (first | exact has00 | refine has01 ?_)) fun w0=>?_
   repeat' first|(refine gca ?_;first|(refine ca hC ?_;rintro _ _ ⟨rfl,rfl⟩))|(refine wo ?_;first|(refine ao ?_;first|refine oa ?_)|refine oa ?_|refine gy ?_|(refine gsi (fun hB=>?_) (fun hB=>?_) <;> try (exfalso;omega)))|(refine gc ?_;first|refine ct ?_|(refine ci (fun hB=>?_) (fun hB=>?_) <;> try (exfalso;omega)))|refine sq ?_|refine rg ?_|refine xc ?_|refine nl ?_|refine bk ?_|refine rt ?_
   exact r1 ⟨rfl,rfl⟩
end Go.Art
namespace Go.Art
open Go Go.Proofs Go.RowKit
section
variable {P:Program} {E:Env P} {n:Sh} {fr:Fr} {A A' D G:List Ch} {m:Nat}
theorem m2t {Ds:List Nat} {w0:World} {A0:List Ch} {R':Value→List Ch→Prop} {fn:Func} {t t2:Nat} {v1 v2:Value} (h:R' (.tuple #[v1,v2]) D) (hr:fn.results = #[.tmp t,.tmp t2]:=by rfl) (hv:get fr t = some v1:=by rfl) (hv2:get fr t2 = some v2:=by rfl)
  (hm:Tk (dfrl Ds) A A':=by exact tkA) (hf:Fit A' D G:=by exact fitA) (nb:∀ c ∈ D,∀ b,¬ c.bd b:=by (repeat (first | exact nb0 | refine nb1 ?_));first | done | fail) (hn:n = ⟨m,marks Ds,none⟩:=by rfl) :
  TX E n ⟨bodyPostM (FF none) 0 P fn (RetP (PR w0 A0 R')),w0,A0⟩ [] .ret fr A:=by
 subst hn
 exact mG (.inl rfl) h (fun w hw a ha=>by rw [results_tmp2 hr a.tmps P w,ha.slot _ _ hv,ha.slot _ _ hv2]) hm hf nb
end
structure SkG where
 qs:List Rat
 es:List (Option HV)
structure SkI (t:List Int) (k n j:Nat) (g:SkG):Prop where
 ql:g.qs.length = k + 1
 el:g.es.length = k + 1
 in_:∀ i,i < k + 1→k + 1 ≤ i + j→g.qs.getD i 0 = stT t k n i∧(g.es.getD i none).isSome
structure SkP where
 i:Nat
 p:HV
theorem stI_set {t:List Int} {k n j:Nat} {g:SkG} (h:SkI t k n j g) (hj:j ≤ k) (p:HV):SkI t k n (j + 1) ⟨g.qs.set (k - j) (stT t k n (k - j)),g.es.set (k - j) (some p)⟩:=by
 refine ⟨by rw [List.length_set,h.ql],by rw [List.length_set,h.el],fun i hi h2=>?_⟩
 rw [getD_setR _ _ _ _ (by rw [h.ql];omega),getD_setO _ _ _ _ (by rw [h.el];omega)]
 by_cases e:i = k - j
 ·subst e;rw [if_pos rfl,if_pos rfl];exact ⟨rfl,rfl⟩
 ·rw [if_neg e,if_neg e];exact h.in_ i hi (by omega)
theorem stI_all {t:List Int} {k n:Nat} {g:SkG} (h:SkI t k n (k + 1) g):g.qs = stL t k n∧∀ i,i < g.qs.length→(g.es.getD i none).isSome:=by
 refine ⟨List.ext_getElem (by rw [h.ql,stL_len]) fun i h1 h2=>?_,fun i hi=>(h.in_ i (by rw [h.ql] at hi;exact hi) (by omega)).2⟩
 have h3:=(h.in_ i (by rw [h.ql] at h1;exact h1) (by omega)).1
 rw [← stL_get (by rw [h.ql] at h1;exact h1)] at h3
 simpa [List.getD_eq_getElem?_getD,h1,h2] using h3
theorem rcs_setS {z:HV} {es:List (Option HV)} {qs:List Rat} (hl:es.length = qs.length) {i:Nat} (hi:i < qs.length) (q:Rat) (p:HV):(rcs qs (hsE z es)).take (3 * i) ++ rrow q p ++ (rcs qs (hsE z es)).drop (3 * i + 3) = rcs (qs.set i q) (hsE z (es.set i (some p))):=by
 rw [rcs_set (by rw [hsE_len,hl]) hi,hsE_set]
attribute [local irreducible] Fit pt own ro vw mpc lpt vels rels mow lrc dfr
attribute [local irreducible] lmp lme mit velg relg bnd owl dfrl gow shB grB
abbrev TRs:TypeId:=26
set_option maxHeartbeats 1000000 in
theorem Stuck_tr (tv:Value) (htv:tv.oneCell' = true) (t:List Int) (k n:Nat) (hz:solE t k = 0) (hk:k ≤ 40) (hl:t.length ≤ 12) (hn:n ≤ 12):Tr Tryz.prog 18 [tv,I k,I n] [vw tv (Is t)] []
  fun u D=>∃ v hs,u = tup2 v (I 0)∧v.oneCell' = true∧hs.length = k + 1∧D = [oww TRt 3 v (k + 1) (rcs (stL t k n) hs),ofr hs (stL t k n)]:=by
 have hk1:=(solE_zero hz).1
 have hR:=riprefuses_tr tv t k n
 rw [show ripE t k n = 0 by unfold ripE;rw [if_neg (by omega)];exact hz] at hR
 have hLv:=levels_tr tv htv (k:Int) (n:Int)
 have hW:=whole_tr 0 (by decide)
 rw [zero_mk] at hW
 have hrunL:=fun p1 p2 p3=>@SeqW.run _ _ _ _ _ _ _ (levels1_seq p1 p2 p3 tv htv t k n hz hk hl hn)
 obtain ⟨B,hB⟩ : ∃ B,B = 20000:=⟨_,rfl⟩
 have hB9:B ≤ 8589934592:=by omega
 have hfact:=fun j (hj:j ≤ k)=>lvT_facts hz hk hl hn hB (j:=j) hj
 have hPF:∀ j u i,j ≤ k→i ≤ ((n + 1) * (n + 1))→FB (psN n u (lvT t k n j) i) 8589934592:=fun j u i hj hi=>by
  obtain ⟨b1,b2,b3,b4⟩:=hfact j hj
  exact (FB_le1 (psN_fr b1 hi) b3 (Rat.le_trans (psN_le b1 hi) b2) b4).le hB9
 have hXF:∀ j i,j ≤ k→i < ((n + 1) * (n + 1))→FB ((lvT t k n j).getD i 0) 8589934592:=fun j i hj hi=>by
  obtain ⟨b1,b2,b3,b4⟩:=hfact j hj
  exact (y_FB b1 b2 b3 b4 hi).le hB9
 have hst:∀ j,j ≤ k→stuckR n (k - j) (lvT t k n j) = stT t k n (k - j):=fun j hj=>by unfold stT;rw [show k - (k - j) = j by omega]
 have hset:=fun j g (h:SkI t k n j g) (hj:j ≤ k) p=>stI_set h hj p
 have hall:=fun g (h:SkI t k n (k + 1) g)=>stI_all h
 have hql:∀ j,(lvT t k n j).length = ((n + 1) * (n + 1)):=fun j=>(supp_lv _ _ _ _ j).len
 have hPl:=fun v hv=>places_tr n v hv
 have hst0:SkI t k n 0 ⟨List.replicate (k + 1) 0,List.replicate (k + 1) none⟩:=⟨by simp,by simp,fun i h1 h2=>by omega⟩
 unfold FQ at hW
 have e0:((0:Nat):Int) = 0:=rfl
 rw [e0] at hW
 clear hz hfact hB hB9
 generalize lvT t k n = L at *
 generalize stL t k n = LL at *
 have hkk:(k:Int) + 1 = ((k + 1:Nat):Int):=rfl
 refine Tr.enterM env _ Tryz.func18 (by kernel_rfl) rfl Tryz.ntmps18 rfl (by repeat (first | exact has00 | refine has01 ?_)) fun w0=>?_
 repeat' first|(refine gca ?_;first|(refine ca hR ?_;rintro _ _ ⟨rfl,rfl⟩)|(refine ca hLv ?_;rintro _ _ ⟨p1,p2,p3,rfl,rfl⟩))|(refine aw (m:=(k:Int) + 1) ?_;rw [hkk])|(refine mkw (sz:=3) (c:=((k + 1:Nat):Int)) (fun sv hsv=>?_);rw [Int.toNat_natCast,zrs_eq,zrs_rcs])|refine al fun c9=>?_|(refine wo ?_;first|(refine ao ?_;first|refine oa ?_)|refine oa ?_|refine sr ?_)|(refine gc ?_;first|refine cf ?_)|refine sq ?_|refine rg ?_|refine xc ?_|refine nl ?_|refine sk ?_|refine bk ?_
 refine TC.im (gow_none _ (k + 1) (List.replicate (k + 1) 0)) ?_
 have hrun:=@hrunL p1 p2 p3
 clear hrunL hLv hR
 refine TC.range [lbd [lpt c9 [sv] TRs],lbd [lpt p1 [tv] TLs,lpt p2 [I k] TLI,lpt p3 [I n] TLI,vw tv (Is t)]] [oww TRt 3 sv (k + 1) (rcs (List.replicate (k + 1) 0) (hsE nS2 (List.replicate (k + 1) none))),gow (List.replicate (k + 1) none) (List.replicate (k + 1) 0)] (fun l2 rec Dm pend B'=>∃ g:SkG,B' = [dfr Dm,oww TRt 3 sv (k + 1) (rcs g.qs (hsE nS2 g.es)),gow g.es g.qs]∧pend = none∧SkI t k n (k + 1) g) ?_ ?_ (hp:=has1 (lbd_of (has1 hasA has0)) (has1 (lbd_of (has1 hasA (has1 hasA (has1 hasA (has1 hasA has0))))) has0))
 rotate_left
 ·rintro l2 rec Dm pend B' ⟨⟨qs,es⟩,rfl,rfl,hS⟩
  obtain ⟨e1,e2⟩:=hall _ hS
  have h1:=hS.ql
  have h2:=hS.el
  dsimp only at e1 e2 h1 h2 ⊢
  subst e1
  show TX env _ _ _ _ _ _
  refine TX.im (dfrl_nil _) ?_
  refine TX.im (dfrl_push (D:=Dm) (Ds:=[]) fitA) ?_
  repeat' first|(refine wo ?_;first|refine oa ?_|refine ld ?_)|refine sq ?_|refine rg ?_|refine xc ?_|refine nl ?_|refine rt ?_|refine xb ?_
  refine TX.im (Im.trans (Im.perm (List.perm_middle (l₁:=[dfrl [Dm],oww TRt 3 sv (k + 1) (rcs qs (hsE nS2 es))]))) (gow_ofr _ (by omega) e2)) ?_
  exact m2t (Ds:=[Dm]) ⟨sv,hsE nS2 es,rfl,hsv,by rw [hsE_len];exact h2,rfl⟩
 intro rec l2 Dm hr
 refine Tr.unb (hrun (α:=SkG) (lbd [lpt c9 [sv] TRs]) l2 (fun g=>bnd [lrc l2 rec .ready none,dfr Dm,oww TRt 3 sv (k + 1) (rcs g.qs (hsE nS2 g.es)),gow g.es g.qs]) (fun g j=>SkI t k n j g) (fun _=>False) ⟨List.replicate (k + 1) 0,List.replicate (k + 1) none⟩ hst0 (fun p=>bnd_nob (by repeat (first | exact nb0 | refine nb1 ?_))) ?_) ?_
 rotate_left
 ·rintro _ _ ⟨g,rfl,h | h⟩
  ·exact ⟨_,rfl,.ready,none,_,rfl,by decide,g,rfl,rfl,h⟩
  ·exact h.elim
 clear hrun hst0 hall
 rintro ⟨qs,es⟩ j v ez z hv hz hgr hS hj
 have hset:=hset j _ hS hj
 have hqs:=hS.ql
 have hes:=hS.el
 dsimp only at hset hqs hes ⊢
 refine Ty.bndK (K:=[grB n v (L j) ez z]) ?_
 refine Ty.pre (pre:=[lpt c9 [sv] TRs]) ?_ (has_lbds (C:=[lpt c9 [sv] TRs]) (List.Mem.head _) _ (by repeat (first | exact has00 | refine has01 ?_)) fun c hc=>hc) (by repeat (first | exact has00 | refine has01 ?_))
 refine Ty.intro env hr (by repeat (first | exact has00 | refine has01 ?_)) fun w1=>?_
 have hPl:=hPl v hv
 have hPF:=fun i hi=>hPF j (k - j) i hj hi
 have hXF:=fun i hi=>hXF j i hj hi
 rw [← hst j hj] at hset
 clear hst hS
 have hql:=hql j
 have hhl:(hsE z ez).length = (L j).length:=by rw [hsE_len,hgr.el,hgr.ql]
 generalize L j = x at *
 have hu:k - j < k + 1:=by omega
 generalize k - j = u at *
 repeat' first|refine al fun c11=>?_|refine srz ?_ (hj:=Nat.le_of_ble_eq_true rfl)|refine xbeg ?_|(refine wo ?_;first|refine sr ?_)|refine sq ?_|refine rg ?_|refine xc ?_|refine nl ?_|refine bk ?_
 rename_i c10
 have hul:=show u < qs.length by omega
 have hrs:=fun (q':Rat) (p':HV)=>rcs_setS (z:=nS2) (es:=es) (qs:=qs) (by omega) (i:=u) hul q' p'
 refine rs (fun w'=>w'.heap[c9]? = some (.cells [sv].toArray TRs (0,0))∧w'.heap[c10]? = some (.cells [I u].toArray TLI (0,0))∧∃ xs,SlW w' sv (k + 1) xs) ?_ (fun w' hw=>⟨lpt_at memA hw,pt_at memA hw,_,(has_oww (e:=TRt) (sz:=3) (v:=sv) (n:=k + 1) memA).P w' hw⟩)
 refine krl 0 (cs:=[sv]) (fun w' h=>h.1) ?_
 refine krl 1 (cs:=[I u]) (fun w' h=>h.2.1) ?_
 refine t1 2 ?_
 refine ca hW ?_
 rintro _ _ ⟨n1,d1,rfl,hn1,hd1,rfl⟩
 refine nl ?_
 refine te (fun w' hw=>⟨lpt_at memA hw,pt_at memA hw,_,(has_oww (e:=TRt) (sz:=3) (v:=sv) (n:=k + 1) memA).P w' hw⟩) ?_
 refine kr 3 (v:=.pointer (some (adr sv (3 * u)))) (hi:=rfl) (fun w' h=>by obtain ⟨xs,hx⟩:=h.2.2;exact R_idxW (E:=env) (i:=(u:Int)) rfl rfl rfl rfl hx ⟨by omega,by omega⟩) ?_
 refine t1 4 ?_
 refine sow (sz:=3) (m:=3 * u) (N:=k + 1) (xs:=rcs qs (hsE nS2 es)) (vs:=rrow 0 (n1,d1)) (by omega) ?_ (h1:=one_cons rfl (one_cons hn1 (one_cons hd1 one_nil)))
 refine nl ?_
 refine te (fun w' hw=>⟨lpt_at memA hw,pt_at memA hw,_,(has_oww (e:=TRt) (sz:=3) (v:=sv) (n:=k + 1) memA).P w' hw⟩) ?_
 refine t0 ?_
 refine id ?_
 repeat' first|(refine gca ?_;first|(refine ca hPl ?_;rintro _ _ ⟨bp,rfl,rfl⟩))|refine lda (cs:=[I n,v]) ?_|refine sq ?_|refine rg ?_|refine xc ?_|refine nl ?_|refine bk ?_
 refine TC.im (gow_set (es:=es) (qs:=qs) (by omega) (i:=u) hul 0 n1 d1 fitA) ?_
 rw [hrs,← psN_zero n u x]
 refine TC.fact (fun w hw i hi=>fr_one (hs:=hsE z ez) (qs:=x) (has_grB hgr memA).2 hhl (i:=i) hi w hw) fun hone=>?_
 have hrun2:=@SeqP.run _ _ _ _ _ _ _ (places1_seq bp n v x (hsE z ez) hhl hql hn hone)
 refine TC.rangeI (l0:=l2) (rec0:=rec) memA [lbd [lpt c9 [sv] TRs,lpt c10 [I u] TLI,vfr (hsE z ez) x],lbd [lpt bp [I n,v] TGr,vwf v ((n + 1) * (n + 1)) (rcs x (hsE z ez))]] [oww TRt 3 sv (k + 1) (rcs (qs.set u (psN n u x 0)) (hsE nS2 (es.set u (some (n1,d1))))),gow (es.set u (some (n1,d1))) (qs.set u (psN n u x 0))] (fun l3 rec3 pend B'=>∃ p:HV,B' = [oww TRt 3 sv (k + 1) (rcs (qs.set u (psN n u x ((n + 1) * (n + 1)))) (hsE nS2 (es.set u (some p)))),gow (es.set u (some p)) (qs.set u (psN n u x ((n + 1) * (n + 1))))]∧pend = none) ?_ ?_ (hp:=has1 (lbd_of (has1 hasA (has1 hasA (has1 (has_grB hgr memA).2 has0)))) (has1 (lbd_of (has1 hasA (has1 (has_grB hgr memA).1 has0))) has0))
 rotate_left
 ·rintro l3 rec3 pend B' ⟨p,rfl,rfl⟩
  rw [psN_all]
  have hsp:=hset p
  generalize stuckR n u x = sr' at *
  show TX env _ _ _ _ _ _
  repeat' first|refine xb ?_
  exact yn ⟨[lrc l2 rec .ready none,dfr Dm,oww TRt 3 sv (k + 1) (rcs (qs.set u sr') (hsE nS2 (es.set u (some p)))),gow (es.set u (some p)) (qs.set u sr')],[grB n v x ez z],rfl,.inl ⟨rfl,⟨qs.set u sr',es.set u (some p)⟩,rfl,hsp⟩⟩
 intro rec3 l3 hr3
 refine Tr.unb (hrun2 (α:=SkP) (lbd [lpt c9 [sv] TRs,lpt c10 [I u] TLI,vfr (hsE z ez) x]) l3 (fun g=>bnd [lrc l3 rec3 .ready none,oww TRt 3 sv (k + 1) (rcs (qs.set u (psN n u x g.i)) (hsE nS2 (es.set u (some g.p)))),gow (es.set u (some g.p)) (qs.set u (psN n u x g.i))]) (fun g i=>g.i = i∧g.p.1.oneCell' = true∧g.p.2.oneCell' = true) (fun _=>False) ⟨0,(n1,d1)⟩ ⟨rfl,hn1,hd1⟩ (fun p=>bnd_nob (by repeat (first | exact nb0 | refine nb1 ?_))) ?_) ?_
 rotate_left
 ·rintro _ _ ⟨g,rfl,⟨hi,_⟩ | h⟩
  ·exact ⟨_,rfl,.ready,none,_,rfl,by decide,g.p,by rw [hi],rfl⟩
  ·exact h.elim
 clear hrun2 hset hW hPl
 rintro ⟨i,p⟩ i' ⟨hii,hp1,hp2⟩ hi
 dsimp only at hii hp1 hp2
 subst hii
 refine Ty.bnd ?_
 refine Ty.pre (pre:=[lpt c9 [sv] TRs,lpt c10 [I u] TLI,vfr (hsE z ez) x]) ?_ (has_lbds (C:=[lpt c9 [sv] TRs,lpt c10 [I u] TLI,vfr (hsE z ez) x]) (List.Mem.head _) _ (by repeat (first | exact has00 | refine has01 ?_)) fun c hc=>hc) (by repeat (first | exact has00 | refine has01 ?_))
 refine Ty.intro env hr3 (by repeat (first | exact has00 | refine has01 ?_)) fun w2=>?_
 have hPi:=hPF i (by omega)
 have hXi:=hXF i hi
 have hin:=fun h=>psN_in (n:=n) (u:=u) (x:=x) (i:=i) h
 have hout:=fun h=>psN_out (n:=n) (u:=u) (x:=x) (i:=i) h
 have hgot:=fun (F:List Ch) (h:vfr (hsE z ez) x ∈ F)=>has_fr (has_mem h) hhl (i:=i) (by rw [hql];exact hi)
 have hx1:=hone i (by rw [hql];exact hi)
 clear hPF hXF hone
 dsimp only
 generalize (hsE z ez).getD i nS2 = hx at *
 obtain ⟨x1,x2⟩:=hx
 dsimp only at hx1 hgot
 obtain ⟨hx1,hx2⟩:=hx1
 generalize i / (n + 1) = c at *
 generalize i % (n + 1) = r at *
 generalize x.getD i 0 = y at *
 obtain ⟨q0,hq0⟩ : ∃ q0,q0 = psN n u x i:=⟨_,rfl⟩
 rw [← hq0] at hPi ⊢
 simp only [← hq0] at hin hout
 by_cases hc:u = 0∨r = 0
 rotate_left
 ·have ho:=hout hc
  repeat' first|refine al fun c13=>?_|refine srz ?_ (hj:=Nat.le_of_ble_eq_true rfl)|refine xbeg ?_|refine ixa (m:=2) (i:=1) ?_|(refine wo ?_;first|(refine ao ?_;first|refine oa ?_)|refine oa ?_|refine ld ?_|refine ldl ?_|refine gy ?_|(refine gsi (fun hB=>?_) (fun hB=>?_) <;> try (exfalso;omega)))|(refine gc ?_;first|(refine ci (fun hB=>?_) (fun hB=>?_) <;> try (exfalso;omega)))|refine sq ?_|refine rg ?_|refine xc ?_|refine nl ?_|refine sk ?_|refine bk ?_|refine xb ?_
  rw [← ho]
  exact yn ⟨⟨i + 1,p⟩,rfl,.inl ⟨rfl,rfl,hp1,hp2⟩⟩
 have hi1:=hin hc
 obtain ⟨pa,pb⟩:=p
 dsimp only at hp1 hp2 ⊢
 have hAdd:=fun lv=>FAdd2_tr q0 y lv pa pb x1 x2 hPi hXi
 rw [← hi1] at hAdd
 obtain ⟨q1,hq1⟩ : ∃ q1,q1 = psN n u x (i + 1):=⟨_,rfl⟩
 rw [← hq1] at hAdd
 unfold FQ2 at hAdd
 have hQs:(qs.set u q0).set u q1 = qs.set u q1:=List.set_set ..
 have hEs:∀ p',(es.set u (some (pa,pb))).set u p' = es.set u p':=fun p'=>List.set_set ..
 have hQl:(qs.set u q0).length = k + 1:=by rw [List.length_set,hqs]
 have hEl:(es.set u (some (pa,pb))).length = k + 1:=by rw [List.length_set,hes]
 have hQu:(qs.set u q0).getD u 0 = q0:=by rw [getD_setR _ _ _ _ hul,if_pos rfl]
 have hEu:(es.set u (some (pa,pb))).getD u none = some (pa,pb):=by rw [getD_setO _ _ _ _ (by omega),if_pos rfl]
 generalize qs.set u q0 = Q at *
 generalize es.set u (some (pa,pb)) = ES at *
 have hrow:=rcs_row (hs:=hsE nS2 ES) (qs:=Q) (by rw [hsE_len,hEl,hQl]) (i:=u) (by omega)
 rw [hQu,hsE_get (by omega),hEu] at hrow
 have hrs2:=fun (q':Rat) (p':HV)=>rcs_setS (z:=nS2) (es:=ES) (qs:=Q) (by omega) (i:=u) (by omega) q' p'
 have hgs:=fun (F:List Ch) (h:gow ES Q ∈ F)=>has_gowS (es:=ES) (qs:=Q) (by omega) h (i:=u) (by omega) hEu
 rw [hQu] at hgs
 dsimp only [Option.getD] at hrow
 dsimp only at hgs
 clear hin hout hrs hXi hPi
 by_cases hu0:u = 0
 ·repeat' first|refine al fun c13=>?_|refine srz ?_ (hj:=Nat.le_of_ble_eq_true rfl)|refine xbeg ?_|refine ixa (m:=2) (i:=1) ?_|(refine wo ?_;first|(refine ao ?_;first|refine oa ?_)|refine oa ?_|refine ldl ?_|refine gn ?_|(refine gsi (fun hB=>?_) (fun hB=>?_) <;> try (exfalso;omega)))|(refine gc ?_;first|refine ct ?_)|refine sq ?_|refine rg ?_|refine xc ?_|refine nl ?_|refine bk ?_
  refine rs (fun w'=>w'.heap[c9]? = some (.cells [sv].toArray TRs (0,0))∧w'.heap[c10]? = some (.cells [I u].toArray TLI (0,0))∧w'.heap[c13]? = some (.cells (rrow y (x1,x2)).toArray TRt (0,0))∧∃ xs,SlW w' sv (k + 1) xs) ?_ (fun w' hw=>⟨lpt_at memA hw,lpt_at memA hw,pt_at memA hw,_,(has_oww (e:=TRt) (sz:=3) (v:=sv) (n:=k + 1) memA).P w' hw⟩)
  refine krl 0 (cs:=[sv]) (fun w' h=>h.1) ?_
  refine krl 1 (cs:=[I u]) (fun w' h=>h.2.1) ?_
  refine krl 2 (cs:=[sv]) (fun w' h=>h.1) ?_
  refine krl 3 (cs:=[I u]) (fun w' h=>h.2.1) ?_
  refine kr 4 (v:=.pointer (some (adr sv (3 * u)))) (hi:=rfl) (fun w' h=>by obtain ⟨xs,hx⟩:=h.2.2.2;exact R_idxW (E:=env) (i:=(u:Int)) rfl rfl rfl rfl hx ⟨by omega,by omega⟩) ?_
  refine kr 6 (v:=.agg (rrow y (x1,x2)).toArray) (fun w' h=>R_loadA (E:=env) (vs:=rrow y (x1,x2)) rfl rfl rfl rfl h.2.2.1 rfl rfl) ?_
  refine t1 5 ?_
  refine ldaw (N:=k + 1) (xs:=rcs Q (hsE nS2 ES)) (m:=3 * u) hrow ?_ (hm:=has_oww memA)
  refine nl ?_
  refine te (fun w' hw=>⟨lpt_at memA hw,lpt_at memA hw,pt_at memA hw,_,(has_oww (e:=TRt) (sz:=3) (v:=sv) (n:=k + 1) memA).P w' hw⟩) ?_
  refine t1 7 ?_
  refine slws (sz:=3) (xs:=rrow q0 (pa,pb) ++ rrow y (x1,x2)) fun g2=>?_
  refine nl ?_
  refine te (fun w' hw=>⟨lpt_at memA hw,lpt_at memA hw,pt_at memA hw,_,(has_oww (e:=TRt) (sz:=3) (v:=sv) (n:=k + 1) memA).P w' hw⟩) ?_
  refine t1 8 ?_
  refine ca (hAdd _) ?_ (hp:=has1 (has_oww memA) (has1 (hgs _ memA).1 (has1 (hgs _ memA).2 (has1 (hgot _ memA).1 (has1 (hgot _ memA).2 has0)))))
  rintro _ _ ⟨n2,d2,rfl,hn2,hd2,rfl⟩
  refine nl ?_
  refine te (fun w' hw=>⟨lpt_at memA hw,lpt_at memA hw,pt_at memA hw,_,(has_oww (e:=TRt) (sz:=3) (v:=sv) (n:=k + 1) memA).P w' hw⟩) ?_
  refine kra 9 ?_
  refine kra 10 ?_
  refine kra 11 ?_
  refine kr 12 (v:=.pointer (some (adr sv (3 * u)))) (hi:=rfl) (fun w' h=>by obtain ⟨xs,hx⟩:=h.2.2.2;exact R_idxW (E:=env) (i:=(u:Int)) rfl rfl rfl rfl hx ⟨by omega,by omega⟩) ?_
  refine t1 13 ?_
  refine sow (sz:=3) (m:=3 * u) (N:=k + 1) (xs:=rcs Q (hsE nS2 ES)) (vs:=rrow q1 (n2,d2)) (by omega) ?_ (h1:=one_cons rfl (one_cons hn2 (one_cons hd2 one_nil)))
  refine nl ?_
  refine te (fun w' hw=>⟨lpt_at memA hw,lpt_at memA hw,pt_at memA hw,_,(has_oww (e:=TRt) (sz:=3) (v:=sv) (n:=k + 1) memA).P w' hw⟩) ?_
  refine t0 ?_
  repeat' first|refine xb ?_
  refine TX.im (gow_set (es:=ES) (qs:=Q) (by rw [hEl,hQl]) (i:=u) (by rw [hQl];exact hu) q1 n2 d2 fitA) ?_
  rw [hrs2 q1 (n2,d2),hQs,hEs,hq1]
  exact yn ⟨⟨i + 1,(n2,d2)⟩,rfl,.inl ⟨rfl,rfl,hn2,hd2⟩⟩
 have hr0:r = 0:=hc.resolve_left hu0
 repeat' first|refine al fun c13=>?_|refine srz ?_ (hj:=Nat.le_of_ble_eq_true rfl)|refine xbeg ?_|refine ixa (m:=2) (i:=1) ?_|(refine wo ?_;first|(refine ao ?_;first|refine oa ?_)|refine oa ?_|refine ld ?_|refine ldl ?_|refine gy ?_|(refine gsi (fun hB=>?_) (fun hB=>?_) <;> try (exfalso;omega)))|(refine gc ?_;first|(refine ci (fun hB=>?_) (fun hB=>?_) <;> try (exfalso;omega)))|refine sq ?_|refine rg ?_|refine xc ?_|refine nl ?_|refine bk ?_
 refine rs (fun w'=>w'.heap[c9]? = some (.cells [sv].toArray TRs (0,0))∧w'.heap[c10]? = some (.cells [I u].toArray TLI (0,0))∧w'.heap[c13]? = some (.cells (rrow y (x1,x2)).toArray TRt (0,0))∧∃ xs,SlW w' sv (k + 1) xs) ?_ (fun w' hw=>⟨lpt_at memA hw,lpt_at memA hw,pt_at memA hw,_,(has_oww (e:=TRt) (sz:=3) (v:=sv) (n:=k + 1) memA).P w' hw⟩)
 refine krl 0 (cs:=[sv]) (fun w' h=>h.1) ?_
 refine krl 1 (cs:=[I u]) (fun w' h=>h.2.1) ?_
 refine krl 2 (cs:=[sv]) (fun w' h=>h.1) ?_
 refine krl 3 (cs:=[I u]) (fun w' h=>h.2.1) ?_
 refine kr 4 (v:=.pointer (some (adr sv (3 * u)))) (hi:=rfl) (fun w' h=>by obtain ⟨xs,hx⟩:=h.2.2.2;exact R_idxW (E:=env) (i:=(u:Int)) rfl rfl rfl rfl hx ⟨by omega,by omega⟩) ?_
 refine kr 6 (v:=.agg (rrow y (x1,x2)).toArray) (fun w' h=>R_loadA (E:=env) (vs:=rrow y (x1,x2)) rfl rfl rfl rfl h.2.2.1 rfl rfl) ?_
 refine t1 5 ?_
 refine ldaw (N:=k + 1) (xs:=rcs Q (hsE nS2 ES)) (m:=3 * u) hrow ?_ (hm:=has_oww memA)
 refine nl ?_
 refine te (fun w' hw=>⟨lpt_at memA hw,lpt_at memA hw,pt_at memA hw,_,(has_oww (e:=TRt) (sz:=3) (v:=sv) (n:=k + 1) memA).P w' hw⟩) ?_
 refine t1 7 ?_
 refine slws (sz:=3) (xs:=rrow q0 (pa,pb) ++ rrow y (x1,x2)) fun g2=>?_
 refine nl ?_
 refine te (fun w' hw=>⟨lpt_at memA hw,lpt_at memA hw,pt_at memA hw,_,(has_oww (e:=TRt) (sz:=3) (v:=sv) (n:=k + 1) memA).P w' hw⟩) ?_
 refine t1 8 ?_
 refine ca (hAdd _) ?_ (hp:=has1 (has_oww memA) (has1 (hgs _ memA).1 (has1 (hgs _ memA).2 (has1 (hgot _ memA).1 (has1 (hgot _ memA).2 has0)))))
 rintro _ _ ⟨n2,d2,rfl,hn2,hd2,rfl⟩
 refine nl ?_
 refine te (fun w' hw=>⟨lpt_at memA hw,lpt_at memA hw,pt_at memA hw,_,(has_oww (e:=TRt) (sz:=3) (v:=sv) (n:=k + 1) memA).P w' hw⟩) ?_
 refine kra 9 ?_
 refine kra 10 ?_
 refine kra 11 ?_
 refine kr 12 (v:=.pointer (some (adr sv (3 * u)))) (hi:=rfl) (fun w' h=>by obtain ⟨xs,hx⟩:=h.2.2.2;exact R_idxW (E:=env) (i:=(u:Int)) rfl rfl rfl rfl hx ⟨by omega,by omega⟩) ?_
 refine t1 13 ?_
 refine sow (sz:=3) (m:=3 * u) (N:=k + 1) (xs:=rcs Q (hsE nS2 ES)) (vs:=rrow q1 (n2,d2)) (by omega) ?_ (h1:=one_cons rfl (one_cons hn2 (one_cons hd2 one_nil)))
 refine nl ?_
 refine te (fun w' hw=>⟨lpt_at memA hw,lpt_at memA hw,pt_at memA hw,_,(has_oww (e:=TRt) (sz:=3) (v:=sv) (n:=k + 1) memA).P w' hw⟩) ?_
 refine t0 ?_
 repeat' first|refine xb ?_
 refine TX.im (gow_set (es:=ES) (qs:=Q) (by rw [hEl,hQl]) (i:=u) (by rw [hQl];exact hu) q1 n2 d2 fitA) ?_
 rw [hrs2 q1 (n2,d2),hQs,hEs,hq1]
 exact yn ⟨⟨i + 1,(n2,d2)⟩,rfl,.inl ⟨rfl,rfl,hn2,hd2⟩⟩
end Go.Art
namespace Go.Art
open Go Go.Proofs Go.RowKit
def slSubW (sz:Nat):Value→Nat→Nat→Value
 | .slice a _ cap,lo,hi=>.slice (if cap = lo then a else a.map (·.add (lo * sz))) (hi - lo) (cap - lo)
 | v,_,_=>v
theorem SlW.sub {w:World} {v:Value} {n:Nat} {xs:List Value} (h:SlW w v n xs) {sz lo:Nat} (h1:lo ≤ n) (hx:xs.length ≤ n * sz):SlW w (slSubW sz v lo n) (n - lo) (xs.drop (lo * sz)):=by
 obtain ⟨a,cap,rfl,h2,h3,h4,h5⟩:=h
 refine ⟨if cap = lo then a else a.map (·.add (lo * sz)),cap - lo,rfl,by omega,by omega,fun h6=>?_,fun i u hi=>?_⟩
 ·obtain ⟨x,rfl⟩:=h4 (by omega)
  rw [if_neg (by omega)]
  exact ⟨_,rfl⟩
 ·rw [List.getElem?_drop] at hi
  obtain ⟨x,rfl,hc⟩:=h5 _ u hi
  have hlt:=(List.getElem?_eq_some_iff.1 hi).1
  have hne:¬ cap = lo:=fun e=>by
   have:lo = n:=by omega
   subst this
   omega
  rw [if_neg hne]
  refine ⟨x.add (lo * sz),rfl,?_⟩
  rw [Deep.add_add];exact hc
theorem has_subW {F:List Ch} {e:TypeId} {sz n lo m:Nat} {v:Value} {xs ys:List Value} (h:oww e sz v n xs ∈ F) (hx:xs.length ≤ n * sz) (hlo:lo ≤ n) (hm:n - lo = m) (hy:xs.drop (lo * sz) = ys):Has F (vwf (slSubW sz v lo n) m ys):=by
 subst hm hy
 refine ⟨fun w hw=>(OwnV.slw (hw.h (oww e sz v n xs) h)).sub hlo hx,fun _ h=>h,fun _ h=>h,fun b hb=>⟨_,h,?_⟩⟩
 rcases hb with hb | hb | ⟨_,hb⟩
 ·exact hb.elim
 ·exact hb.elim
 ·refine .inl ?_
  show v.ownBlock = some b
  cases v <;> try exact hb
  rename_i a l c
  cases a with
  | none=>simp [slSubW,Value.ownBlock] at hb
  | some a=>
   simp only [slSubW] at hb
   split at hb
   ·exact hb
   ·simp only [Option.map_some,Value.ownBlock,Option.some.injEq] at hb ⊢
    rw [← hb,add_block]
theorem ofr_uncons (h:HV) (hs:List HV) (q:Rat) (qs:List Rat) (F:List Ch):Im (ofr (h :: hs) (q :: qs) :: F) (own T64 h.2 (Us (dg q.den)) :: own T64 h.1 (Us (dg q.num.natAbs)) :: ofr hs qs :: F):=by
 show Im (owl T64 wU (h.1 :: h.2 :: hpc hs) (Zs (dg q.num.natAbs) :: Zs (dg q.den) :: pcl qs) :: F) (own T64 h.2 (Us (dg q.den)) :: own T64 h.1 (Us (dg q.num.natAbs)) :: owl T64 wU (hpc hs) (pcl qs) :: F)
 rw [Us_eq,Us_eq]
 refine (owl_uncons F).trans ?_
 refine (Im.perm (List.Perm.swap _ _ _)).trans ((owl_uncons _).trans ?_)
 exact Im.cons _ (Im.perm (List.Perm.swap _ _ _))
theorem ofr_pop {h:HV} {hs:List HV} {q:Rat} {qs:List Rat} {A F:List Ch} (hf:Fit A [ofr (h :: hs) (q :: qs)] F):Im A (own T64 h.2 (Us (dg q.den)) :: own T64 h.1 (Us (dg q.num.natAbs)) :: ofr hs qs :: F):=Im.trans hf (ofr_uncons h hs q qs F)
theorem foldl_sR:∀ (l:List Rat) (a:Rat),l.foldl (· + ·) a = a + sR id l
 | [],a=>(Rat.add_zero a).symm
 | x :: l,a=>by rw [List.foldl_cons,foldl_sR l];show a + x + sR id l = a + (x + sR id l);rw [Rat.add_assoc]
def failQ (t:List Int) (k n:Nat):Rat:=sR (fun u=>stT t k n (u + 1)) (List.range k)
theorem stL_drop (t:List Int) (k n:Nat):(stL t k n).drop 1 = (List.range k).map fun u=>stT t k n (u + 1):=by
 unfold stL
 rw [List.range_succ_eq_map,List.map_cons,List.drop_succ_cons,List.drop_zero,List.map_map]
 rfl
theorem stL_part (t:List Int) (k n i:Nat) (hi:i ≤ k):(((stL t k n).drop 1).take i).foldl (· + ·) 0 = sR (fun u=>stT t k n (u + 1)) (List.range i):=by
 rw [stL_drop,foldl_sR,Rat.zero_add,← List.map_take,List.take_range,Nat.min_eq_left hi,sR_map]
 rfl
theorem part_nat {t:List Int} {k:Nat} (hz:solE t k = 0) (n i:Nat) (hi:i ≤ k):∃ a,a ≤ oneS t k ^ n∧sR (fun u=>stT t k n (u + 1)) (List.range i) = (a:Rat) / ((oneS t k ^ n:Nat):Rat):=by
 have h1:=ripple_tab hz (fun u=>if 0 < u∧u ≤ i then 1 else 0) n
 have h2:=natG_tG (fun ls=>decide (0 < (largeL k ls).length∧(largeL k ls).length ≤ i)) (itemS t k) (oneS_pos hz) n [] 1
 have h3:=natG_leW (W:=fun ls=>decide (0 < (largeL k ls).length∧(largeL k ls).length ≤ i)) (V:=fun _=>true) (fun _ _=>rfl) (itemS t k) n [] 1
 rw [natG_all (itemS_sum hz),Nat.one_mul] at h3
 generalize natG (fun ls=>decide (0 < (largeL k ls).length∧(largeL k ls).length ≤ i)) (itemS t k) n [] 1 = a at *
 refine ⟨a,h3,?_⟩
 rw [sR_shift,if_neg (fun h=>Nat.lt_irrefl 0 h.1)] at h1
 obtain ⟨m,rfl⟩:=Nat.exists_eq_add_of_le hi
 rw [List.range_add,sR_app,sR_congr (l:=List.range i) (g:=fun u=>stT t (i + m) n (u + 1)) fun u hu=>by rw [if_pos ⟨Nat.succ_pos u,List.mem_range.1 hu⟩,Rat.one_mul],
  sR_congr (l:=(List.range m).map (i + ·)) (g:=fun _=>0) fun u hu=>by obtain ⟨a,_,rfl⟩:=List.mem_map.1 hu;rw [if_neg (by omega),Rat.zero_mul],sR_zero] at h1
 rw [tG_same (item_ev t (i + m))] at h2
 simp only [List.nil_append,decide_eq_true_eq] at h2
 rw [← h1] at h2
 have h0:=nz (Nat.ne_of_gt (Nat.pow_pos (n:=n) (Nat.pos_of_ne_zero (oneS_pos hz))))
 push_cast at h0 ⊢
 rw [h2,show ((1:Nat):Rat) = 1 from rfl]
 grind
theorem part_FB {t:List Int} {k n i:Nat} (hz:solE t k = 0) (hk:k ≤ 40) (hl:t.length ≤ 12) (hn:n ≤ 12) (hi:i ≤ k):FB (sR (fun u=>stT t k n (u + 1)) (List.range i)) 8589934592:=by
 obtain ⟨a,ha,he⟩:=part_nat hz n i hi
 rw [he]
 have h1:=oneS_lt hz hk hl
 have h2:oneS t k ^ n < 18446744073709551616 ^ 121:=by
  refine Nat.lt_of_le_of_lt (Nat.pow_le_pow_left (Nat.le_of_lt h1) n) ?_
  rw [← Nat.pow_mul]
  exact Nat.pow_lt_pow_right (by decide) (by omega)
 exact (FB_nat (B:=121) (Nat.ne_of_gt (Nat.pow_pos (Nat.pos_of_ne_zero (oneS_pos hz)))) (Nat.lt_of_le_of_lt ha h2) h2).le (by decide)
theorem st_FB {t:List Int} {k n u:Nat} (hz:solE t k = 0) (hk:k ≤ 40) (hl:t.length ≤ 12) (hn:n ≤ 12) (hu:u ≤ k):FB (stT t k n u) 8589934592:=by
 obtain ⟨B,hB⟩ : ∃ B,B = 20000:=⟨_,rfl⟩
 have hB9:B ≤ 8589934592:=by omega
 obtain ⟨b1,b2,b3,b4⟩:=lvT_facts hz hk hl hn hB (j:=k - u) (by omega)
 unfold stT
 rw [← psN_all]
 exact (FB_le1 (psN_fr b1 (Nat.le_refl _)) b3 (Rat.le_trans (psN_le b1 (Nat.le_refl _)) b2) b4).le hB9
section
variable {P:Program} {E:Env P} {n:Sh} {X:Cx} {s:List K} {fr:Fr} {A A':List Ch} {ops:Array Oper} {rest:List Oper} {d m N sz by_:Nat} {ty t t' el:TypeId} {pos:String} {after:Array Edge} {v u z:Value} {x y:Operand} {xs vs:List Value} {dt:TypeDesc} {k1 k':IntKind} {w:World}
theorem slw1 {lo:Nat} (k:TO E n X s ops rest ((d,slSubW sz v lo N) :: fr) A) (hlo:lo ≤ N) (hx:ev fr x = some v:=by rfl) (hy:ev fr y = some (.int k1 lo):=by rfl) (hm:Has A (vwf v N xs):=by exact hasA) (ht:lk E.und t = some (.slice el):=by rfl) (he:lk E.inf el = some (z,sz,by_):=by rfl) (hd:Nat.blt d n.n = true:=by rfl) :
  TO E n X s ops (⟨some d,.slice t x (some y) none none,ty,pos,after,none⟩ :: rest) fr A:=TO.val (v:=slSubW sz v lo N) (fun w h=>⟨fun a ha _ _ _ _=>by
 obtain ⟨a0,cap,rfl,h2,h3,_⟩:=(hm.P w h:SlW w v N xs)
 obtain ⟨inf,hi',_,hs,_⟩:=E.info he
 have hu:=run_underlying (P:=P) (E.un ht) w
 have hr:(Instr.sliceAt t (.slice a0 N cap) (some (.int k1 lo)) none none).run P w = .ok (slSubW sz (.slice a0 N cap) lo N) w:=by
  simp [Instr.sliceAt,Instr.slice,hu,Instr.sliceBounds,Instr.sliceBound,asIntOf,sizeOf,typeInfo,hi',hs,slSubW,hlo]
 simp only [execOp,ha.ev hx]
 simp [ha.ev hy,hr]⟩) k hd
end
def failV (t:List Int) (k n:Int):Fr3 × Int:=if ripE t k n = 0 then (rqf (failQ t k.toNat n.toNat),0) else (rqn,ripE t k n)
attribute [local irreducible] Fit pt own ro vw mpc lpt vels rels mow lrc dfr
attribute [local irreducible] lmp lme mit velg relg bnd owl dfrl gow shB grB
theorem Stuck_err (tv:Value) (t:List Int) (k n:Int) (h:ripE t k n ≠ 0):Tr Tryz.prog 18 [tv,I k,I n] [vw tv (Is t)] [] fun u D=>u = tup2 nS (I (ripE t k n))∧D = []:=by
 have hR:=riprefuses_tr tv t k n
 generalize ripE t k n = e at *
 refine Tr.enter env _ Tryz.func18 (by kernel_rfl) rfl Tryz.ntmps18 rfl (by repeat (first | exact has00 | refine has01 ?_)) fun w0=>?_
 repeat' first|(refine gca ?_;first|(refine ca hR ?_;rintro _ _ ⟨rfl,rfl⟩))|(refine wo ?_;first|(refine ao ?_;first|refine oa ?_)|refine oa ?_)|(refine gc ?_;first|(refine cn (fun hB=>?_) (fun hB=>?_) <;> try (exfalso;omega)))|refine sq ?_|refine rg ?_|refine xc ?_|refine nl ?_|refine rt ?_
 exact r2 ⟨rfl,rfl⟩
theorem Fail_ok (tv:Value) (htv:tv.oneCell' = true) (t:List Int) (k n:Nat) (hz:solE t k = 0) (hk:k ≤ 40) (hl:t.length ≤ 12) (hn:n ≤ 12):Tr Tryz.prog 20 [tv,I k,I n] [vw tv (Is t)] [] (FQ2 (failQ t k n) 0):=by
 have hS:=Stuck_tr tv htv t k n hz hk hl hn
 have hF1:=fun i (hi:i < k)=>st_FB hz hk hl hn (u:=i + 1) hi
 have hF2:=fun i (hi:i ≤ k)=>part_FB hz hk hl hn hi
 have hpart:=stL_part t k n
 have hget:=fun i (hi:i < k)=>stL_get (t:=t) (n:=n) (i:=i + 1) (Nat.succ_lt_succ hi)
 have hLL:=stL_len t k n
 have hq:failQ t k n = ((stL t k n).drop 1).foldl (· + ·) 0:=by
  have:=hpart k (Nat.le_refl k)
  rw [List.take_of_length_le (by rw [List.length_drop,hLL];omega)] at this
  exact this.symm
 rw [hq]
 clear hq
 generalize stL t k n = LL at *
 cases LL with
 | nil=>simp at hLL
 | cons q0 qs=>
 have hql:qs.length = k:=by simpa using hLL
 rw [List.drop_succ_cons,List.drop_zero] at hpart ⊢
 have hAdd:=fun v hs (hl':hs.length = qs.length)=>FAdd_tr v qs hs hl' (fun i hi=>by
  have:=hget i (by omega)
  rw [List.getD_cons_succ] at this
  rw [this];exact hF1 i (by omega)) (fun i hi=>by rw [hpart i (by omega)];exact hF2 i (by omega))
 clear hF1 hF2 hpart hget
 unfold FQ2 at hAdd ⊢
 rw [hql] at hAdd
 generalize qs.foldl (· + ·) (0:Rat) = p at *
 refine Tr.enter env _ Tryz.func20 (by kernel_rfl) rfl Tryz.ntmps20 rfl (by repeat (first | exact has00 | refine has01 ?_)) fun w0=>?_
 repeat' first|refine al fun c=>?_|refine srz ?_|refine (ca hS ?_) ; rintro _ _ ⟨v,hs,rfl,hv,hhs,rfl⟩|(refine wo ?_;first|(refine ao ?_;first|refine oa ?_)|refine oa ?_)|(refine gc ?_;first|refine cf ?_)|refine sq ?_|refine rg ?_|refine xc ?_|refine nl ?_|refine sk ?_
 obtain ⟨h0,hr,rfl⟩ : ∃ h0 hr,hs = h0 :: hr:=by cases hs with | nil=>simp at hhs | cons a b=>exact ⟨a,b,rfl⟩
 have hrl:hr.length = qs.length:=by simp at hhs;omega
 refine TO.im (ofr_pop (h:=h0) (hs:=hr) (q:=q0) (qs:=qs) fitA) ?_
 have hlen:(rcs (q0 :: qs) (h0 :: hr)).length ≤ (k + 1) * 3:=by rw [rcs_len (by simpa using hrl),List.length_cons,hql];exact Nat.le_refl _
 have hdr:(rcs (q0 :: qs) (h0 :: hr)).drop (1 * 3) = rcs qs hr:=rfl
 repeat' first|(refine gca ?_;first|(refine ca (hAdd _ hr (by omega)) ?_ (hp:=has1 (has_subW (e:=TRt) (sz:=3) memA hlen (by omega) (by omega) hdr) (has1 (has_ofr hrl memA) has0));rintro _ _ ⟨vn,vd,rfl,hvn,hvd,rfl⟩))|refine slw1 (sz:=3) (lo:=1) (N:=k + 1) ?_ (Nat.le_add_left 1 k) (hm:=has_oww memA)|refine srz ?_|(refine wo ?_;first|refine oa ?_)|refine xc ?_|refine nl ?_|refine rt ?_
 exact rca (cs:=[.bool (decide (p.num < 0)),vn,vd]) (vs:=[.bool (decide (p.num < 0)),vn,vd]) (T:=TRt) ⟨vn,vd,rfl,hvn,hvd,rfl⟩
theorem Fail_err (tv:Value) (t:List Int) (k n:Int) (h:ripE t k n ≠ 0):Tr Tryz.prog 20 [tv,I k,I n] [vw tv (Is t)] [] (FW (rqn,ripE t k n)):=by
 have hS:=Stuck_err tv t k n h
 refine Tr.mono (R:=fun u D=>u = tup2 rv0 (I (ripE t k n))∧D = [own T64 nS (Us []),own T64 nS (Us [])]) ?_ fun u D h=>FW.of0 h
 generalize ripE t k n = e at *
 refine Tr.enter env _ Tryz.func20 (by kernel_rfl) rfl Tryz.ntmps20 rfl (by repeat (first | exact has00 | refine has01 ?_)) fun w0=>?_
 repeat' first|(refine gca ?_;first|(refine ca hS ?_;rintro _ _ ⟨rfl,rfl⟩))|refine al fun c=>?_|refine bdz ?_|refine srz ?_|(refine wo ?_;first|(refine ao ?_;first|refine oa ?_)|refine oa ?_)|(refine gc ?_;first|(refine cn (fun hB=>?_) (fun hB=>?_) <;> try (exfalso;omega)))|refine sq ?_|refine rg ?_|refine xc ?_|refine nl ?_|refine rt ?_
 refine TX.im (own_nil T64 _) (TX.im (own_nil T64 _) ?_)
 exact rca (cs:=[.bool false,nS,nS]) (vs:=[.bool false,nS,nS]) (T:=TRt) ⟨rfl,rfl⟩
theorem Fail_tr (tv:Value) (htv:tv.oneCell' = true) (t:List Int) (k n:Int) (hk:k ≤ 40∨1024 < k) (hl:t.length ≤ 12) (hn:n ≤ 12∨4096 < n):Tr Tryz.prog 20 [tv,I k,I n] [vw tv (Is t)] [] (FW (failV t k n)):=by
 unfold failV
 by_cases h:ripE t k n = 0
 ·rw [if_pos h]
  obtain ⟨h1,h2,hz⟩:=ripE_zero h
  obtain ⟨kn,rfl⟩ : ∃ kn:Nat,k = kn:=⟨k.toNat,by omega⟩
  obtain ⟨nn,rfl⟩ : ∃ nn:Nat,n = nn:=⟨n.toNat,by omega⟩
  rw [Int.toNat_natCast,Int.toNat_natCast]
  exact Fail_ok tv htv t kn nn hz (by omega) hl (by omega)
 ·rw [if_neg h]
  exact Fail_err tv t k n h
end Go.Art
namespace Go.Art
open Go Go.Proofs Go.RowKit
theorem mk_one_num (n:Nat):(mkRat (n:Int) 1).num = n∧(mkRat (n:Int) 1).den = 1:=by
 have e:mkRat (n:Int) 1 = (n:Rat):=by rw [Rat.mkRat_eq_div];push_cast;rw [Rat.div_def];grind
 rw [e]
 exact ⟨Rat.num_natCast n,Rat.den_natCast n⟩
theorem mk_div1 (a c:Nat) (hc:c ≠ 0):mkRat (a:Int) 1 / mkRat (c:Int) 1 = mkRat (a:Int) c:=by
 have h:=nz hc
 rw [Rat.mkRat_eq_div,Rat.mkRat_eq_div,Rat.mkRat_eq_div]
 push_cast
 grind
theorem FB_whole {n B:Nat} (h:(dg n).length ≤ B) (hB:1 ≤ B):FB (mkRat (n:Int) 1) B:=by
 obtain ⟨e1,e2⟩:=mk_one_num n
 refine ⟨by rw [e1,Int.natAbs_natCast];exact h,by rw [e2];exact Nat.le_trans (dg_len1 (by decide)) hB⟩
theorem evI_zero (k:Nat) (ω:Nat→Rat) (u j:Nat):evI 0 k ω u j = 0:=rfl
theorem evI_succ (m k:Nat) (ω:Nat→Rat) (u j:Nat):evI (m + 1) k ω u j = evI m k ω u j + ω m * ((chs u j:Rat) * fillC (k - u) (m + 1) j):=by
 unfold evI
 rw [List.range_succ,sR_app]
 congr 1
 show _ + 0 = _
 rw [Rat.add_zero]
structure RqC where
 c:Nat
 n:Value
 d:Value
attribute [local irreducible] Fit pt own ro vw mpc lpt vels rels mow lrc dfr
attribute [local irreducible] lmp lme mit velg relg bnd owl dfrl evI evQ solE
theorem RC24_tr (tv:Value) (t:List Int) (k u:Nat) (hz:solE t k = 0) (hk:k ≤ 40) (hu:u ≤ k):Tr Tryz.prog 219 [tv,I k,I u] [vw tv (Is t)] [] fun v D=>v = I 0∧D = []:=by
 have hk1:=(solE_zero hz).1
 have hC:=RSoCheck_tr tv t k
 rw [hz] at hC
 clear hz
 refine Tr.enter env _ Tryz.func219 (by kernel_rfl) rfl Tryz.ntmps219 rfl (by repeat (first | exact has00 | refine has01 ?_)) fun w0=>?_
 repeat' first|(refine gca ?_;first|(refine ca hC ?_;rintro _ _ ⟨rfl,rfl⟩))|(refine wo ?_;first|(refine ao ?_;first|refine oa ?_)|refine oa ?_|refine gy ?_|(refine gsi (fun hB=>?_) (fun hB=>?_) <;> try (exfalso;omega)))|(refine gc ?_;first|refine cf ?_|(refine ci (fun hB=>?_) (fun hB=>?_) <;> try (exfalso;omega)))|refine sq ?_|refine rg ?_|refine xc ?_|refine nl ?_|refine sk ?_|refine rt ?_
 exact r1 ⟨rfl,rfl⟩
theorem Rwh24_tr (v:Value) (n:Nat) (hl:(dg n).length ≤ 100000):Tr Tryz.prog 220 [v] [vw v (Us (dg n))] [] (FQ (mkRat (n:Int) 1)):=by
 have hI:=RIMake_tr false v (dg n) (Dg_dg _) (by omega)
 rw [nv_dg,show sg false n = (n:Int) from rfl] at hI
 have hM:=fun o q=>RFMake_tr (n:Int) o q [1] (Dg.one (by decide)) (by unfold dz;rw [Int.natAbs_natCast];omega) (by decide) (by decide)
 rw [show nv [1] = 1 from rfl] at hM
 unfold IR at hI
 unfold FQ2 at hM
 unfold iv dz at hM
 rw [Int.natAbs_natCast] at hI hM
 unfold FQ
 generalize decide ((n:Int) < 0) = b at *
 generalize mkRat (n:Int) 1 = s at *
 generalize dg n = l at *
 refine Tr.enter env _ Tryz.func220 (by kernel_rfl) rfl Tryz.ntmps220 rfl (by repeat (first | exact has00 | refine has01 ?_)) fun w0=>?_
 repeat' first|(refine gca ?_;first|(refine ca hI ?_;rintro _ _ ⟨o,rfl,ho,rfl⟩)|(refine ca (hM o q) ?_;rintro _ _ ⟨vn,vd,rfl,hvn,hvd,rfl⟩))|refine al fun c=>?_|(refine slu [1] fun q hq=>?_)|refine lda ?_|refine srz ?_|(refine wo ?_;first|refine oa ?_)|refine sq ?_|refine rg ?_|refine xc ?_|refine nl ?_|refine rt ?_
 exact rca1 (cs:=[.bool (decide (s.num < 0)),vn,vd]) (vs:=[.bool (decide (s.num < 0)),vn,vd]) (T:=TRt) ⟨vn,vd,rfl,hvn,hvd,rfl⟩
theorem Rof_tr (k u j d:Nat) (hk:k ≤ 40) (hu:u ≤ k) (hj:j ≤ u) (h1:1 ≤ d) (hd:d ≤ k):Tr Tryz.prog 223 [I k,I u,I j,I d] [] [] (FQ (mkRat ((chs u j * fillN (k - u) d j:Nat):Int) (chs k d))):=by
 have hc0:chs k d ≠ 0:=chs_pos hd
 by_cases hdj:d < j∨k - u < d - j
 ·have e0:fillN (k - u) d j = 0:=by
   unfold fillN
   split
   ·exact chs_over (by omega)
   ·rfl
  rw [e0,Nat.mul_zero,show mkRat ((0:Nat):Int) (chs k d) = mkRat ((0:Nat):Int) 1 by simp]
  have hW:=Rwh24_tr nS 0 (by rw [dg_zero];exact Nat.zero_le _)
  rw [dg_zero] at hW
  unfold FQ at hW ⊢
  generalize mkRat ((0:Nat):Int) 1 = s at *
  clear hc0 e0
  rcases Nat.lt_or_ge d j with g | g
  ·refine Tr.enter env _ Tryz.func223 (by kernel_rfl) rfl Tryz.ntmps223 rfl (by repeat (first | exact has00 | refine has01 ?_)) fun w0=>?_
   repeat' first|(refine gca ?_;first|(refine ca hW ?_;rintro _ _ ⟨vn,vd,rfl,hvn,hvd,rfl⟩))|refine al fun c=>?_|refine srz ?_|(refine wo ?_;first|(refine ao ?_;first|refine oa ?_)|refine oa ?_|refine gn ?_|(refine gsi (fun hB=>?_) (fun hB=>?_) <;> try (exfalso;omega)))|(refine gc ?_;first|refine ct ?_)|refine sq ?_|refine rg ?_|refine xc ?_|refine nl ?_|refine rt ?_
   exact rca1 (cs:=[.bool (decide (s.num < 0)),vn,vd]) (vs:=[.bool (decide (s.num < 0)),vn,vd]) (T:=TRt) ⟨vn,vd,rfl,hvn,hvd,rfl⟩
  ·have g2:(k:Int) - u < (d:Int) - j:=by omega
   refine Tr.enter env _ Tryz.func223 (by kernel_rfl) rfl Tryz.ntmps223 rfl (by repeat (first | exact has00 | refine has01 ?_)) fun w0=>?_
   repeat' first|(refine gca ?_;first|(refine ca hW ?_;rintro _ _ ⟨vn,vd,rfl,hvn,hvd,rfl⟩))|refine al fun c=>?_|refine srz ?_|(refine wo ?_;first|(refine ao ?_;first|refine aw ?_|refine oa ?_)|refine oa ?_|refine gy ?_|refine gn ?_|(refine gsi (fun hB=>?_) (fun hB=>?_) <;> try (exfalso;omega)))|(refine gc ?_;first|refine ct ?_)|refine sq ?_|refine rg ?_|refine xc ?_|refine nl ?_|refine rt ?_
   exact rca1 (cs:=[.bool (decide (s.num < 0)),vn,vd]) (vs:=[.bool (decide (s.num < 0)),vn,vd]) (T:=TRt) ⟨vn,vd,rfl,hvn,hvd,rfl⟩
 ·obtain ⟨dj,hdj'⟩ : ∃ dj,d - j = dj:=⟨_,rfl⟩
  obtain ⟨ku,hku⟩ : ∃ ku,k - u = ku:=⟨_,rfl⟩
  have e1:fillN (k - u) d j = chs ku dj:=by unfold fillN;rw [if_pos (by omega),hdj',hku]
  rw [e1]
  have hA:=RChoose_tr u j (by omega) hj
  have hBc:=RChoose_tr ku dj (by omega) (by omega)
  have hC:=RChoose_tr k d (by omega) hd
  have hla:=chs_bnd u j
  have hlb:=chs_bnd ku dj
  have hlc:=chs_bnd k d
  have b40:∀ m,m ≤ 40→(2:Nat) ^ m ≤ 2 ^ 40:=fun m hm=>Nat.pow_le_pow_right (by decide) hm
  have hda:(dg (chs u j)).length ≤ 1:=dg_len1 (Nat.lt_of_le_of_lt (Nat.le_trans hla (b40 u (by omega))) (by decide))
  have hdb:(dg (chs ku dj)).length ≤ 1:=dg_len1 (Nat.lt_of_le_of_lt (Nat.le_trans hlb (b40 ku (by omega))) (by decide))
  have hdc:(dg (chs k d)).length ≤ 1:=dg_len1 (Nat.lt_of_le_of_lt (Nat.le_trans hlc (b40 k (by omega))) (by decide))
  have hab:(dg (chs u j * chs ku dj)).length ≤ 2:=dg_mul_len hda hdb
  have hM:=fun a b=>RMul_tr a b (dg (chs u j)) (dg (chs ku dj)) (Dg_dg _) (Dg_dg _) (by omega) (by omega)
  simp only [nv_dg] at hM
  have hW1:=fun v=>Rwh24_tr v (chs u j * chs ku dj) (by omega)
  have hW2:=fun v=>Rwh24_tr v (chs k d) (by omega)
  have hD:=fun v1 v2 v3 v4 g1 g2 g3 g4=>RFDiv_tr (mkRat ((chs u j * chs ku dj:Nat):Int) 1) (mkRat ((chs k d:Nat):Int) 1) v1 v2 v3 v4 g1 g2 g3 g4 (by rw [(mk_one_num _).1];omega) (FB_whole (by omega) (by decide)) (FB_whole (by omega) (by decide))
  rw [mk_div1 _ _ hc0] at hD
  unfold eNat at hA hBc hC
  unfold FQ at hW1 hW2 ⊢
  unfold FQ2 at hD
  clear hla hlb hlc b40 hda hdb hdc hab hc0 e1
  generalize mkRat ((chs u j * chs ku dj:Nat):Int) (chs k d) = s at *
  generalize mkRat ((chs u j * chs ku dj:Nat):Int) 1 = s1 at *
  generalize mkRat ((chs k d:Nat):Int) 1 = s2 at *
  generalize dg (chs u j * chs ku dj) = l1 at *
  generalize dg (chs k d) = l2 at *
  generalize dg (chs u j) = l3 at *
  generalize dg (chs ku dj) = l4 at *
  have g1:(k:Int) - u = ku:=by omega
  have g2:(d:Int) - j = dj:=by omega
  have g3:¬ (d:Int) < j:=by omega
  have g4:(dj:Int) ≤ ku:=by omega
  refine Tr.enter env _ Tryz.func223 (by kernel_rfl) rfl Tryz.ntmps223 rfl (by repeat (first | exact has00 | refine has01 ?_)) fun w0=>?_
  repeat' first|(refine gca ?_;first|(refine ca hA ?_;rintro _ _ ⟨o1,rfl,ho1,rfl⟩)|(refine ca hBc ?_;rintro _ _ ⟨o2,rfl,ho2,rfl⟩)|(refine ca hC ?_;rintro _ _ ⟨o3,rfl,ho3,rfl⟩)|(refine ca (hM o1 o2) ?_;rintro o4 _ ⟨ho4,rfl⟩)|(refine ca (hW1 o4) ?_;rintro _ _ ⟨n1,d1,rfl,hn1,hd1,rfl⟩)|(refine ca (hW2 o3) ?_;rintro _ _ ⟨n2,d2,rfl,hn2,hd2,rfl⟩)|(refine ca (hD n1 d1 n2 d2 hn1 hd1 hn2 hd2) ?_;rintro _ _ ⟨n3,d3,rfl,hn3,hd3,rfl⟩))|refine al fun c=>?_|(refine aw (m:=(ku:Int)) ?_ (h:=by rw [← g1];rfl))|(refine aw (m:=(dj:Int)) ?_ (h:=by rw [← g2];rfl))|refine lda ?_|refine srz ?_|(refine wo ?_;first|(refine ao ?_;first|refine oa ?_)|refine oa ?_|refine gy ?_|(refine gsi (fun hB=>?_) (fun hB=>?_) <;> try (exfalso;omega)))|(refine gc ?_;first|(refine ci (fun hB=>?_) (fun hB=>?_) <;> try (exfalso;omega)))|refine sq ?_|refine rg ?_|refine xc ?_|refine nl ?_|refine sk ?_|refine rt ?_
  exact rca1 (cs:=[.bool (decide (s.num < 0)),n3,d3]) (vs:=[.bool (decide (s.num < 0)),n3,d3]) (T:=TRt) ⟨n3,d3,rfl,hn3,hd3,rfl⟩
theorem RIn24_tr (tv:Value) (t:List Int) (k u j:Nat) (hz:solE t k = 0) (hk:k ≤ 40) (hl:t.length ≤ 12) (hu:u ≤ k) (hj:j ≤ u):Tr Tryz.prog 171 [tv,I k,I u,I j] [vw tv (Is t)] [] (FQ2 (evI t.length k (omg t k) u j) 0):=by
 obtain ⟨z1,z2,z3,z4⟩:=solE_zero hz
 have hsp:=sum_posT z3 z4
 have hsb:=(sum_wOk z3).2
 obtain ⟨T,hT⟩ : ∃ T:Nat,t.sum = T:=⟨t.sum.toNat,by omega⟩
 have hTb:T ≤ 268435456:=by
  have:(16777215:Int) * t.length ≤ 16777215 * 12:=by omega
  omega
 have hR:=RC24_tr tv t k u hz hk hu
 have hTot:=RSoTotal_tr tv t (by omega) z3
 rw [hT] at hTot
 have hW:=Rwh24_tr nS 0 (by rw [dg_zero];exact Nat.zero_le _)
 rw [dg_zero] at hW
 have hOf:=fun d h1 h2=>Rof_tr k u j d hk hu hj h1 h2
 have hterm:=fun i (hi:i < t.length)=>in_step (u:=u) (j:=j) hz hi
 have hTF:=fun i (hi:i < t.length)=>term_FB (u:=u) (j:=j) hz hk hl hu hi
 have hEF:=fun m (hm:m ≤ t.length)=>evI_FB (u:=u) (j:=j) hz hk hl hu hm
 have hS:=fun i=>evI_succ i k (omg t k) u j
 have hwt:∀ i,i < t.length→∃ w:Nat,t.getD i 0 = w∧w ≤ 16777215:=fun i hi=>by
  have hm:t.getD i 0 ∈ t:=by rw [List.getD_eq_getElem?_getD,List.getElem?_eq_getElem hi];exact List.getElem_mem hi
  have:=z3 _ hm
  exact ⟨(t.getD i 0).toNat,by omega,by omega⟩
 have hz0:mkRat ((0:Nat):Int) 1 = evI 0 k (omg t k) u j:=by rw [evI_zero];simp
 rw [hz0] at hW
 rw [show t.sum.toNat = T by omega] at hterm
 have hT0:T ≠ 0:=by omega
 have hOB:∀ d,d ≤ k→FB (mkRat ((chs u j * fillN (k - u) d j:Nat):Int) (chs k d)) 2:=fun d hd=>by
  refine FB_mk (chs_pos hd) (dg_mul_len (i:=1) (j:=1) (dg_len1 ?_) (dg_len1 ?_)) (Nat.le_trans (dg_len1 ?_) (by decide))
  ·exact Nat.lt_of_le_of_lt (Nat.le_trans (chs_bnd u j) (Nat.pow_le_pow_right (by decide) (show u ≤ 40 by omega))) (by decide)
  ·exact Nat.lt_of_le_of_lt (Nat.le_trans (fillN_le _ _ _) (Nat.pow_le_pow_right (by decide) (show k - u ≤ 40 by omega))) (by decide)
  ·exact Nat.lt_of_le_of_lt (Nat.le_trans (chs_bnd k d) (Nat.pow_le_pow_right (by decide) hk)) (by decide)
 unfold FQ at hW hOf
 unfold FQ2
 obtain ⟨ev,hev⟩ : ∃ ev:Nat→Rat,ev = fun m=>evI m k (omg t k) u j:=⟨_,rfl⟩
 have he:∀ m,evI m k (omg t k) u j = ev m:=fun m=>by rw [hev]
 simp only [he] at hW hEF hS ⊢
 clear hev he hz hz0 z3 z4
 refine Tr.enter env _ Tryz.func171 (by kernel_rfl) rfl Tryz.ntmps171 rfl (by repeat (first | exact has00 | refine has01 ?_)) fun w0=>?_
 refine TC.leni (v:=tv) (l:=t) fun htl=>?_
 repeat' first|(refine gca ?_;first|(refine ca hR ?_;rintro _ _ ⟨rfl,rfl⟩)|(refine ca hW ?_;rintro _ _ ⟨n0,d0,rfl,hn0,hd0,rfl⟩))|refine al fun c=>?_|refine srz ?_|(refine wo ?_;first|(refine ao ?_;first|refine oa ?_)|refine oa ?_|refine gy ?_)|(refine gc ?_;first|refine cf ?_|(refine ci (fun hB=>?_) (fun hB=>?_) <;> try (exfalso;omega)))|refine sq ?_|refine rg ?_|refine xc ?_|refine nl ?_|refine sk ?_|refine bk ?_
 rename_i c8
 refine TC.loop (ι:=RfG) (fun g=>[(12,I g.i)]) (fun g=>[pt c (rrow (ev g.i) (g.vn,g.vd)) TRt,own T64 g.vn (Us (dg (ev g.i).num.natAbs)),own T64 g.vd (Us (dg (ev g.i).den))]) (fun g=>g.i ≤ t.length∧g.vn.oneCell' = true∧g.vd.oneCell' = true) (fun g=>t.length - g.i) ⟨0,n0,d0⟩ [0,1,2,3,8,11] ⟨Nat.zero_le _,hn0,hd0⟩ ?_
 rintro ⟨i,vn,vd⟩ ⟨hi,hvn,hvd⟩
 dsimp only at hi hvn hvd ⊢
 by_cases hlt:i < t.length
 rotate_left
 ·obtain rfl:i = t.length:=by omega
  generalize ev t.length = p at *
  repeat' first|refine lda (cs:=rrow p (vn,vd)) ?_|refine srz ?_|refine srz ?_ (hj:=Nat.le_of_ble_eq_true rfl)|(refine wo ?_;first|(refine ao ?_;first|refine oa ?_)|refine oa ?_|refine lnm ?_)|(refine gc ?_;first|(refine ci (fun hB=>?_) (fun hB=>?_) <;> try (exfalso;omega)))|refine sq ?_|refine rg ?_|refine xc ?_|refine nl ?_|refine xe ?_|refine rt ?_
  exact rca (cs:=rrow p (vn,vd)) (vs:=rrow p (vn,vd)) (T:=TRt) ⟨vn,vd,rfl,hvn,hvd,rfl⟩
 obtain ⟨w,hw,hwb⟩:=hwt i hlt
 have hwc:(Is t)[i]? = some (I w):=by rw [← hw];simp [Is,List.getD_eq_getElem?_getD,hlt]
 have hOf1:=hOf (i + 1) (by omega) (by omega)
 have hOB1:=hOB (i + 1) (by omega)
 have hte:=hterm i hlt
 rw [hw] at hte
 have hTF1:=hTF i hlt
 rw [← hte] at hTF1
 have hS1:=hS i
 rw [← hte] at hS1
 have hE0:=hEF i (by omega)
 have hPr:=RFPair_tr w T (by omega) (by omega) hT0
 have hPB:FB (mkRat ((w:Nat):Int) T) 1:=FB_mk1 hT0 (by omega) (by omega)
 have hMul:=fun lv v1 v2 v3 v4=>RFMul2_tr (mkRat ((w:Nat):Int) T) (mkRat ((chs u j * fillN (k - u) (i + 1) j:Nat):Int) (chs k (i + 1))) lv v1 v2 v3 v4 (hPB.le (by decide)) (hOB1.le (by decide))
 have hAdd:=fun lv v1 v2 v3 v4=>RFAdd2_tr (ev i) (mkRat ((w:Nat):Int) T * mkRat ((chs u j * fillN (k - u) (i + 1) j:Nat):Int) (chs k (i + 1))) lv v1 v2 v3 v4 (hE0.le (by decide)) (hTF1.le (by decide))
 rw [← hS1] at hAdd
 unfold FQ2 at hPr hMul hAdd
 clear hOf hOB hterm hTF hS hEF hte hTF1 hS1 hE0 hOB1 hPB hwt
 generalize mkRat ((w:Nat):Int) T * mkRat ((chs u j * fillN (k - u) (i + 1) j:Nat):Int) (chs k (i + 1)) = m' at *
 generalize mkRat ((w:Nat):Int) T = w' at *
 generalize mkRat ((chs u j * fillN (k - u) (i + 1) j:Nat):Int) (chs k (i + 1)) = x at *
 generalize hpn:ev (i + 1) = pn at *
 generalize ev i = p at *
 have hix:(i:Int) + 1 = ((i + 1:Nat):Int):=rfl
 repeat' first|(refine wo ?_;first|(refine ao ?_;first|refine oa ?_)|refine oa ?_|refine lnm ?_)|(refine gc ?_;first|(refine ci (fun hB=>?_) (fun hB=>?_) <;> try (exfalso;omega)))|refine sq ?_|refine rg ?_|refine xc ?_|refine nl ?_|refine sk ?_|refine bk ?_
 refine cutY (ι:=RqC) (fun g=>g.n.oneCell' = true∧g.d.oneCell' = true) (fun g=>[(12,I i),(0,tv),(1,I k),(2,I u),(3,I j),(8,ptr c8),(11,ptr c),(13,ptr g.c)]) (fun g=>[pt g.c (rrow w' (g.n,g.d)) TRt,own T64 g.n (Us (dg w'.num.natAbs)),own T64 g.d (Us (dg w'.den)),pt c8 [.bool false,nS,nS] TRt,pt c (rrow p (vn,vd)) TRt,own T64 vn (Us (dg p.num.natAbs)),own T64 vd (Us (dg p.den)),vw tv (Is t)]) ?_ ?_
 ·rintro ⟨c13,wn,wd⟩ ⟨hwn,hwd⟩
  dsimp only at hwn hwd ⊢
  repeat' first|refine sq ?_
  refine cutY (ι:=RqC) (fun g=>g.n.oneCell' = true∧g.d.oneCell' = true) (fun g=>[(12,I i),(0,tv),(1,I k),(2,I u),(3,I j),(8,ptr c8),(11,ptr c),(15,ptr g.c)]) (fun g=>[pt g.c (rrow m' (g.n,g.d)) TRt,own T64 g.n (Us (dg m'.num.natAbs)),own T64 g.d (Us (dg m'.den)),pt c8 [.bool false,nS,nS] TRt,pt c (rrow p (vn,vd)) TRt,own T64 vn (Us (dg p.num.natAbs)),own T64 vd (Us (dg p.den)),vw tv (Is t)]) ?_ ?_
  ·rintro ⟨c15,mn,md⟩ ⟨hmn,hmd⟩
   dsimp only at hmn hmd ⊢
   repeat' first|(refine gca ?_;first|(refine ca (hAdd _ vn vd mn md) ?_ (hp:=has1 (has_oww memA) (has1 hasA (has1 hasA (has1 hasA (has1 hasA has0)))));rintro _ _ ⟨an,ad,rfl,han,had,rfl⟩))|refine lda ?_|refine srz ?_ (hj:=Nat.le_of_ble_eq_true rfl)|refine slws (sz:=3) (xs:=rrow p (vn,vd) ++ rrow m' (mn,md)) fun g3=>?_|(refine wo ?_;first|(refine ao ?_;first|refine aw ?_)|refine oa ?_)|refine rg ?_|refine xc ?_|refine nl ?_|refine xb ?_
   exact lp ⟨i + 1,an,ad⟩ ⟨hlt,han,had⟩ (hf:=by dsimp only;rw [hpn];exact fitA)
  ·intro b' kb
   refine rs (fun w0=>w0.heap[c13]? = some (.cells (rrow w' (wn,wd)).toArray TRt (0,0))) ?_ (fun w0 hw=>pt_at memA hw)
   refine tk 0 (v:=.agg (rrow w' (wn,wd)).toArray) (fun w0 h=>R_loadA (E:=env) (vs:=rrow w' (wn,wd)) rfl rfl rfl rfl h rfl rfl) ?_
   refine tka 1 ?_
   refine tka 2 ?_
   refine tka 3 ?_
   refine tka 4 ?_
   refine tkw 5 ((i + 1:Nat):Int) ?_
   refine t2 6 12 ?_ ?_
   ·refine ca hOf1 ?_
    rintro _ _ ⟨xn,xd,rfl,hxn,hxd,rfl⟩
    refine nl ?_
    refine te (fun w0 hw=>pt_at memA hw) ?_
    refine t2 7 12 ?_ ?_
    ·refine slws (sz:=3) (xs:=rrow w' (wn,wd) ++ rrow x (xn,xd)) fun g2=>?_
     refine nl ?_
     refine te (fun w0 hw=>pt_at memA hw) ?_
     refine t2 8 12 ?_ ?_
     ·refine ca (hMul _ wn wd xn xd) ?_ (hp:=has1 (has_oww memA) (has1 hasA (has1 hasA (has1 hasA (has1 hasA has0)))))
      rintro _ _ ⟨mn,md,rfl,hmn,hmd,rfl⟩
      refine nl ?_
      refine te (fun w0 hw=>pt_at memA hw) ?_
      refine tka 9 ?_
      refine tka 10 ?_
      refine tka 11 ?_
      refine t1 12 ?_
      refine al fun c15=>?_
      refine nl ?_
      refine te (fun w0 hw=>pt_at memA hw) ?_
      refine t1 13 ?_
      refine srz ?_
      refine nl ?_
      refine te (fun w0 hw=>pt_at memA hw) ?_
      refine tka 14 ?_
      refine t0 ?_
      repeat' first|refine xc ?_
      exact kb ⟨c15,mn,md⟩ ⟨hmn,hmd⟩ _ _ (by (repeat (refine Sub.cons rfl (by first | rfl | go_num) ?_));exact Sub.nil) fitA
     ·refine al fun c15=>?_
      refine nl ?_
      refine te (fun w0 hw=>pt_at memA hw) ?_
      refine t1 8 ?_
      refine ca (hMul _ wn wd xn xd) ?_ (hp:=has1 (has_oww memA) (has1 hasA (has1 hasA (has1 hasA (has1 hasA has0)))))
      rintro _ _ ⟨mn,md,rfl,hmn,hmd,rfl⟩
      refine nl ?_
      refine te (fun w0 hw=>pt_at memA hw) ?_
      refine tka 9 ?_
      refine tka 10 ?_
      refine tka 11 ?_
      refine t1 13 ?_
      refine srz ?_
      refine nl ?_
      refine te (fun w0 hw=>pt_at memA hw) ?_
      refine tka 14 ?_
      refine t0 ?_
      repeat' first|refine xc ?_
      exact kb ⟨c15,mn,md⟩ ⟨hmn,hmd⟩ _ _ (by (repeat (refine Sub.cons rfl (by first | rfl | go_num) ?_));exact Sub.nil) fitA
    ·refine al fun c15=>?_
     refine nl ?_
     refine te (fun w0 hw=>pt_at memA hw) ?_
     refine t1 7 ?_
     refine slws (sz:=3) (xs:=rrow w' (wn,wd) ++ rrow x (xn,xd)) fun g2=>?_
     refine nl ?_
     refine te (fun w0 hw=>pt_at memA hw) ?_
     refine t1 8 ?_
     refine ca (hMul _ wn wd xn xd) ?_ (hp:=has1 (has_oww memA) (has1 hasA (has1 hasA (has1 hasA (has1 hasA has0)))))
     rintro _ _ ⟨mn,md,rfl,hmn,hmd,rfl⟩
     refine nl ?_
     refine te (fun w0 hw=>pt_at memA hw) ?_
     refine tka 9 ?_
     refine tka 10 ?_
     refine tka 11 ?_
     refine t1 13 ?_
     refine srz ?_
     refine nl ?_
     refine te (fun w0 hw=>pt_at memA hw) ?_
     refine tka 14 ?_
     refine t0 ?_
     repeat' first|refine xc ?_
     exact kb ⟨c15,mn,md⟩ ⟨hmn,hmd⟩ _ _ (by (repeat (refine Sub.cons rfl (by first | rfl | go_num) ?_));exact Sub.nil) fitA
   ·refine al fun c15=>?_
    refine nl ?_
    refine te (fun w0 hw=>pt_at memA hw) ?_
    refine t1 6 ?_
    refine ca hOf1 ?_
    rintro _ _ ⟨xn,xd,rfl,hxn,hxd,rfl⟩
    refine nl ?_
    refine te (fun w0 hw=>pt_at memA hw) ?_
    refine t1 7 ?_
    refine slws (sz:=3) (xs:=rrow w' (wn,wd) ++ rrow x (xn,xd)) fun g2=>?_
    refine nl ?_
    refine te (fun w0 hw=>pt_at memA hw) ?_
    refine t1 8 ?_
    refine ca (hMul _ wn wd xn xd) ?_ (hp:=has1 (has_oww memA) (has1 hasA (has1 hasA (has1 hasA (has1 hasA has0)))))
    rintro _ _ ⟨mn,md,rfl,hmn,hmd,rfl⟩
    refine nl ?_
    refine te (fun w0 hw=>pt_at memA hw) ?_
    refine tka 9 ?_
    refine tka 10 ?_
    refine tka 11 ?_
    refine t1 13 ?_
    refine srz ?_
    refine nl ?_
    refine te (fun w0 hw=>pt_at memA hw) ?_
    refine tka 14 ?_
    refine t0 ?_
    repeat' first|refine xc ?_
    exact kb ⟨c15,mn,md⟩ ⟨hmn,hmd⟩ _ _ (by (repeat (refine Sub.cons rfl (by first | rfl | go_num) ?_));exact Sub.nil) fitA
 ·intro b' kb
  refine rs (fun w0=>Sl w0 tv (Is t)) ?_ (fun w0 hw=>has_sl (xs:=Is t) hw hasA)
  refine tka 0 ?_
  refine tka 1 ?_
  refine tk 2 (v:=.pointer (some (addrAt tv i))) (fun w0 h=>R_idx (E:=env) (i:=(i:Int)) rfl rfl rfl rfl h ⟨by omega,by rw [Is_len];omega⟩) ?_
  refine tk 3 (v:=I w) (fun w0 h=>R_load (E:=env) rfl rfl rfl (h.cell hwc)) ?_
  refine tka 4 ?_
  refine t2 5 10 ?_ ?_
  ·refine ca hTot ?_
   rintro _ _ ⟨rfl,rfl⟩
   refine nl ?_
   refine te (fun w0 hw=>has_sl (xs:=Is t) hw hasA) ?_
   refine t2 6 10 ?_ ?_
   ·refine ca hPr ?_
    rintro _ _ ⟨wn,wd,rfl,hwn,hwd,rfl⟩
    refine nl ?_
    refine te (fun w0 hw=>has_sl (xs:=Is t) hw hasA) ?_
    refine tka 7 ?_
    refine tka 8 ?_
    refine tka 9 ?_
    refine t1 10 ?_
    refine al fun c13=>?_
    refine nl ?_
    refine te (fun w0 hw=>has_sl (xs:=Is t) hw hasA) ?_
    refine t1 11 ?_
    refine srz ?_
    refine nl ?_
    refine te (fun w0 hw=>has_sl (xs:=Is t) hw hasA) ?_
    refine tka 12 ?_
    refine t0 ?_
    repeat' first|refine xc ?_
    exact kb ⟨c13,wn,wd⟩ ⟨hwn,hwd⟩ _ _ (by (repeat (refine Sub.cons rfl (by first | rfl | go_num) ?_));exact Sub.nil) fitA
   ·refine al fun c13=>?_
    refine nl ?_
    refine te (fun w0 hw=>has_sl (xs:=Is t) hw hasA) ?_
    refine t1 6 ?_
    refine ca hPr ?_
    rintro _ _ ⟨wn,wd,rfl,hwn,hwd,rfl⟩
    refine nl ?_
    refine te (fun w0 hw=>has_sl (xs:=Is t) hw hasA) ?_
    refine tka 7 ?_
    refine tka 8 ?_
    refine tka 9 ?_
    refine t1 11 ?_
    refine srz ?_
    refine nl ?_
    refine te (fun w0 hw=>has_sl (xs:=Is t) hw hasA) ?_
    refine tka 12 ?_
    refine t0 ?_
    repeat' first|refine xc ?_
    exact kb ⟨c13,wn,wd⟩ ⟨hwn,hwd⟩ _ _ (by (repeat (refine Sub.cons rfl (by first | rfl | go_num) ?_));exact Sub.nil) fitA
  ·refine al fun c13=>?_
   refine nl ?_
   refine te (fun w0 hw=>has_sl (xs:=Is t) hw hasA) ?_
   refine t1 5 ?_
   refine ca hTot ?_
   rintro _ _ ⟨rfl,rfl⟩
   refine nl ?_
   refine te (fun w0 hw=>has_sl (xs:=Is t) hw hasA) ?_
   refine t1 6 ?_
   refine ca hPr ?_
   rintro _ _ ⟨wn,wd,rfl,hwn,hwd,rfl⟩
   refine nl ?_
   refine te (fun w0 hw=>has_sl (xs:=Is t) hw hasA) ?_
   refine tka 7 ?_
   refine tka 8 ?_
   refine tka 9 ?_
   refine t1 11 ?_
   refine srz ?_
   refine nl ?_
   refine te (fun w0 hw=>has_sl (xs:=Is t) hw hasA) ?_
   refine tka 12 ?_
   refine t0 ?_
   repeat' first|refine xc ?_
   exact kb ⟨c13,wn,wd⟩ ⟨hwn,hwd⟩ _ _ (by (repeat (refine Sub.cons rfl (by first | rfl | go_num) ?_));exact Sub.nil) fitA
end Go.Art
namespace Go.Art
open Go Go.Proofs Go.RowKit
theorem rowQ_drop2 {t:List Int} {k u:Nat} (h:2 ≤ u):∃ q0 q1,rowQ t k u 0 = q0 :: q1 :: rowQ t k u 2:=by
 obtain ⟨m,rfl⟩ : ∃ m,u = m + 2:=⟨u - 2,by omega⟩
 refine ⟨evI t.length k (omg t k) (m + 2) (0 + 0),evI t.length k (omg t k) (m + 2) (0 + 1),?_⟩
 unfold rowQ
 rw [show m + 2 + 1 - 0 = (m + 1 + 1) + 1 by omega,List.range_succ_eq_map,List.map_cons,List.map_map,List.range_succ_eq_map,List.map_cons,List.map_map,show m + 2 + 1 - 2 = m + 1 by omega]
 refine congrArg _ (congrArg _ (List.map_congr_left fun i _=>?_))
 show evI t.length k (omg t k) (m + 2) (0 + (i + 1 + 1)) = evI t.length k (omg t k) (m + 2) (2 + i)
 congr 1;omega
structure RrG where
 i:Nat
 v:Value
 hs:List (Value × Value)
attribute [local irreducible] Fit pt own ro vw mpc lpt vels rels mow lrc dfr
attribute [local irreducible] lmp lme mit velg relg bnd owl dfrl evI evQ solE
theorem RRow24_tr (tv:Value) (t:List Int) (k u:Nat) (hz:solE t k = 0) (hk:k ≤ 40) (hl:t.length ≤ 12) (hu:u ≤ k):Tr Tryz.prog 270 [tv,I k,I u] [vw tv (Is t)] [] fun w D=>∃ v hs,w = tup2 v (I 0)∧v.oneCell' = true∧hs.length = u + 1∧D = [oww TRt 3 v (u + 1) (rcs (rowQ t k u 0) hs),ofr hs (rowQ t k u 0)]:=by
 have hR:=RC24_tr tv t k u hz hk hu
 have hIn:=fun j (hj:j ≤ u)=>RIn24_tr tv t k u j hz hk hl hu hj
 have hget:=fun i (hi:i < u + 1)=>rowQ_get (t:=t) (k:=k) (u:=u) (j:=0) (i:=i) (by omega)
 have hlen:=rowQ_len t k u 0
 simp only [Nat.zero_add] at hget
 generalize rowQ t k u 0 = L at *
 have hLl:L.length = u + 1:=by omega
 unfold FQ2 at hIn
 clear hz
 refine Tr.enter env _ Tryz.func270 (by kernel_rfl) rfl Tryz.ntmps270 rfl (by repeat (first | exact has00 | refine has01 ?_)) fun w0=>?_
 repeat' first|(refine gca ?_;first|(refine ca hR ?_;rintro _ _ ⟨rfl,rfl⟩))|(refine wo ?_;first|(refine ao ?_;first|refine oa ?_)|refine oa ?_)|(refine gc ?_;first|refine cf ?_)|refine sq ?_|refine rg ?_|refine xc ?_|refine nl ?_|refine sk ?_|refine bk ?_
 refine TC.im (oww_nil TRt 3 _) ?_
 refine TC.im (owl_nil (e:=T64) (g:=wU) _) ?_
 refine TC.loop (ι:=RrG) (fun g=>[(10,I g.i),(9,g.v)]) (fun g=>[oww TRt 3 g.v g.i (rcs (L.take g.i) g.hs),ofr g.hs (L.take g.i)]) (fun g=>g.i ≤ u + 1∧g.hs.length = g.i∧g.v.oneCell' = true) (fun g=>u + 1 - g.i) ⟨0,nS,[]⟩ [0,1,2] ⟨Nat.zero_le _,rfl,rfl⟩ ?_
 rintro ⟨i,v,hs⟩ ⟨hi,hhl,hv⟩
 dsimp only at hi hhl hv ⊢
 by_cases hlt:i < u + 1
 ·have hI:=hIn i (by omega)
  have htl:(L.take i).length = i:=by rw [List.length_take];omega
  have hsn:=(take_succ' (l:=L) (i:=i) (by omega) 0).symm
  rw [hget i hlt] at hsn
  clear hIn hget
  generalize evI t.length k (omg t k) u i = q at *
  have hrc:∀ x1 x2,rcs (L.take i) hs ++ rrow q (x1,x2) = rcs (L.take (i + 1)) (hs ++ [(x1,x2)]):=fun x1 x2=>by rw [← hsn,rcs_app (by omega),rcs_one]
  have hor:=fun x1 x2 (A F:List Ch) (hf:Fit A _ F)=>ofr_snoc (hs:=hs) (qs:=L.take i) (by omega) q x1 x2 hf
  rw [hsn] at hor
  repeat' first|(refine gca ?_;first|(refine ca hI ?_;rintro _ _ ⟨x1,x2,rfl,hx1,hx2,rfl⟩))|refine al fun c=>?_|refine srz ?_|refine lda ?_|refine slws (sz:=3) (xs:=rrow q (x1,x2)) fun g2=>?_|refine apw (e:=TRt) (sz:=3) (N:=i) (M:=1) (xs:=rcs (L.take i) hs) (ys:=rrow q (x1,x2)) (by decide) rfl (one_cons rfl (one_cons hx1 (one_cons hx2 one_nil))) (fun v' hv'=>?_)|(refine wo ?_;first|(refine ao ?_;first|refine aw ?_|refine oa ?_)|refine oa ?_)|(refine gc ?_;first|(refine ci (fun hB=>?_) (fun hB=>?_) <;> try (exfalso;omega)))|refine sq ?_|refine rg ?_|refine xc ?_|refine nl ?_|refine sk ?_|refine bk ?_|refine xb ?_
  refine TX.im (hor x1 x2 _ _ fitA) ?_
  rw [hrc]
  exact lp ⟨i + 1,v',hs ++ [(x1,x2)]⟩ ⟨hlt,by simp [hhl],hv'⟩
 ·obtain rfl:i = u + 1:=by omega
  rw [List.take_of_length_le (by omega)]
  repeat' first|(refine wo ?_;first|(refine ao ?_;first|refine oa ?_)|refine oa ?_)|(refine gc ?_;first|(refine ci (fun hB=>?_) (fun hB=>?_) <;> try (exfalso;omega)))|refine sq ?_|refine rg ?_|refine xc ?_|refine nl ?_|refine xe ?_|refine rt ?_
  exact r2 ⟨v,hs,rfl,hv,hhl,rfl⟩
theorem RCloud24_tr (tv:Value) (t:List Int) (k u:Nat) (hz:solE t k = 0) (hk:k ≤ 40) (hl:t.length ≤ 12) (hu:u ≤ k):Tr Tryz.prog 226 [tv,I k,I u] [vw tv (Is t)] [] (FQ2 (evQ t.length k (omg t k) u) 0):=by
 have hR:=RRow24_tr tv t k u hz hk hl hu
 by_cases hu2:2 ≤ u
 rotate_left
 ·have h0:evQ t.length k (omg t k) u = mkRat ((0:Nat):Int) 1:=by
   rw [evQ_sum,show u - 1 = 0 by omega]
   simp [sR]
  rw [h0]
  have hW:=Rwh24_tr nS 0 (by rw [dg_zero];exact Nat.zero_le _)
  rw [dg_zero] at hW
  unfold FQ at hW
  unfold FQ2
  generalize mkRat ((0:Nat):Int) 1 = q at *
  clear hz h0
  refine Tr.enter env _ Tryz.func226 (by kernel_rfl) rfl Tryz.ntmps226 rfl (by repeat (first | exact has00 | refine has01 ?_)) fun w0=>?_
  repeat' first|(refine gca ?_;first|(refine ca hR ?_;rintro _ _ ⟨v,hs,rfl,hv,hhs,rfl⟩)|(refine ca hW ?_;rintro _ _ ⟨n1,d1,rfl,hn1,hd1,rfl⟩))|refine al fun c=>?_|refine srz ?_|(refine wo ?_;first|(refine ao ?_;first|refine oa ?_)|refine oa ?_)|(refine gc ?_;first|refine cf ?_|(refine ci (fun hB=>?_) (fun hB=>?_) <;> try (exfalso;omega)))|refine sq ?_|refine rg ?_|refine xc ?_|refine nl ?_|refine sk ?_|refine rt ?_
  exact rca (cs:=[.bool (decide (q.num < 0)),n1,d1]) (vs:=[.bool (decide (q.num < 0)),n1,d1]) (T:=TRt) ⟨n1,d1,rfl,hn1,hd1,rfl⟩
 have hO:=oneS_lt hz hk hl
 have hQ:=rowQ_evQ t k u
 have hF1:∀ i,i < (rowQ t k u 2).length→FB ((rowQ t k u 2).getD i 0) 100000:=fun i hi=>by
  rw [rowQ_len] at hi
  rw [rowQ_get hi]
  exact (evI_FB hz hk hl hu (Nat.le_refl _)).le (by decide)
 have hF2:∀ i,i < (rowQ t k u 2).length→FB (((rowQ t k u 2).take i).foldl (· + ·) 0) 100000:=fun i hi=>by
  rw [rowQ_len] at hi
  rw [rowQ_sum t k u 2 i (by omega)]
  exact (FB_le1 (FrQ.sum fun j _=>evI_fr t.length k _ (oneS t k) u (2 + j)) (oneS_pos hz) (rowQ_le hz hu (by omega)) hO).le (by decide)
 have hql:=rowQ_len t k u 2
 obtain ⟨q0,q1,hcons⟩:=rowQ_drop2 (t:=t) (k:=k) hu2
 rw [hcons] at hR
 rw [← hQ]
 clear hQ hcons hO
 generalize rowQ t k u 2 = qs at *
 have hAdd:=fun v hs (hl':hs.length = qs.length)=>RFAdd_tr v qs hs hl' (by omega) hF1 hF2
 clear hF1 hF2
 unfold FQ2 at hAdd ⊢
 generalize qs.foldl (· + ·) (0:Rat) = p at *
 rw [show qs.length = u - 1 by omega] at hAdd
 clear hz
 refine Tr.enter env _ Tryz.func226 (by kernel_rfl) rfl Tryz.ntmps226 rfl (by repeat (first | exact has00 | refine has01 ?_)) fun w0=>?_
 repeat' first|(refine gca ?_;first|(refine ca hR ?_;rintro _ _ ⟨v,hs,rfl,hv,hhs,rfl⟩))|refine al fun c=>?_|refine srz ?_|(refine wo ?_;first|(refine ao ?_;first|refine oa ?_)|refine oa ?_)|(refine gc ?_;first|refine cf ?_|(refine ci (fun hB=>?_) (fun hB=>?_) <;> try (exfalso;omega)))|refine sq ?_|refine rg ?_|refine xc ?_|refine nl ?_|refine sk ?_
 obtain ⟨h0,h1,hr,rfl⟩ : ∃ h0 h1 hr,hs = h0 :: h1 :: hr:=by
  match hs,hhs with
  | a :: b :: c,_=>exact ⟨a,b,c,rfl⟩
  | [a],h=>simp at h;omega
  | [],h=>simp at h
 have hrl:hr.length = qs.length:=by simp at hhs;omega
 refine TO.im (ofr_pop (h:=h0) (hs:=h1 :: hr) (q:=q0) (qs:=q1 :: qs) fitA) ?_
 refine TO.im (ofr_pop (h:=h1) (hs:=hr) (q:=q1) (qs:=qs) fitA) ?_
 have hlen:(rcs (q0 :: q1 :: qs) (h0 :: h1 :: hr)).length ≤ (u + 1) * 3:=by rw [rcs_len (by simpa using hrl),List.length_cons,List.length_cons];omega
 have hdr:(rcs (q0 :: q1 :: qs) (h0 :: h1 :: hr)).drop (2 * 3) = rcs qs hr:=rfl
 repeat' first|(refine gca ?_;first|(refine ca (hAdd _ hr (by omega)) ?_ (hp:=has1 (has_subW (e:=TRt) (sz:=3) memA hlen (by omega) (by omega) hdr) (has1 (has_ofr hrl memA) has0));rintro _ _ ⟨vn,vd,rfl,hvn,hvd,rfl⟩))|refine slw1 (sz:=3) (lo:=2) (N:=u + 1) ?_ (by omega) (hm:=has_oww memA)|refine srz ?_|(refine wo ?_;first|refine oa ?_)|refine xc ?_|refine nl ?_|refine rt ?_
 exact rca (cs:=[.bool (decide (p.num < 0)),vn,vd]) (vs:=[.bool (decide (p.num < 0)),vn,vd]) (T:=TRt) ⟨vn,vd,rfl,hvn,hvd,rfl⟩
theorem RFree24_tr (tv:Value) (t:List Int) (k u:Nat) (hz:solE t k = 0) (hk:k ≤ 40) (hl:t.length ≤ 12) (h1:1 ≤ u) (hu:u ≤ k):Tr Tryz.prog 175 [tv,I k,I u] [vw tv (Is t)] [] (FQ2 (fT t k u) 0):=by
 have hC:=RCloud24_tr tv t k u hz hk hl hu
 have hO:=oneS_lt hz hk hl
 have hO0:=oneS_pos hz
 have hQ1:=evQ_le (m:=t.length) (k:=k) (ω:=omg t k) (fun i _=>omg_nonneg t k i) (tabX_one hz) hu
 have hQ0:=evQ_nonneg (m:=t.length) (k:=k) (ω:=omg t k) (fun i _=>omg_nonneg t k i) u
 have hQF:=evQ_fr t.length k (fun i=>wS t k (i + 1)) (oneS t k) u
 have hQB:FB (evQ t.length k (omg t k) u) 10:=FB_le1 hQF hO0 hQ1 hO
 unfold FQ2 at hC
 by_cases he:evQ t.length k (omg t k) u = 0
 ·have hf:fT t k u = mkRat ((0:Nat):Int) 1:=by unfold fT freeR;rw [if_pos he];simp
  rw [hf]
  have hW:=Rwh24_tr nS 0 (by rw [dg_zero];exact Nat.zero_le _)
  rw [dg_zero] at hW
  have hln:(dg (evQ t.length k (omg t k) u).num.natAbs).length = 0:=by rw [he,z_num];rfl
  unfold FQ at hW
  unfold FQ2
  generalize mkRat ((0:Nat):Int) 1 = z at *
  generalize evQ t.length k (omg t k) u = q at *
  generalize dg q.num.natAbs = ln at *
  clear hQF hQB hQ1 hQ0 he hf hO hz
  refine Tr.enter env _ Tryz.func175 (by kernel_rfl) rfl Tryz.ntmps175 rfl (by repeat (first | exact has00 | refine has01 ?_)) fun w0=>?_
  repeat' first|(refine gca ?_;first|(refine ca hC ?_;rintro _ _ ⟨n1,d1,rfl,hn1,hd1,rfl⟩)|(refine ca hW ?_;rintro _ _ ⟨n2,d2,rfl,hn2,hd2,rfl⟩))|refine al fun c=>?_|refine srz ?_|refine lda ?_|(refine wo ?_;first|(refine ao ?_;first|refine oa ?_)|refine oa ?_|refine ld ?_|refine lnm ?_)|(refine gc ?_;first|refine cf ?_|(refine ci (fun hB=>?_) (fun hB=>?_) <;> try (exfalso;omega)))|refine sq ?_|refine rg ?_|refine xc ?_|refine nl ?_|refine sk ?_|refine rt ?_
  exact rca (cs:=[.bool (decide (z.num < 0)),n2,d2]) (vs:=[.bool (decide (z.num < 0)),n2,d2]) (T:=TRt) ⟨n2,d2,rfl,hn2,hd2,rfl⟩
 ·have hu2:2 ≤ u:=by
   rcases Nat.lt_or_ge u 2 with h | h
   ·exact absurd (by rw [evQ_sum,show u - 1 = 0 by omega];rfl) he
   ·exact h
  obtain ⟨hs,hpos⟩:=num_sign hQ0 he
  have hP:=RFPair_tr 2 u (by decide) (by omega) (by omega)
  have hI:=RIn24_tr tv t k u 2 hz hk hl hu hu2
  have hIB:=(evI_FB (j:=2) hz hk hl hu (Nat.le_refl _)).le (show 12 ≤ 100000 by decide)
  have hF1:FB (mkRat ((2:Nat):Int) u) 100000:=(FB_mk1 (by omega) (by decide) (by omega)).le (by decide)
  have hMul:=fun lv v1 v2 v3 v4=>RFMul2_tr (mkRat ((2:Nat):Int) u) (evI t.length k (omg t k) u 2) lv v1 v2 v3 v4 hF1 hIB
  have hXB:FB (mkRat ((2:Nat):Int) u * evI t.length k (omg t k) u 2) 12:=by
   obtain ⟨a,ha,hq⟩:=(evI_fr t.length k (fun i=>wS t k (i + 1)) (oneS t k) u 2).le hO0 (evI_le1 hz hu hu2)
   have e:mkRat ((2:Nat):Int) u * evI t.length k (omg t k) u 2 = ((2 * a:Nat):Rat) / ((u * oneS t k:Nat):Rat):=by
    rw [hq,two_mk]
    have z1:=nz hO0
    have z2:=nz (show u ≠ 0 by omega)
    push_cast;grind
   rw [e]
   refine FB_nat (Nat.mul_ne_zero (by omega) hO0) ?_ ?_
   ·exact Nat.lt_of_le_of_lt (Nat.mul_le_mul_left 2 (Nat.le_trans ha (Nat.le_of_lt hO))) (by decide)
   ·exact Nat.lt_of_le_of_lt (Nat.mul_le_mul (show u ≤ 40 by omega) (Nat.le_of_lt hO)) (by decide)
  have hD:=fun v1 v2 v3 v4 g1 g2 g3 g4=>RFDiv_tr (mkRat ((2:Nat):Int) u * evI t.length k (omg t k) u 2) (evQ t.length k (omg t k) u) v1 v2 v3 v4 g1 g2 g3 g4 hpos (hXB.le (by decide)) (hQB.le (by decide))
  have hf:fT t k u = mkRat ((2:Nat):Int) u * evI t.length k (omg t k) u 2 / evQ t.length k (omg t k) u:=by unfold fT freeR;rw [if_neg he,two_mk]
  rw [hf]
  have hln:(dg (evQ t.length k (omg t k) u).num.natAbs).length ≠ 0:=by have:=dg_len_pos (n:=(evQ t.length k (omg t k) u).num.natAbs) (by omega);omega
  unfold FQ2 at hP hI hMul hD ⊢
  clear hQF hQB hQ1 hQ0 he hf hO hXB hF1 hIB hs hpos hO0
  generalize mkRat ((2:Nat):Int) u * evI t.length k (omg t k) u 2 / evQ t.length k (omg t k) u = p at *
  generalize mkRat ((2:Nat):Int) u * evI t.length k (omg t k) u 2 = m at *
  generalize mkRat ((2:Nat):Int) u = x at *
  generalize evI t.length k (omg t k) u 2 = y at *
  generalize evQ t.length k (omg t k) u = q at *
  clear hz
  refine Tr.enter env _ Tryz.func175 (by kernel_rfl) rfl Tryz.ntmps175 rfl (by repeat (first | exact has00 | refine has01 ?_)) fun w0=>?_
  repeat' first|(refine gca ?_;first|(refine ca hC ?_;rintro _ _ ⟨n1,d1,rfl,hn1,hd1,rfl⟩)|(refine ca hI ?_;rintro _ _ ⟨n2,d2,rfl,hn2,hd2,rfl⟩)|(refine ca hP ?_;rintro _ _ ⟨n3,d3,rfl,hn3,hd3,rfl⟩)|(refine ca (hMul _ n3 d3 n2 d2) ?_ (hp:=has1 (has_oww memA) (has1 hasA (has1 hasA (has1 hasA (has1 hasA has0)))));rintro _ _ ⟨n4,d4,rfl,hn4,hd4,rfl⟩)|(refine ca (hD n4 d4 n1 d1 hn4 hd4 hn1 hd1) ?_;rintro _ _ ⟨n5,d5,rfl,hn5,hd5,rfl⟩))|refine al fun c=>?_|refine srz ?_|refine lda ?_|refine slws (sz:=3) (xs:=rrow x (n3,d3) ++ rrow y (n2,d2)) fun g2=>?_|(refine wo ?_;first|(refine ao ?_;first|refine oa ?_)|refine oa ?_|refine ld ?_|refine lnm ?_)|(refine gc ?_;first|refine cf ?_|(refine ci (fun hB=>?_) (fun hB=>?_) <;> try (exfalso;omega)))|refine sq ?_|refine rg ?_|refine xc ?_|refine nl ?_|refine sk ?_|refine rt ?_
  exact rca (cs:=[.bool (decide (p.num < 0)),n5,d5]) (vs:=[.bool (decide (p.num < 0)),n5,d5]) (T:=TRt) ⟨n5,d5,rfl,hn5,hd5,rfl⟩
end Go.Art
namespace Go.Art
open Go Go.Proofs Go.RowKit
theorem gd_set {α:Type} (l:List α) (i j:Nat) (v z:α):(l.set i v).getD j z = if j = i∧i < l.length then v else l.getD j z:=by
 rw [List.getD_eq_getElem?_getD,List.getElem?_set,List.getD_eq_getElem?_getD]
 by_cases e:i = j
 ·subst e
  by_cases h:i < l.length
  ·rw [if_pos rfl,if_pos h,if_pos ⟨rfl,h⟩];rfl
  ·rw [if_pos rfl,if_neg h,if_neg (fun g=>h g.2),List.getElem?_eq_none (by omega)]
 ·rw [if_neg e,if_neg fun g=>e g.1.symm]
structure GM (N:Nat) (C:Nat→Nat) where
 h:List Value
 c:List (List Value)
 m:List (List Nat)
 hl:h.length = N
 cl:c.length = N
 ml:m.length = N
 cc:∀ i,i < N→(c.getD i []).length = C i
 mc:∀ i,i < N→(m.getD i []).length = C i
def GM.get {N:Nat} {C:Nat→Nat} (G:GM N C) (i j:Nat):Nat:=(G.m.getD i []).getD j 0
def GM.put {N:Nat} {C:Nat→Nat} (G:GM N C) (i j:Nat) (o:Value) (x:Nat):GM N C:=⟨G.h,G.c.set i ((G.c.getD i []).set j o),G.m.set i ((G.m.getD i []).set j x),G.hl,by rw [List.length_set,G.cl],by rw [List.length_set,G.ml],
 fun a ha=>by
  rw [gd_set]
  split
  ·rename_i e;rw [List.length_set,G.cc i (by have:=e.2;rw [G.cl] at this;exact this),e.1]
  ·exact G.cc a ha,
 fun a ha=>by
  rw [gd_set]
  split
  ·rename_i e;rw [List.length_set,G.mc i (by have:=e.2;rw [G.ml] at this;exact this),e.1]
  ·exact G.mc a ha⟩
theorem GM.get_put {N:Nat} {C:Nat→Nat} (G:GM N C) {i j:Nat} (hi:i < N) (hj:j < C i) (o:Value) (x a b:Nat):(G.put i j o x).get a b = if a = i∧b = j then x else G.get a b:=by
 unfold GM.get GM.put
 dsimp only
 rw [gd_set]
 by_cases e:a = i
 ·subst e
  rw [if_pos ⟨rfl,by rw [G.ml];exact hi⟩,gd_set]
  by_cases e2:b = j
  ·rw [if_pos ⟨e2,by rw [G.mc a hi];exact hj⟩,if_pos ⟨rfl,e2⟩]
  ·rw [if_neg fun g=>e2 g.1,if_neg fun g=>e2 g.2]
 ·rw [if_neg fun g=>e g.1,if_neg fun g=>e g.1]
abbrev numZ (ms:List Nat):List (List Int):=ms.map fun x=>Zs (dg x)
theorem numZ_get {ms:List Nat} {j:Nat} (h:j < ms.length):(numZ ms).getD j [] = Zs (dg (ms.getD j 0)):=by simp [List.getD_eq_getElem?_getD,h]
theorem numZ_set (ms:List Nat) (j x:Nat):(numZ ms).set j (Zs (dg x)) = numZ (ms.set j x):=by unfold numZ;rw [List.map_set]
def rwP (h:Value) (cs:List Value) (ms:List Nat):Ch:=bnd [own TN h cs,owl T64 wU cs (numZ ms)]
def rowG {N:Nat} {C:Nat→Nat} (G:GM N C) (i:Nat):Ch:=rwP (G.h.getD i nS) (G.c.getD i []) (G.m.getD i [])
def mxL {N:Nat} {C:Nat→Nat} (v:Value) (G:GM N C):List Ch:=own TNN v G.h :: (List.range N).map (rowG G)
def mxP {N:Nat} {C:Nat→Nat} (v:Value) (G:GM N C):Ch:=bnd (mxL v G)
theorem rwP_nb (h:Value) (cs:List Value) (ms:List Nat) (b:Nat):¬ (rwP h cs ms).bd b:=bnd_nob (by repeat (first | exact nb0 | refine nb1 ?_)) b
instance {N:Nat} {C:Nat→Nat} (v:Value) (G:GM N C):NoB (mxP v G):=⟨bnd_nob fun c hc b hb=>by
 rcases List.mem_cons.1 hc with rfl | hc
 ·exact hb
 ·obtain ⟨i,_,rfl⟩:=List.mem_map.1 hc
  exact rwP_nb _ _ _ b hb⟩
section
variable {N:Nat} {C:Nat→Nat} {v:Value} {G:GM N C} {F:List Ch}
theorem row_mem {i:Nat} (hi:i < N):rowG G i ∈ mxL v G:=List.mem_cons_of_mem _ (List.mem_map.2 ⟨i,List.mem_range.2 hi,rfl⟩)
theorem mx_h (h:mxP v G ∈ F):Has F (vw v G.h):=has_bndC h (has_own (e:=TNN) (List.Mem.head _))
theorem mx_r (h:mxP v G ∈ F) {i:Nat} (hi:i < N):Has F (vw (G.h.getD i nS) (G.c.getD i [])):=has_bndC h (has_bndC (row_mem hi) (has_own (e:=TN) (List.Mem.head _)))
theorem mx_e (h:mxP v G ∈ F) {i:Nat} (hi:i < N):Has F (velg wU (G.c.getD i []) (numZ (G.m.getD i []))):=
 has_bndC h (has_bndC (row_mem hi) (has_owl (e:=T64) (by rw [List.length_map,G.cc i hi,G.mc i hi]) (List.mem_cons_of_mem _ (List.Mem.head _))))
def vmL (v:Value) (G:GM N C):List Ch:=vw v G.h :: ((List.range N).map (fun i=>vw (G.h.getD i nS) (G.c.getD i [])) ++ (List.range N).map fun i=>velg wU (G.c.getD i []) (numZ (G.m.getD i [])))
def vmx (v:Value) (G:GM N C):Ch:=lbd (vmL v G)
instance (v:Value) (G:GM N C):Lent (vmx v G):=inferInstanceAs (Lent (lbd (vmL v G)))
theorem has_vmx (h:mxP v G ∈ F):Has F (vmx v G):=lbd_of fun c hc=>by
 rcases List.mem_cons.1 hc with rfl | hc
 ·exact mx_h h
 ·rcases List.mem_append.1 hc with hc | hc
  ·obtain ⟨i,hi,rfl⟩:=List.mem_map.1 hc
   exact mx_r h (List.mem_range.1 hi)
  ·obtain ⟨i,hi,rfl⟩:=List.mem_map.1 hc
   exact mx_e h (List.mem_range.1 hi)
theorem vm_h (h:Has F (vmx v G)):Has F (vw v G.h):=has_lbd h (List.Mem.head _)
theorem vm_r (h:Has F (vmx v G)) {i:Nat} (hi:i < N):Has F (vw (G.h.getD i nS) (G.c.getD i [])):=has_lbd h (List.mem_cons_of_mem _ (List.mem_append_left _ (List.mem_map.2 ⟨i,List.mem_range.2 hi,rfl⟩)))
theorem vm_e (h:Has F (vmx v G)) {i:Nat} (hi:i < N):Has F (velg wU (G.c.getD i []) (numZ (G.m.getD i []))):=has_lbd h (List.mem_cons_of_mem _ (List.mem_append_right _ (List.mem_map.2 ⟨i,List.mem_range.2 hi,rfl⟩)))
theorem vm_c (h:Has F (vmx v G)) {i j:Nat} (hi:i < N) (hj:j < C i):Has F (vw ((G.c.getD i []).getD j nS) (Us (dg (G.get i j)))):=by
 have h1:=has_elg (vm_e h hi) (i:=j) (by rw [List.length_map,G.mc i hi];exact hj)
 rw [numZ_get (by rw [G.mc i hi];exact hj)] at h1
 rw [Us_eq]
 exact h1
theorem vm_hw {rh:List Value} {w:World} (h:Has F (vmx v G)) (hw:Sat F w) (hh:G.h = rh:=by rfl):Sl w v rh:=by subst hh;exact (vm_h h).P w hw
theorem vm_rw {rh:List Value} {w:World} {i:Nat} (h:Has F (vmx v G)) (hw:Sat F w) (hi:i < N) (hh:G.h = rh:=by rfl):∃ xs,xs.length = C i∧Sl w (rh.getD i nS) xs:=by subst hh;exact ⟨_,G.cc i hi,(vm_r h hi).P w hw⟩
theorem gm_h {i:Nat} (hi:i < N):G.h[i]? = some (G.h.getD i nS):=by rw [List.getD_eq_getElem?_getD,List.getElem?_eq_getElem (by rw [G.hl];exact hi)];rfl
theorem gm_c {i j:Nat} (hi:i < N) (hj:j < C i):(G.c.getD i [])[j]? = some ((G.c.getD i []).getD j nS):=by rw [List.getD_eq_getElem?_getD (l:=G.c.getD i []),List.getElem?_eq_getElem (by rw [G.cc i hi];exact hj)];rfl
theorem mxL_put {i j:Nat} (hi:i < N) (o:Value) (x:Nat):(mxL v G).set (i + 1) (rwP (G.h.getD i nS) ((G.c.getD i []).set j o) ((G.m.getD i []).set j x)) = mxL v (G.put i j o x):=by
 unfold mxL
 rw [List.set_cons_succ]
 congr 1
 refine List.ext_getElem (by simp) fun a h1 h2=>?_
 have ha:a < N:=by simpa using h2
 rw [List.getElem_set,List.getElem_map,List.getElem_map,List.getElem_range]
 unfold rowG GM.put
 dsimp only
 rw [gd_set,gd_set]
 by_cases e:i = a
 ·subst e
  rw [if_pos rfl,if_pos ⟨rfl,by rw [G.cl];exact hi⟩,if_pos ⟨rfl,by rw [G.ml];exact hi⟩]
 ·rw [if_neg e,if_neg fun g=>e g.1.symm,if_neg fun g=>e g.1.symm]
end
section
variable {P:Program} {E:Env P} {n:Sh} {X:Cx} {s:List K} {fr:Fr} {A A':List Ch} {ops:Array Oper} {rest:List Oper} {ty t:TypeId} {pos:String} {after:Array Edge} {v z:Value} {x y:Operand} {N by_:Nat} {C:Nat→Nat} {G:GM N C}
theorem smx {i j q:Nat} {o:Value} (k:TO E n X s ops rest fr (mxP v (G.put i j o q) :: A')) (hf:Fit A [own T64 o (Us (dg q)),mxP v G] A') (hi:i < N) (hj:j < C i) (ho:o.oneCell' = true) (hx:ev fr x = some (.pointer (some (addrAt (G.h.getD i nS) j))):=by rfl) (hy:ev fr y = some o:=by rfl)
  (ht:lk E.inf t = some (z,1,by_):=by rfl):TO E n X s ops (⟨none,.store t x y,ty,pos,after,none⟩ :: rest) fr A:=by
 have hc:(mxL v G)[i + 1]? = some (rowG G i):=by
  unfold mxL
  rw [List.getElem?_cons_succ,List.getElem?_map,List.getElem?_range hi];rfl
 have hcl:(G.c.getD i []).length = (numZ (G.m.getD i [])).length:=by rw [List.length_map,G.cc i hi,G.mc i hi]
 have i1:Im A (own T64 o (Us (dg q)) :: rowG G i :: bnd ((mxL v G).eraseIdx (i + 1)) :: A'):=Im.trans hf (Im.cons _ (bnd_take hc A'))
 have i2:Im (own T64 o (Us (dg q)) :: rowG G i :: bnd ((mxL v G).eraseIdx (i + 1)) :: A') (own T64 o (Us (dg q)) :: own TN (G.h.getD i nS) (G.c.getD i []) :: owl T64 wU (G.c.getD i []) (numZ (G.m.getD i [])) :: bnd ((mxL v G).eraseIdx (i + 1)) :: A'):=Im.cons _ (un_bnd _ _)
 have i3:Im (own T64 o (Us (dg q)) :: own TN (G.h.getD i nS) (G.c.getD i []) :: owl T64 wU (G.c.getD i []) (numZ (G.m.getD i [])) :: bnd ((mxL v G).eraseIdx (i + 1)) :: A') (own TN (G.h.getD i nS) (G.c.getD i []) :: own T64 o (Us (dg q)) :: owl T64 wU (G.c.getD i []) (numZ (G.m.getD i [])) :: bnd ((mxL v G).eraseIdx (i + 1)) :: A'):=Im.perm (List.Perm.swap _ _ _)
 have i4:Im (own T64 o (Us (dg q)) :: owl T64 wU (G.c.getD i []) (numZ (G.m.getD i [])) :: bnd ((mxL v G).eraseIdx (i + 1)) :: A') (owl T64 wU ((G.c.getD i []).set j o) (numZ ((G.m.getD i []).set j q)) :: bnd ((mxL v G).eraseIdx (i + 1)) :: A'):=by
  rw [Us_eq,← numZ_set]
  exact owl_set hcl (i:=j) (by rw [List.length_map,G.mc i hi];exact hj) o (Zs (dg q)) _
 refine TO.im (i1.trans (i2.trans (i3.trans (Im.cons _ i4)))) ?_
 refine so (v:=G.h.getD i nS) (xs:=G.c.getD i []) (j:=j) (c:=o) (el:=TN) ?_ hx (Im.refl _) hy (by rw [G.cc i hi];exact hj) rfl ho ht
 have i5:Im (own TN (G.h.getD i nS) ((G.c.getD i []).set j o) :: owl T64 wU ((G.c.getD i []).set j o) (numZ ((G.m.getD i []).set j q)) :: bnd ((mxL v G).eraseIdx (i + 1)) :: A') (rwP (G.h.getD i nS) ((G.c.getD i []).set j o) ((G.m.getD i []).set j q) :: bnd ((mxL v G).eraseIdx (i + 1)) :: A'):=im_bnd [own TN (G.h.getD i nS) ((G.c.getD i []).set j o),owl T64 wU ((G.c.getD i []).set j o) (numZ ((G.m.getD i []).set j q))] _
 have i6:=bnd_put (C:=mxL v G) (i:=i + 1) (rwP (G.h.getD i nS) ((G.c.getD i []).set j o) ((G.m.getD i []).set j q)) (by unfold mxL;simp [hi]) A'
 rw [mxL_put hi] at i6
 exact TO.im (i5.trans i6) k
end
end Go.Art
namespace Go.Art
open Go Go.Proofs Go.RowKit
def shareN (many so up down all:Nat):Nat:=chs many so * up ^ so * (down - up) ^ (many - so) * down ^ (all - many)
def rowsL (hs:List Value) (cs:List (List Value)) (ms:List (List Nat)):List Ch:=(List.range ms.length).map fun a=>rwP (hs.getD a nS) (cs.getD a []) (ms.getD a [])
theorem gd_app {α:Type} (l:List α) (x z:α) {a:Nat} (h:a < l.length):(l ++ [x]).getD a z = l.getD a z:=by
 rw [List.getD_eq_getElem?_getD,List.getD_eq_getElem?_getD,List.getElem?_append_left h]
theorem gd_last {α:Type} (l:List α) (x z:α) {a:Nat} (h:a = l.length):(l ++ [x]).getD a z = x:=by
 subst h;simp [List.getD_eq_getElem?_getD]
theorem rowsL_snoc {hs:List Value} {cs:List (List Value)} {ms:List (List Nat)} (h1:hs.length = ms.length) (h2:cs.length = ms.length) (l:Value) (ls:List Value) (r:List Nat):rowsL (hs ++ [l]) (cs ++ [ls]) (ms ++ [r]) = rowsL hs cs ms ++ [rwP l ls r]:=by
 unfold rowsL
 rw [List.length_append,List.length_singleton,List.range_succ,List.map_append]
 congr 1
 ·refine List.map_congr_left fun a ha=>?_
  have:=List.mem_range.1 ha
  rw [gd_app _ _ _ (by omega),gd_app _ _ _ (by omega),gd_app _ _ _ this]
 ·rw [List.map_singleton,gd_last _ _ _ h1.symm,gd_last _ _ _ h2.symm,gd_last _ _ _ rfl]
theorem rows_snoc {hs:List Value} {cs:List (List Value)} {ms:List (List Nat)} (h1:hs.length = ms.length) (h2:cs.length = ms.length) (l:Value) (ls:List Value) (r:List Nat) {A F:List Ch} (hf:Fit A [own TN l ls,owl T64 wU ls (numZ r),bnd (rowsL hs cs ms)] F) :
  Im A (bnd (rowsL (hs ++ [l]) (cs ++ [ls]) (ms ++ [r])) :: F):=by
 rw [rowsL_snoc h1 h2]
 refine Im.trans hf ?_
 exact (im_bnd [own TN l ls,owl T64 wU ls (numZ r)] (bnd (rowsL hs cs ms) :: F)).trans (bnd_snoc (rwP l ls r) _ F)
theorem rows_nil (A:List Ch):Im A (bnd (rowsL [] [] []) :: A):=bnd_nil A
theorem rows_done {N:Nat} {C:Nat→Nat} (G:GM N C) (v:Value) {A F:List Ch} (hf:Fit A [own TNN v G.h,bnd (rowsL G.h G.c G.m)] F):Im A (mxP v G :: F):=by
 refine Im.trans hf ((bnd_cons (own TNN v G.h) _ F).trans ?_)
 show Im (bnd (own TNN v G.h :: rowsL G.h G.c G.m) :: F) (bnd (mxL v G) :: F)
 unfold rowsL mxL
 rw [G.ml]
 exact Im.refl _
def mkG {hs:List Value} {cs:List (List Value)} {ms:List (List Nat)} {N:Nat} {C:Nat→Nat} (h1:hs.length = N) (h2:cs.length = N) (h3:ms.length = N) (h4:∀ i,i < N→(ms.getD i []).length = C i) (h5:∀ i,i < N→(cs.getD i []).length = C i):GM N C:=⟨hs,cs,ms,h1,h2,h3,h5,h4⟩
def rowN (up down n i:Nat):List Nat:=(List.range (i + 1)).map fun j=>shareN i j up down n
theorem rowN_len (up down n i:Nat):(rowN up down n i).length = i + 1:=by simp [rowN]
theorem rowN_get (up down n:Nat) {i j:Nat} (h:j < i + 1):(rowN up down n i).getD j 0 = shareN i j up down n:=by simp [rowN,List.getD_eq_getElem?_getD,h]
def triN (up down n i:Nat):List (List Nat):=(List.range i).map (rowN up down n)
theorem triN_len (up down n i:Nat):(triN up down n i).length = i:=by simp [triN]
theorem triN_get (up down n:Nat) {i j:Nat} (h:j < i):(triN up down n i).getD j [] = rowN up down n j:=by simp [triN,List.getD_eq_getElem?_getD,h]
theorem triN_succ (up down n i:Nat):triN up down n (i + 1) = triN up down n i ++ [rowN up down n i]:=by unfold triN;rw [List.range_succ,List.map_append];rfl
theorem pow_dg {a L:Nat} (h:(dg a).length ≤ L):∀ i,(dg (a ^ i)).length ≤ L * i + 1
 | 0=>by rw [Nat.pow_zero,dg_1];exact Nat.le_add_left _ _
 | i + 1=>by rw [Nat.pow_succ];exact Nat.le_trans (dg_mul_len (pow_dg h i) h) (by rw [Nat.mul_succ];omega)
structure ShO where
 i:Nat
 v:Value
 hs:List Value
 cs:List (List Value)
structure ShJ where
 j:Nat
 l:Value
 ls:List Value
attribute [local irreducible] Fit pt own ro vw mpc lpt vels rels mow lrc dfr
attribute [local irreducible] lmp lme mit velg relg bnd owl dfrl
theorem Rpow_tr (v:Value) (a n:Nat) (ha:(dg a).length ≤ 12) (hn:n ≤ 12):Tr Tryz.prog 173 [v,I n] [vw v (Us (dg a))] [] fun u D=>u.oneCell' = true∧D = [own T64 u (Us (dg (a ^ n)))]:=by
 have hO:=ROf_tr 1 (by decide)
 have hpl:=pow_dg ha
 refine Tr.enter env _ Tryz.func173 (by kernel_rfl) rfl Tryz.ntmps173 rfl (by repeat (first | exact has00 | refine has01 ?_)) fun w0=>?_
 repeat' first|(refine gca ?_;first|(refine ca hO ?_;rintro o _ ⟨ho,rfl⟩))|(refine wo ?_;first|refine oa ?_)|refine sq ?_|refine rg ?_|refine xc ?_|refine nl ?_|refine bk ?_
 refine TC.loop (ι:=Nat × Value) (fun g=>[(6,I g.1),(5,g.2)]) (fun g=>[own T64 g.2 (Us (dg (a ^ g.1)))]) (fun g=>g.1 ≤ n∧g.2.oneCell' = true) (fun g=>n - g.1) (0,o) [0,1] ⟨Nat.zero_le _,ho⟩ ?_ (hf:=by dsimp only;rw [Nat.pow_zero];exact fitA)
 rintro ⟨i,o2⟩ ⟨hi,ho2⟩
 dsimp only at hi ho2 ⊢
 by_cases hlt:i < n
 ·have hM:=RMul_tr o2 v (dg (a ^ i)) (dg a) (Dg_dg _) (Dg_dg _) (by have:=hpl i;omega) (by omega)
  rw [nv_dg,nv_dg,← Nat.pow_succ] at hM
  clear hpl hO
  generalize dg (a ^ i) = l1 at *
  repeat' first|(refine gca ?_;first|(refine ca hM ?_;rintro o3 _ ⟨ho3,rfl⟩))|(refine wo ?_;first|(refine ao ?_;first|refine aw ?_|refine oa ?_)|refine oa ?_)|(refine gc ?_;first|(refine ci (fun hB=>?_) (fun hB=>?_) <;> try (exfalso;omega)))|refine sq ?_|refine rg ?_|refine xc ?_|refine nl ?_|refine sk ?_|refine bk ?_|refine xb ?_
  exact lp (i + 1,o3) ⟨hlt,ho3⟩
 ·obtain rfl:i = n:=by omega
  clear hpl hO
  repeat' first|(refine wo ?_;first|(refine ao ?_;first|refine oa ?_)|refine oa ?_)|(refine gc ?_;first|(refine ci (fun hB=>?_) (fun hB=>?_) <;> try (exfalso;omega)))|refine sq ?_|refine rg ?_|refine xc ?_|refine nl ?_|refine xe ?_|refine rt ?_
  exact r1 ⟨ho2,rfl⟩
theorem Rshare_tr (uv dv:Value) (many so up down all:Nat) (hso:so ≤ many) (hma:many ≤ all) (hal:all ≤ 12) (hup:up ≤ down) (hd:(dg down).length ≤ 12) :
  Tr Tryz.prog 174 [I many,I so,uv,dv,I all] [vw uv (Us (dg up)),vw dv (Us (dg down))] [] fun u D=>u.oneCell' = true∧D = [own T64 u (Us (dg (shareN many so up down all)))]:=by
 have hul:(dg up).length ≤ 12:=Nat.le_trans (dg_mono hup) hd
 have hll:(dg (down - up)).length ≤ 12:=Nat.le_trans (dg_mono (Nat.sub_le _ _)) hd
 have hC:=RChoose_tr many so (by omega) hso
 have hcl:(dg (chs many so)).length ≤ 1:=dg_len1 (Nat.lt_of_le_of_lt (Nat.le_trans (chs_bnd many so) (Nat.pow_le_pow_right (by decide) (show many ≤ 12 by omega))) (by decide))
 have hS:=RSub_tr dv uv (dg down) (dg up) (Dg_dg _) (Dg_dg _) (by omega) (by rw [nv_dg,nv_dg];exact hup)
 rw [nv_dg,nv_dg] at hS
 have hP1:=Rpow_tr uv up so hul (by omega)
 have hP2:=fun v=>Rpow_tr v (down - up) (many - so) hll (by omega)
 have hP3:=Rpow_tr dv down (all - many) hd (by omega)
 have p1:=pow_dg hul so
 have p2:=pow_dg hll (many - so)
 have p3:=pow_dg hd (all - many)
 have b12:∀ x,x ≤ 12→12 * x + 1 ≤ 145:=fun x hx=>by omega
 have q1:=b12 so (by omega)
 have q2:=b12 (many - so) (by omega)
 have q3:=b12 (all - many) (by omega)
 have m1:(dg (chs many so * up ^ so)).length ≤ 146:=Nat.le_trans (dg_mul_len hcl p1) (by omega)
 have m2:(dg (chs many so * up ^ so * (down - up) ^ (many - so))).length ≤ 300:=Nat.le_trans (dg_mul_len m1 p2) (by omega)
 have hM1:=fun a b=>RMul_tr a b (dg (chs many so)) (dg (up ^ so)) (Dg_dg _) (Dg_dg _) (by omega) (by omega)
 have hM2:=fun a b=>RMul_tr a b (dg (chs many so * up ^ so)) (dg ((down - up) ^ (many - so))) (Dg_dg _) (Dg_dg _) (by omega) (by omega)
 have hM3:=fun a b=>RMul_tr a b (dg (chs many so * up ^ so * (down - up) ^ (many - so))) (dg (down ^ (all - many))) (Dg_dg _) (Dg_dg _) (by omega) (by omega)
 simp only [nv_dg] at hM1 hM2 hM3
 unfold shareN
 unfold eNat at hC
 clear hul hll hcl p1 p2 p3 b12 q1 q2 q3 m1 m2 hd
 generalize dg (chs many so * up ^ so * (down - up) ^ (many - so) * down ^ (all - many)) = l1 at *
 generalize dg (chs many so * up ^ so * (down - up) ^ (many - so)) = l2 at *
 generalize dg (chs many so * up ^ so) = l3 at *
 generalize dg (chs many so) = l4 at *
 generalize dg (up ^ so) = l5 at *
 generalize dg ((down - up) ^ (many - so)) = l6 at *
 generalize dg (down ^ (all - many)) = l7 at *
 generalize dg (down - up) = l8 at *
 generalize dg down = l9 at *
 generalize dg up = l0 at *
 have g1:(many:Int) - so = ((many - so:Nat):Int):=by omega
 have g2:(all:Int) - many = ((all - many:Nat):Int):=by omega
 generalize many - so = ms at *
 generalize all - many = am at *
 have g3:ms ≤ 12∧am ≤ 12:=by omega
 refine Tr.enter env _ Tryz.func174 (by kernel_rfl) rfl Tryz.ntmps174 rfl (by repeat (first | exact has00 | refine has01 ?_)) fun w0=>?_
 repeat' first|(refine gca ?_;first|(refine ca hC ?_;rintro _ _ ⟨o1,rfl,ho1,rfl⟩)|(refine ca hS ?_;rintro _ _ ⟨o2,rfl,ho2,rfl⟩)|(refine ca hP1 ?_;rintro o3 _ ⟨ho3,rfl⟩)|(refine ca (hM1 o1 o3) ?_;rintro o4 _ ⟨ho4,rfl⟩)|(refine ca (hP2 o2) ?_;rintro o5 _ ⟨ho5,rfl⟩)|(refine ca (hM2 o4 o5) ?_;rintro o6 _ ⟨ho6,rfl⟩)|(refine ca hP3 ?_;rintro o7 _ ⟨ho7,rfl⟩)|(refine ca (hM3 o6 o7) ?_;rintro o8 _ ⟨ho8,rfl⟩))|(refine aw (m:=(ms:Int)) ?_ (h:=by rw [← g1];rfl))|(refine aw (m:=(am:Int)) ?_ (h:=by rw [← g2];rfl))|(refine wo ?_;first|refine oa ?_)|refine sq ?_|refine rg ?_|refine xc ?_|refine nl ?_|refine rt ?_
 exact r1 ⟨ho8,rfl⟩
theorem Rshares_tr (uv dv:Value) (up down n:Nat) (hn:n ≤ 12) (hup:up ≤ down) (hd:(dg down).length ≤ 12) :
  Tr Tryz.prog 178 [uv,dv,I n] [vw uv (Us (dg up)),vw dv (Us (dg down))] [] fun u D=>∃ G:GM (n + 1) (fun i=>i + 1),u.oneCell' = true∧(∀ i j,i ≤ n→j ≤ i→G.get i j = shareN i j up down n)∧D = [mxP u G]:=by
 have hS:=fun i j (hj:j ≤ i) (hi:i ≤ n)=>Rshare_tr uv dv i j up down n hj hi hn hup hd
 have hrl:=rowN_len up down n
 have hrg:=fun i j (hj:j < i + 1)=>rowN_get up down n hj
 have htl:=triN_len up down n
 have htg:=fun i j (hj:j < i)=>triN_get up down n hj
 have hts:=triN_succ up down n
 refine Tr.enter env _ Tryz.func178 (by kernel_rfl) rfl Tryz.ntmps178 rfl (by repeat (first | exact has00 | refine has01 ?_)) fun w0=>?_
 repeat' first|(refine wo ?_;first|refine oa ?_)|refine sq ?_|refine rg ?_|refine xc ?_|refine nl ?_|refine bk ?_
 refine TC.im (own_nil TNN _) (TC.im (rows_nil _) ?_)
 refine TC.loop (ι:=ShO) (fun g=>[(8,I g.i),(7,g.v)]) (fun g=>[own TNN g.v g.hs,bnd (rowsL g.hs g.cs (triN up down n g.i))]) (fun g=>g.i ≤ n + 1∧g.v.oneCell' = true∧g.hs.length = g.i∧g.cs.length = g.i∧∀ a,a < g.i→(g.cs.getD a []).length = a + 1) (fun g=>n + 1 - g.i) ⟨0,nS,[],[]⟩ [0,1,2] ⟨Nat.zero_le _,rfl,rfl,rfl,fun a h=>absurd h (Nat.not_lt_zero a)⟩ ?_
 rintro ⟨i,v,hs,cs⟩ ⟨hi,hv,hhl,hcl,hca⟩
 dsimp only at hi hv hhl hcl hca ⊢
 by_cases hlt:i < n + 1
 rotate_left
 ·obtain rfl:i = n + 1:=by omega
  repeat' first|(refine wo ?_;first|(refine ao ?_;first|refine oa ?_)|refine oa ?_)|(refine gc ?_;first|(refine ci (fun hB=>?_) (fun hB=>?_) <;> try (exfalso;omega)))|refine sq ?_|refine rg ?_|refine xc ?_|refine nl ?_|refine xe ?_|refine rt ?_
  refine TX.im (rows_done (mkG (C:=fun i=>i + 1) hhl hcl (htl (n + 1)) (fun a ha=>by rw [htg (n + 1) a ha];exact hrl a) hca) v fitA) ?_
  refine r1 ⟨_,hv,fun a b ha hb=>?_,rfl⟩
  show ((triN up down n (n + 1)).getD a []).getD b 0 = _
  rw [htg (n + 1) a (by omega),hrg a b (by omega)]
 repeat' first|(refine wo ?_;first|(refine ao ?_;first|refine oa ?_)|refine oa ?_)|(refine gc ?_;first|(refine ci (fun hB=>?_) (fun hB=>?_) <;> try (exfalso;omega)))|refine sq ?_|refine rg ?_|refine xc ?_|refine nl ?_|refine sk ?_|refine bk ?_
 refine TC.im (own_nil TN _) (TC.im (owl_nil (e:=T64) (g:=wU) _) ?_)
 refine TC.loop (ι:=ShJ) (fun g=>[(10,I g.j),(9,g.l)]) (fun g=>[own TN g.l g.ls,owl T64 wU g.ls (numZ ((rowN up down n i).take g.j))]) (fun g=>g.j ≤ i + 1∧g.l.oneCell' = true∧g.ls.length = g.j) (fun g=>i + 1 - g.j) ⟨0,nS,[]⟩ [0,1,2,7,8] ⟨Nat.zero_le _,rfl,rfl⟩ ?_
 rintro ⟨j,l,ls⟩ ⟨hj,hl,hll⟩
 dsimp only at hj hl hll ⊢
 by_cases hjt:j < i + 1
 ·have hS1:=hS i j (by omega) (by omega)
  have htk:numZ ((rowN up down n i).take (j + 1)) = numZ ((rowN up down n i).take j) ++ [Zs (dg (shareN i j up down n))]:=by
   rw [take_succ' (by rw [hrl];exact hjt) 0,hrg i j hjt];unfold numZ;rw [List.map_append];rfl
  have hnl:(numZ ((rowN up down n i).take j)).length = j:=by rw [List.length_map,List.length_take,hrl];omega
  rw [Us_eq (dg (shareN i j up down n))] at hS1
  clear hS hrg htg hts
  generalize Zs (dg (shareN i j up down n)) = zz at *
  generalize hz1:numZ ((rowN up down n i).take (j + 1)) = z1 at *
  generalize numZ ((rowN up down n i).take j) = z0 at *
  repeat' first|(refine gca ?_;first|(refine ca hS1 ?_;rintro o _ ⟨ho,rfl⟩))|(refine sli (vs:=[o]) (fun q2=>?_) (h1:=one_cons ho one_nil))|(refine ap (xs:=ls) (news:=[o]) (fun o2=>?_) (h1:=one_cons ho one_nil);refine TO.one (v:=o2) (xs:=ls ++ [o]) fun ho2=>?_)|(refine wo ?_;first|(refine ao ?_;first|refine aw ?_|refine oa ?_)|refine oa ?_)|(refine gc ?_;first|(refine ci (fun hB=>?_) (fun hB=>?_) <;> try (exfalso;omega)))|refine sq ?_|refine rg ?_|refine xc ?_|refine nl ?_|refine sk ?_|refine bk ?_|refine xb ?_
  refine TX.im (owl_push (e:=T64) (g:=wU) (hs:=ls) (ls:=z0) (v:=o) (l:=zz) (by omega) fitA) ?_
  exact lp ⟨j + 1,o2,ls ++ [o]⟩ ⟨hjt,ho2,by simp [hll]⟩ (hf:=by dsimp only;rw [hz1,htk];exact fitA)
 ·obtain rfl:j = i + 1:=by omega
  rw [List.take_of_length_le (by rw [hrl];exact Nat.le_refl _)]
  clear hS hrg
  repeat' first|(refine sli (vs:=[l]) (fun q3=>?_) (h1:=one_cons hl one_nil))|(refine ap (xs:=hs) (news:=[l]) (fun o4=>?_) (h1:=one_cons hl one_nil);refine TO.one (v:=o4) (xs:=hs ++ [l]) fun ho4=>?_)|(refine wo ?_;first|(refine ao ?_;first|refine aw ?_|refine oa ?_)|refine oa ?_)|(refine gc ?_;first|(refine ci (fun hB=>?_) (fun hB=>?_) <;> try (exfalso;omega)))|refine sq ?_|refine rg ?_|refine xc ?_|refine nl ?_|refine xe ?_|refine xb ?_
  refine TX.im (rows_snoc (hs:=hs) (cs:=cs) (ms:=triN up down n i) (by rw [htl];exact hhl) (by rw [htl];exact hcl) l ls (rowN up down n i) fitA) ?_
  rw [← hts]
  exact lp ⟨i + 1,o4,hs ++ [l],cs ++ [ls]⟩ ⟨hlt,ho4,by simp [hhl],by simp [hcl],fun a ha=>by
   dsimp only at ha ⊢
   by_cases e:a < i
   ·rw [gd_app _ _ _ (by omega)];exact hca a e
   ·rw [gd_last _ _ _ (by omega),hll];omega⟩
end Go.Art
