/- Texts put together: Dp Ja Jb Vj Vk Gp Ga Vl Rr Zj Vn Vp Vq Vs If Jc Ds Ih Ii Ij Dq Jd Je Jf Dt Du Dv Dw Dx Oi Rd Dy. Conditions: none. -/
import Derived.Test.YtpabbhpgikdhfaaGreatWTg
set_option linter.unusedSimpArgs false
set_option linter.unusedVariables false
namespace Go.Art
open Go Go.Proofs Go.RowKit
theorem part_FB5 {t:List Int} {k n i:Nat} (hz:solE t k = 0) (hk:k ≤ 40) (hl:t.length ≤ 12) (hn:n ≤ 12) (hi:i ≤ k):FB (sR (fun u=>stT t k n (u + 1)) (List.range i)) 100000:=by
 obtain ⟨a,ha,he⟩:=part_nat hz n i hi
 rw [he]
 have h1:=oneS_lt hz hk hl
 have h2:oneS t k ^ n < 18446744073709551616 ^ 121:=by
  refine Nat.lt_of_le_of_lt (Nat.pow_le_pow_left (Nat.le_of_lt h1) n) ?_
  rw [← Nat.pow_mul]
  exact Nat.pow_lt_pow_right (by decide) (by omega)
 exact (FB_nat (B:=121) (Nat.ne_of_gt (Nat.pow_pos (Nat.pos_of_ne_zero (oneS_pos hz)))) (Nat.lt_of_le_of_lt ha h2) h2).le (by decide)
theorem st_FB5 {t:List Int} {k n u:Nat} (hz:solE t k = 0) (hk:k ≤ 40) (hl:t.length ≤ 12) (hn:n ≤ 12) (hu:u ≤ k):FB (stT t k n u) 100000:=by
 obtain ⟨B,hB⟩ : ∃ B,B = 20000:=⟨_,rfl⟩
 have hB9:B ≤ 100000:=by omega
 obtain ⟨b1,b2,b3,b4⟩:=lvT_facts hz hk hl hn hB (j:=k - u) (by omega)
 unfold stT
 rw [← psN_all]
 exact (FB_le1 (psN_fr b1 (Nat.le_refl _)) b3 (Rat.le_trans (psN_le b1 (Nat.le_refl _)) b2) b4).le hB9
structure SwG where
 c:Nat
 v:Value
 is:List Nat
 hs:List HV
attribute [local irreducible] Fit pt own ro vw mpc lpt vels rels mow lrc dfr
attribute [local irreducible] lmp lme mit velg relg bnd owl dfrl evI solE opg shareN nextR firstR lvR
theorem RFail_ok (tv:Value) (t:List Int) (k n:Nat) (hz:solE t k = 0) (hk:k ≤ 40) (hl:t.length ≤ 12) (hn:n ≤ 12):Tr Tryz.prog 21 [tv,I k,I n] [vw tv (Is t)] [] (FQ2 (failQ t k n) 0):=by
 have hS:=RStuck_tr tv t k n hz hk hl hn
 have hF1:=fun i (hi:i < k)=>st_FB5 hz hk hl hn (u:=i + 1) hi
 have hF2:=fun i (hi:i ≤ k)=>part_FB5 hz hk hl hn hi
 have hpart:=stL_part t k n
 have hget:=fun i (hi:i < k)=>stL_get (t:=t) (n:=n) (i:=i + 1) (Nat.succ_lt_succ hi)
 have hLL:=stL_len t k n
 have hq:failQ t k n = ((stL t k n).drop 1).foldl (· + ·) 0:=by
  have:=hpart k (Nat.le_refl k)
  rw [List.take_of_length_le (by rw [List.length_drop,hLL];omega)] at this
  exact this.symm
 rw [hq]
 clear hq
 generalize stL t k n = LL at *
 cases LL with
 | nil=>simp at hLL
 | cons q0 qs=>
 have hql:qs.length = k:=by simpa using hLL
 rw [List.drop_succ_cons,List.drop_zero] at hpart ⊢
 have hAdd:=fun v hs (hl':hs.length = qs.length)=>RFAdd_tr v qs hs hl' (by omega) (fun i hi=>by
  have:=hget i (by omega)
  rw [List.getD_cons_succ] at this
  rw [this];exact hF1 i (by omega)) (fun i hi=>by rw [hpart i (by omega)];exact hF2 i (by omega))
 clear hF1 hF2 hpart hget
 unfold FQ2 at hAdd ⊢
 rw [hql] at hAdd
 generalize qs.foldl (· + ·) (0:Rat) = p at *
 refine Tr.enter env _ Tryz.func21 (by kernel_rfl) rfl Tryz.ntmps21 rfl (by repeat (first | exact has00 | refine has01 ?_)) fun w0=>?_
 repeat' first|refine al fun c=>?_|refine srz ?_|refine (ca hS ?_) ; rintro _ _ ⟨v,hs,rfl,hv,hhs,rfl⟩|(refine wo ?_;first|(refine ao ?_;first|refine oa ?_)|refine oa ?_)|(refine gc ?_;first|refine cf ?_)|refine sq ?_|refine rg ?_|refine xc ?_|refine nl ?_|refine sk ?_
 obtain ⟨h0,hr,rfl⟩ : ∃ h0 hr,hs = h0 :: hr:=by cases hs with | nil=>simp at hhs | cons a b=>exact ⟨a,b,rfl⟩
 have hrl:hr.length = qs.length:=by simp at hhs;omega
 refine TO.im (ofr_pop (h:=h0) (hs:=hr) (q:=q0) (qs:=qs) fitA) ?_
 have hlen:(rcs (q0 :: qs) (h0 :: hr)).length ≤ (k + 1) * 3:=by rw [rcs_len (by simpa using hrl),List.length_cons,hql];exact Nat.le_refl _
 have hdr:(rcs (q0 :: qs) (h0 :: hr)).drop (1 * 3) = rcs qs hr:=rfl
 repeat' first|(refine gca ?_;first|(refine ca (hAdd _ hr (by omega)) ?_ (hp:=has1 (has_subW (e:=TRt) (sz:=3) memA hlen (by omega) (by omega) hdr) (has1 (has_ofr hrl memA) has0));rintro _ _ ⟨vn,vd,rfl,hvn,hvd,rfl⟩))|refine slw1 (sz:=3) (lo:=1) (N:=k + 1) ?_ (Nat.le_add_left 1 k) (hm:=has_oww memA)|refine srz ?_|(refine wo ?_;first|refine oa ?_)|refine xc ?_|refine nl ?_|refine rt ?_
 exact rca (cs:=[.bool (decide (p.num < 0)),vn,vd]) (vs:=[.bool (decide (p.num < 0)),vn,vd]) (T:=TRt) ⟨vn,vd,rfl,hvn,hvd,rfl⟩
end Go.Art
namespace Go.Art
open Go Go.Proofs Go.RowKit
structure SeqR (P:Program) (f:FuncId) (cap:Array Value) (U:Ch) (qs:List Rat):Prop where
 run:∀ {α:Type} (V:Ch) [Lent V] (l:Nat) (J:α→Ch) (pl:α→Nat→Prop) (S:α→Prop) (a0:α),pl a0 0→(∀ a b,¬ (J a).bd b) →
  (∀ a i v1 v2,v1.oneCell' = true→v2.oneCell' = true→pl a i→i < qs.length→Ty P l [I (i:Int),rv (qs.getD i 0) v1 v2] [V] [own T64 v1 (Us (dg (qs.getD i 0).num.natAbs)),own T64 v2 (Us (dg (qs.getD i 0).den)),J a] fun ok B=>∃ a',B = [J a']∧((ok = true∧pl a' (i + 1))∨(ok = false∧S a'))) →
  Tr P f (yv l :: cap.toList) [V,U] [J a0] fun _ B=>∃ a,B = [J a]∧(pl a qs.length∨S a)
def curL (t:List Int) (k e:Nat):List Rat:=(List.range e).map (failQ t k)
theorem curL_len (t:List Int) (k e:Nat):(curL t k e).length = e:=by simp [curL]
theorem curL_get {t:List Int} {k e i:Nat} (h:i < e):(curL t k e).getD i 0 = failQ t k i:=by simp [curL,List.getD_eq_getElem?_getD,h]
attribute [local irreducible] Fit pt own ro vw mpc lpt vels rels mow lrc dfr
attribute [local irreducible] lmp lme mit velg relg bnd owl dfrl gow shB grB
theorem curefuses_tr (tv:Value) (t:List Int) (k n:Int):Tr Tryz.prog 91 [tv,I k,I n] [vw tv (Is t)] [] fun u D=>u = I (ripE t k n)∧D = []:=by
 have hC:=SoCheck_tr tv t k
 have h13:=@solE_13 t k
 unfold ripE
 by_cases hc:k < 1∨1024 < k∨n < 0∨4096 < n
 ·rw [if_pos hc]
  refine Tr.enter env _ Tryz.func91 (by kernel_rfl) rfl Tryz.ntmps91 rfl (by repeat (first | exact has00 | refine has01 ?_)) fun w0=>?_
  repeat' first|(refine wo ?_;first|(refine ao ?_;first|refine oa ?_)|refine oa ?_|refine gy ?_|refine gn ?_|(refine gsi (fun hB=>?_) (fun hB=>?_) <;> try (exfalso;omega)))|(refine gc ?_;first|refine ct ?_|(refine ci (fun hB=>?_) (fun hB=>?_) <;> try (exfalso;omega)))|refine sq ?_|refine rg ?_|refine xc ?_|refine nl ?_|refine bk ?_|refine rt ?_
  all_goals exact r1 ⟨rfl,rfl⟩
 ·rw [if_neg hc]
  by_cases hz:solE t k = 0
  ·rw [hz] at hC ⊢
   refine Tr.enter env _ Tryz.func91 (by kernel_rfl) rfl Tryz.ntmps91 rfl (by repeat (first | exact has00 | refine has01 ?_)) fun w0=>?_
   repeat' first|(refine gca ?_;first|(refine ca hC ?_;rintro _ _ ⟨rfl,rfl⟩))|(refine wo ?_;first|(refine ao ?_;first|refine oa ?_)|refine oa ?_|refine gy ?_|(refine gsi (fun hB=>?_) (fun hB=>?_) <;> try (exfalso;omega)))|(refine gc ?_;first|refine cf ?_|(refine ci (fun hB=>?_) (fun hB=>?_) <;> try (exfalso;omega)))|refine sq ?_|refine rg ?_|refine xc ?_|refine nl ?_|refine sk ?_|refine bk ?_|refine rt ?_|refine xb ?_
   exact r1 ⟨rfl,rfl⟩
  ·rw [h13 hz] at hC ⊢
   refine Tr.enter env _ Tryz.func91 (by kernel_rfl) rfl Tryz.ntmps91 rfl (by repeat (first | exact has00 | refine has01 ?_)) fun w0=>?_
   repeat' first|(refine gca ?_;first|(refine ca hC ?_;rintro _ _ ⟨rfl,rfl⟩))|(refine wo ?_;first|(refine ao ?_;first|refine oa ?_)|refine oa ?_|refine gy ?_|(refine gsi (fun hB=>?_) (fun hB=>?_) <;> try (exfalso;omega)))|(refine gc ?_;first|refine ct ?_|(refine ci (fun hB=>?_) (fun hB=>?_) <;> try (exfalso;omega)))|refine sq ?_|refine rg ?_|refine xc ?_|refine nl ?_|refine bk ?_|refine rt ?_
   exact r1 ⟨rfl,rfl⟩
theorem points_tr (tv:Value) (htv:tv.oneCell' = true) (k n:Int):Tr Tryz.prog 93 [tv,I k,I n] [] [] fun u D=>∃ p1 p2 p3,u = .func (.func 156) #[] #[ptr p1,ptr p2,ptr p3]∧D = [pt p1 [I n] TLI,pt p3 [I k] TLI,pt p2 [tv] TLs]:=by
 refine Tr.enter env _ Tryz.func93 (by kernel_rfl) rfl Tryz.ntmps93 rfl (by repeat (first | exact has00 | refine has01 ?_)) fun w0=>?_
 repeat' first|refine bx1 fun c=>?_|(refine wo ?_;first|refine oa ?_)|refine sq ?_|refine rg ?_|refine xc ?_|refine nl ?_|refine rt ?_
 rename_i c3 c4
 exact r1 ⟨c,c3,c4,rfl,rfl⟩
theorem points1_seq (p1 p2 p3:Nat) (tv:Value) (htv:tv.oneCell' = true) (t:List Int) (k e:Nat) (hz:solE t k = 0) (hk:k ≤ 40) (hl:t.length ≤ 12) (he:e ≤ 13) :
  SeqR Tryz.prog 156 #[ptr p1,ptr p2,ptr p3] (lbd [lpt p1 [I e] TLI,lpt p2 [tv] TLs,lpt p3 [I k] TLI,vw tv (Is t)]) (curL t k e):=by
 refine ⟨fun {α} V hV l J pl S a0 h0 hnb hy=>?_⟩
 haveI:=hV
 haveI:∀ a,NoB (J a):=fun a=>⟨hnb a⟩
 refine Tr.pre (pre:=[V,lpt p1 [I e] TLI,lpt p2 [tv] TLs,lpt p3 [I k] TLI,vw tv (Is t)]) ?_ (has1 (has_mem (by simp)) (has_lbds (C:=[lpt p1 [I e] TLI,lpt p2 [tv] TLs,lpt p3 [I k] TLI,vw tv (Is t)]) (by simp) _ (by repeat (first | exact has00 | refine has01 ?_)) fun c hc=>hc)) (by repeat (first | exact has00 | refine has01 ?_))
 rw [curL_len] at hy ⊢
 have hF:=fun i (hi:i < e)=>Fail_ok tv htv t k i hz hk hl (by omega)
 have hget:=fun i (hi:i < e)=>curL_get (t:=t) (k:=k) hi
 clear hz
 refine Tr.enter env _ Tryz.func156 (by kernel_rfl) rfl Tryz.ntmps156 rfl (by repeat (first | exact has00 | refine has01 ?_)) fun w0=>?_
 repeat' first|(refine wo ?_;first|refine oa ?_|refine ldl ?_)|refine sq ?_|refine rg ?_|refine xc ?_|refine nl ?_|refine bk ?_
 refine TC.loop (ι:=InS α) (fun g=>[(9,I g.i)]) (fun g=>[J g.a]) (fun g=>g.i ≤ e∧pl g.a g.i) (fun g=>e - g.i) ⟨0,a0⟩ [0,1,2,3,8] ⟨Nat.zero_le _,h0⟩ ?_
 rintro ⟨i,a⟩ ⟨hi,ha⟩
 dsimp only at hi ha ⊢
 by_cases hlt:i < e
 ·have hN:=hF i hlt
  have hG:=hget i hlt
  have hyi:=fun v1 v2 h1 h2=>hy a i v1 v2 h1 h2 ha hlt
  rw [hG] at hyi
  unfold FQ2 at hN
  clear hF hget hG hy
  generalize failQ t k i = q at *
  repeat' first|(refine gca ?_;first|(refine ca hN ?_;rintro _ _ ⟨n1,d1,rfl,hn1,hd1,rfl⟩))|refine al fun c6=>?_|refine srz ?_|refine lda (vs:=rrow q (n1,d1)) ?_|(refine cy (hyi n1 d1 hn1 hd1) ?_ (hp:=has1 (has_mem memA) has0);rintro ok _ ⟨a2,rfl,⟨rfl,h3⟩ | ⟨rfl,h3⟩⟩)|(refine wo ?_;first|(refine ao ?_;first|refine aw ?_|refine oa ?_)|refine oa ?_|refine ldl ?_|refine gy ?_)|(refine gc ?_;first|refine ct ?_|refine cf ?_|(refine ci (fun hB=>?_) (fun hB=>?_) <;> try (exfalso;omega)))|refine sq ?_|refine rg ?_|refine xc ?_|refine nl ?_|refine sk ?_|refine bk ?_|refine rt ?_|refine xb ?_
  ·exact lp ⟨i + 1,a2⟩ ⟨hlt,h3⟩
  ·exact r0 ⟨a2,rfl,.inr h3⟩
 ·obtain rfl:i = e:=by omega
  repeat' first|(refine wo ?_;first|(refine ao ?_;first|refine oa ?_))|(refine gc ?_;first|(refine ci (fun hB=>?_) (fun hB=>?_) <;> try (exfalso;omega)))|refine sq ?_|refine rg ?_|refine xc ?_|refine nl ?_|refine xe ?_
  exact e0 ⟨a,rfl,.inl ha⟩
end Go.Art
namespace Go.Art
open Go Go.Proofs Go.RowKit
section
variable {P:Program} {E:Env P} {n:Sh} {fr:Fr} {A A' D G:List Ch} {m:Nat}
theorem mt1 {Ds:List Nat} {w0:World} {A0:List Ch} {R':Value→List Ch→Prop} {fn:Func} {t:Nat} {v1:Value} (h:R' v1 D) (hr:fn.results = #[.tmp t]:=by rfl) (hv:get fr t = some v1:=by rfl)
  (hm:Tk (dfrl Ds) A A':=by exact tkA) (hf:Fit A' D G:=by exact fitA) (nb:∀ c ∈ D,∀ b,¬ c.bd b:=by (repeat (first | exact nb0 | refine nb1 ?_));first | done | fail) (hn:n = ⟨m,marks Ds,none⟩:=by rfl) :
  TX E n ⟨bodyPostM (FF none) 0 P fn (RetP (PR w0 A0 R')),w0,A0⟩ [] .ret fr A:=by
 subst hn
 exact mG (.inl rfl) h (fun w hw a ha=>res_t ha hr hv) hm hf nb
end
structure CfS where
 i:Nat
 v:Value
 hs:List HV
theorem qs_snoc {qs:List Rat} {i:Nat} (h:i < qs.length):qs.take i ++ [qs.getD i 0] = qs.take (i + 1):=(take_succ' h 0).symm
attribute [local irreducible] Fit pt own ro vw mpc lpt vels rels mow lrc dfr
attribute [local irreducible] lmp lme mit velg relg bnd owl dfrl gow shB grB
abbrev TF4:TypeId:=132
abbrev TF5:TypeId:=134
theorem put_tr' (lv uv:Value) (m:Nat) (hm:m ≤ 4096) (xs:List Value) (q:Rat) (x1 x2:Value) (h1:x1.oneCell' = true) (h2:x2.oneCell' = true):Tr Tryz.prog 98 [lv,uv] [vwf uv 1 (rrow q (x1,x2))] [oww TRt 3 lv m xs] fun u D=>u.oneCell' = true∧D = [oww TRt 3 u (m + 1) (xs ++ rrow q (x1,x2))]:=by
 refine Tr.enter env _ Tryz.func98 (by kernel_rfl) rfl Tryz.ntmps98 rfl (by repeat (first | exact has00 | refine has01 ?_)) fun w0=>?_
 repeat' first|refine apw (e:=TRt) (sz:=3) (N:=m) (M:=1) (xs:=xs) (ys:=rrow q (x1,x2)) (by decide) rfl (one_cons rfl (one_cons h1 (one_cons h2 one_nil))) (fun v' hv'=>?_) (hu:=has_vwf memA)|(refine wo ?_;first|refine oa ?_)|refine sq ?_|refine rg ?_|refine xc ?_|refine nl ?_|refine rt ?_
 exact r1 ⟨hv',rfl⟩
theorem lfold_tr (f:FuncId) (cap:Array Value) (U:Ch) [Lent U] (qs:List Rat) (hS:SeqR Tryz.prog f cap U qs) (hM:qs.length ≤ 4096) :
  Tr Tryz.prog 99 [.func (.func f) #[] cap,nS,.func (.func 98) #[] #[]] [U] [] fun u D=>∃ hs:List HV,u.oneCell' = true∧hs.length = qs.length∧D = [oww TRt 3 u qs.length (rcs qs hs),ofr hs qs]:=by
 have hrun:=@SeqR.run _ _ _ _ _ hS
 clear hS
 refine Tr.enterM env _ Tryz.func99 (by kernel_rfl) rfl Tryz.ntmps99 rfl (by repeat (first | exact has00 | refine has01 ?_)) fun w0=>?_
 repeat' first|refine bx1 fun c4=>?_|(refine wo ?_;first|refine oa ?_)|refine sq ?_|refine rg ?_|refine xc ?_|refine nl ?_|refine bk ?_
 rename_i c3
 refine TC.im (oww_nil TRt 3 _) ?_
 refine TC.im (owl_nil (e:=T64) (g:=wU) _) ?_
 refine TC.range [lpt c4 [.func (.func 98) #[] #[]] TF4,U] [pt c3 [nS] TRs,oww TRt 3 nS 0 [],ofr [] []] (fun l2 rec Dm pend B'=>∃ v hs,B' = [dfr Dm,pt c3 [v] TRs,oww TRt 3 v qs.length (rcs qs hs),ofr hs qs]∧pend = none∧v.oneCell' = true∧hs.length = qs.length) ?_ ?_ (hp:=has1 hasA (has1 (has_mem memA) has0))
 ·intro rec l2 Dm hr
  refine Tr.unb (hrun (α:=CfS) (lpt c4 [.func (.func 98) #[] #[]] TF4) l2 (fun g=>bnd [lrc l2 rec .ready none,dfr Dm,pt c3 [g.v] TRs,oww TRt 3 g.v g.i (rcs (qs.take g.i) g.hs),ofr g.hs (qs.take g.i)]) (fun g i=>g.i = i∧g.v.oneCell' = true∧g.hs.length = i) (fun _=>False) ⟨0,nS,[]⟩ ⟨rfl,rfl,rfl⟩ (fun p=>bnd_nob (by repeat (first | exact nb0 | refine nb1 ?_))) ?_) ?_
  ·rintro ⟨i,v,hs⟩ j x1 x2 hx1 hx2 ⟨hji,hv,hhl⟩ hj
   dsimp only at hji hv hhl ⊢
   subst hji
   have htl:(qs.take i).length = i:=by rw [List.length_take];omega
   have hsn:=qs_snoc hj
   generalize qs.getD i 0 = q at *
   have hrc:rcs (qs.take i) hs ++ rrow q (x1,x2) = rcs (qs.take (i + 1)) (hs ++ [(x1,x2)]):=by rw [← hsn,rcs_app (by omega),rcs_one]
   have hor:=fun (A F:List Ch) (hf:Fit A _ F)=>ofr_snoc (hs:=hs) (qs:=qs.take i) (by omega) q x1 x2 hf
   rw [hsn] at hor
   refine Ty.bndL (K:=[own T64 x1 (Us (dg q.num.natAbs)),own T64 x2 (Us (dg q.den))]) (C:=[lrc l2 rec .ready none,dfr Dm,pt c3 [v] TRs,oww TRt 3 v i (rcs (qs.take i) hs),ofr hs (qs.take i)]) ?_
   refine Ty.intro env hr (by repeat (first | exact has00 | refine has01 ?_)) fun w1=>?_
   clear hrun
   repeat' first|refine al fun c7=>?_|refine xbeg ?_|refine lda (cs:=rrow q (x1,x2)) ?_|refine slws (sz:=3) (xs:=rrow q (x1,x2)) fun g2=>?_|refine srz ?_ (hj:=Nat.le_of_ble_eq_true rfl)|(refine cav (cap:=#[]) (vs:=[v,.slice (some ⟨g2,0,none⟩) 1 1]) (put_tr' v (.slice (some ⟨g2,0,none⟩) 1 1) i (by omega) (rcs (qs.take i) hs) q x1 x2 hx1 hx2) ?_ (hp:=has1 (has_oww memA) has0);rintro v2 _ ⟨hv2,rfl⟩)|(refine wo ?_;first|refine ld ?_|refine ldl ?_|refine sr ?_)|refine rg ?_|refine nl ?_|refine bk ?_|refine xb ?_
   refine TX.im (hor _ _ fitA) ?_
   rw [hrc]
   exact yn ⟨⟨i + 1,v2,hs ++ [(x1,x2)]⟩,rfl,.inl ⟨rfl,rfl,hv2,by simp [hhl]⟩⟩
  ·rintro _ _ ⟨⟨i,v,hs⟩,rfl,⟨g1,g2,g3⟩ | h⟩
   ·dsimp only at g1 g2 g3
    subst g1
    exact ⟨_,rfl,.ready,none,_,rfl,by decide,v,hs,by rw [List.take_length],rfl,g2,g3⟩
   ·exact h.elim
 ·rintro l2 rec Dm pend B' ⟨v,hs,rfl,rfl,g2,g3⟩
  show TX env _ _ _ _ _ _
  refine TX.im (dfrl_nil _) ?_
  refine TX.im (dfrl_push (D:=Dm) (Ds:=[]) fitA) ?_
  repeat' first|(refine wo ?_;first|refine oa ?_|refine ld ?_)|refine sq ?_|refine rg ?_|refine xc ?_|refine nl ?_|refine rt ?_|refine xb ?_
  exact mt1 (Ds:=[Dm]) ⟨hs,g2,g3,rfl⟩
end Go.Art
namespace Go.Art
open Go Go.Proofs Go.RowKit
abbrev wts (L:List (List Int × Nat)):List (List Int):=L.map fun s=>Zs (dg s.2)
structure MsG where
 i:Nat
 o:Value
attribute [local irreducible] Fit pt own ro vw mpc lpt vels rels mow lrc dfr
attribute [local irreducible] lmp lme mit velg relg bnd owl natG
end Go.Art
namespace Go.Art
open Go Go.Proofs Go.RowKit
structure CoG where
 i:Nat
 ov:Value
 hs:List Value
 ls:List (List Int)
structure CiG where
 q:Nat
 hs:List Value
 ls:List (List Int)
structure CwG where
 i:Nat
 v:Value
attribute [local irreducible] Fit pt own ro vw mpc lpt vels rels mow lrc dfr
attribute [local irreducible] lmp lme mit velg relg bnd owl natG setP szL solE risR
end Go.Art
namespace Go.Art
open Go
structure RaI (t:List Int) (all:Int) (u:AlS) (dn:List Bool):Prop where
 ld:dn.length = t.length
 dr:∀ c:Nat,c < t.length→dn.getD c false = true→u.rest.getD c 0 < all
 B:∀ c:Nat,c < t.length→((c:Int) ∈ u.B ↔ dn.getD c false = false∧u.rest.getD c 0 < all)
 A:∀ c:Nat,c < t.length→((c:Int) ∈ u.A ↔ all < u.rest.getD c 0)
 sB:u.B.Pairwise (· ≤ ·)
 sA:u.A.Pairwise (· ≤ ·)
open Go Go.Proofs Go.RowKit
section
variable {P:Program} {E:Env P} {n:Sh} {X:Cx} {s:List K} {fr:Fr} {A A':List Ch} {ops:Array Oper} {rest:List Oper} {d:Nat} {ty t el:TypeId} {pos:String} {after:Array Edge} {v z:Value} {x y:Operand} {by_:Nat}
end
attribute [local irreducible] Fit pt own ro vw mpc lpt vels rels mow lrc dfr
attribute [local irreducible] lmp lme mit velg relg
structure RmG where
 u:AlS
 dn:List Bool
 i:Nat
end Go.Art
namespace Go.Art
open Go Go.Proofs Go.RowKit
structure RvG where
 i:Nat
 v1:Value
 v2:Value
 ss:List Value
 gs:List Value
attribute [local irreducible] Fit pt own ro vw mpc lpt vels rels mow lrc dfr
attribute [local irreducible] lmp lme mit velg relg bnd owl natG setP szL solE risR
end Go.Art
namespace Go.Art
open Go Go.Proofs Go.RowKit
attribute [local irreducible] Fit pt own ro vw mpc lpt vels rels mow lrc dfr
attribute [local irreducible] lmp lme mit velg relg bnd owl dfrl
end Go.Art
namespace Go.Art
open Go Go.Proofs Go.RowKit
theorem R_nxor {P:Program} {n:Sh} {fr:Fr} {w:World} {t t' ty:TypeId} {x y:Operand} {a b:Nat} (hx:ev fr x = some (Un a)) (hy:ev fr y = some (Un b)) (ha:a < 18446744073709551616) (hb:b < 18446744073709551616):OpV P n fr (.binOp .xor t x y t') ty w (Un (a ^^^ b)) w:=R_bin hx hy (by
 show Result.ok (Value.int .u64 (IntKind.u64.wrap ((BitVec.ofInt 64 (a:Int) ^^^ BitVec.ofInt 64 (b:Int)).toNat:Int))) w = _
 have hx:a ^^^ b < 2 ^ 64:=Nat.xor_lt_two_pow (by omega) (by omega)
 rw [BitVec.toNat_xor,bv64 ha,bv64 hb,wrapN _ (a ^^^ b) (by omega)])
attribute [local irreducible] Fit pt own ro vw mpc lpt vels rels mow lrc dfr
attribute [local irreducible] lmp lme mit velg relg
theorem OverNat_tr (v:Value) (l:List Nat) (hd:Dg l):Tr Tryz.prog 67 [v] [] [own T64 v (Us l)] fun _ D=>D = []:=by
 refine Tr.enter env _ Tryz.func67 (by kernel_rfl) rfl Tryz.ntmps67 rfl (by repeat (first | exact has00 | refine has01 ?_)) fun w0=>?_
 refine TC.lenu (v:=v) (l:=l) fun hll=>?_
 repeat' first|(refine wo ?_;first|refine oa ?_)|refine sq ?_|refine rg ?_|refine xc ?_|refine nl ?_|refine bk ?_
 refine TC.loop (ι:=Nat × List Nat) (fun g=>[(2,I g.1)]) (fun g=>[own T64 v (Us g.2)]) (fun g=>g.1 ≤ l.length∧g.2.length = l.length∧Dg g.2) (fun g=>l.length - g.1) (0,l) [0] ⟨Nat.zero_le _,rfl,hd⟩ ?_
 rintro ⟨i,m⟩ ⟨hi,hm,hdm⟩
 dsimp only at hi hm hdm ⊢
 by_cases hlt:i < l.length
 ·have hx:=hdm.getD i
  have hr:m.getD i 0 ^^^ 2779096485 < 18446744073709551616:=by
   have:=Nat.xor_lt_two_pow (n:=64) (show m.getD i 0 < 2 ^ 64 from hx) (show 2779096485 < 2 ^ 64 by decide)
   exact Nat.lt_of_lt_of_eq this rfl
  repeat' first|(refine nao ?_;refine TO.val (v:=Un (m.getD i 0 ^^^ 2779096485)) (fun _ _=>R_nxor (a:=m.getD i 0) (b:=2779096485) rfl rfl hx (by decide)) ?_)|(refine wo ?_;first|(refine ao ?_;first|refine aw ?_|refine oa ?_)|refine lu ?_|refine sou ?_|refine oa ?_|refine lnm ?_|refine ixmn ?_)|(refine gc ?_;first|(refine ci (fun hB=>?_) (fun hB=>?_) <;> try (exfalso;omega)))|refine sq ?_|refine rg ?_|refine xc ?_|refine nl ?_|refine sk ?_|refine bk ?_|refine xb ?_
  exact lp (i + 1,m.set i (m.getD i 0 ^^^ 2779096485)) ⟨hlt,by dsimp only;rw [List.length_set];exact hm,hdm.set hr⟩
 ·obtain rfl:i = l.length:=by omega
  repeat' first|(refine wo ?_;first|(refine ao ?_;first|refine oa ?_)|refine oa ?_|refine lnm ?_)|(refine gc ?_;first|(refine ci (fun hB=>?_) (fun hB=>?_) <;> try (exfalso;omega)))|refine sq ?_|refine rg ?_|refine xc ?_|refine nl ?_|refine xe ?_
  exact e0 rfl
theorem OverRatio_tr (t:Fr3) (n1 d1:Value) (h1:Dg t.2.1) (h2:Dg t.2.2):Tr Tryz.prog 23 [.agg #[.bool t.1,n1,d1]] [] [own T64 n1 (Us t.2.1),own T64 d1 (Us t.2.2)] fun _ D=>D = []:=by
 refine Tr.enter env _ Tryz.func23 (by kernel_rfl) rfl Tryz.ntmps23 rfl (by repeat (first | exact has00 | refine has01 ?_)) fun w0=>?_
 repeat' first|(refine gca ?_;first|(refine ca (OverNat_tr n1 t.2.1 h1) ?_;rintro _ _ rfl)|(refine ca (OverNat_tr d1 t.2.2 h2) ?_;rintro _ _ rfl))|refine bx fun q=>?_|(refine wo ?_;first|refine oa ?_|refine ld ?_)|refine sq ?_|refine rg ?_|refine xc ?_|refine nl ?_
 exact e0 rfl
theorem SameRatioT_tr (t:Fr3) (n1 d1 n2 d2:Value):Tr Tryz.prog 22 [.agg #[.bool t.1,n1,d1],.agg #[.bool t.1,n2,d2]] [vw n1 (Us t.2.1),vw d1 (Us t.2.2),vw n2 (Us t.2.1),vw d2 (Us t.2.2)] []
  fun v D=>v = .bool true∧D = []:=(SameRatio_tr t t n1 d1 n2 d2).mono fun v D h=>by rw [decide_eq_true rfl] at h;exact h
end Go.Art
namespace Go.Art
open Go Go.Proofs Go.RowKit
attribute [local irreducible] Fit pt own ro vw mpc lpt vels rels mow lrc dfr
attribute [local irreducible] lmp lme mit velg relg bnd owl dfrl massW setsW massD
end Go.Art
namespace Go.Art
open Go Go.Proofs Go.RowKit
def setA (k a:Nat):List Int:=(belowI k).filter fun s=>Nat.beq (a / 2 ^ s.toNat % 2) 1
def chkP (k:Nat):Bool:=(List.range (k + 1)).all fun d=>(risR d 0 k).isPerm (((List.range (2 ^ k)).filter fun a=>Nat.beq (popK k a) d).map (setA k))
def chkO (k:Nat):Bool:=(List.range (k + 1)).all fun d=>(endsL d k []).all fun js=>(ordF 0 (upto k) js).isPerm (setA k (msk (ordF 0 (upto k) js))) && Nat.beq (popK k (msk (ordF 0 (upto k) js))) d
open Go Go.Proofs Go.RowKit
def smlT (m:Int) (tbl:List Int) (k:Nat):List Int:=(tbl.take k).map fun x=>pick x m
attribute [local irreducible] Fit pt own ro vw mpc lpt vels rels mow lrc dfr
attribute [local irreducible] lmp lme mit velg relg bnd owl dfrl massW setsW massD smlT solE
end Go.Art
namespace Go.Art
open Go Go.Proofs Go.RowKit
structure MwG where
 i:Nat
attribute [local irreducible] Fit pt own ro vw mpc lpt vels rels mow lrc dfr
attribute [local irreducible] lmp lme mit velg relg bnd owl dfrl massW setsW massD smlT solE natG itemS oneS
end Go.Art
namespace Go.Art
open Go Go.Proofs Go.RowKit
attribute [local irreducible] Fit pt own ro vw mpc lpt vels rels mow lrc dfr
attribute [local irreducible] lmp lme mit velg relg bnd owl dfrl massW setsW massD smlT solE failV failQ stL
theorem len3 {l:List HV} (h:l.length = 3):∃ a b c,l = [a,b,c]:=by
 match l,h with
 | [a,b,c],_=>exact ⟨a,b,c,rfl⟩
end Go.Art
namespace Go.Art
open Go Go.Proofs Go.RowKit
def meanQ (t:List Int) (k e:Nat):Rat:=(curL t k e).foldl (fun a q=>q + a) 0
theorem failQ_FBc {t:List Int} {k n:Nat} (hz:solE t k = 0) (hk:k ≤ 40) (hl:t.length ≤ 12) (hn:n ≤ 12):FB (failQ t k n) 8589934592:=part_FB hz hk hl hn (Nat.le_refl k)
attribute [local irreducible] Fit pt own ro vw mpc lpt vels rels mow lrc dfr
attribute [local irreducible] lmp lme mit velg relg bnd owl dfrl gow shB grB
theorem Curve_ok (tv:Value) (htv:tv.oneCell' = true) (t:List Int) (k n:Nat) (hz:solE t k = 0) (hk:k ≤ 40) (hl:t.length ≤ 12) (hn:n ≤ 12):Tr Tryz.prog 45 [tv,I k,I n] [vw tv (Is t)] []
  fun u D=>∃ v hs,u = tup2 v (I 0)∧v.oneCell' = true∧hs.length = n + 1∧D = [oww TRt 3 v (n + 1) (rcs (curL t k (n + 1)) hs),ofr hs (curL t k (n + 1))]:=by
 have hk1:=(solE_zero hz).1
 have hR:=curefuses_tr tv t k n
 rw [show ripE t k n = 0 by unfold ripE;rw [if_neg (by omega)];exact hz] at hR
 have hP:=points_tr tv htv (k:Int) ((n + 1:Nat):Int)
 have hL:=fun p1 p2 p3=>lfold_tr _ _ _ _ (points1_seq p1 p2 p3 tv htv t k (n + 1) hz hk hl (by omega)) (by rw [curL_len];omega)
 have hcl:=curL_len t k (n + 1)
 have hn1:(n:Int) + 1 = ((n + 1:Nat):Int):=rfl
 clear hz
 generalize curL t k (n + 1) = L at *
 rw [hcl] at hL
 refine Tr.enter env _ Tryz.func45 (by kernel_rfl) rfl Tryz.ntmps45 rfl (by repeat (first | exact has00 | refine has01 ?_)) fun w0=>?_
 repeat' first|(refine gca ?_;first|(refine ca hR ?_;rintro _ _ ⟨rfl,rfl⟩)|(refine ca hP ?_;rintro _ _ ⟨p1,p2,p3,rfl,rfl⟩)|(refine ca (hL p1 p2 p3) ?_ (hp:=has1 (lbd_of (has1 hasA (has1 hasA (has1 hasA (has1 hasA has0))))) has0);rintro v _ ⟨hs,hv,hhs,rfl⟩))|(refine aw (m:=(n:Int) + 1) ?_;rw [hn1])|(refine wo ?_;first|(refine ao ?_;first|refine oa ?_)|refine oa ?_)|(refine gc ?_;first|refine cf ?_)|refine sq ?_|refine rg ?_|refine xc ?_|refine nl ?_|refine sk ?_|refine rt ?_
 exact r2 ⟨v,hs,rfl,hv,hhs,rfl⟩
end Go.Art
namespace Go.Art
open Go Go.Proofs Go.RowKit
section
variable {P:Program} {E:Env P} {n:Sh} {X:Cx} {s:List K} {fr:Fr} {A A':List Ch} {ops:Array Oper} {rest:List Oper} {d m N sz by_:Nat} {ty t t' el:TypeId} {pos:String} {after:Array Edge} {v u z:Value} {x y:Operand} {xs vs:List Value} {dt:TypeDesc} {k1 k':IntKind} {w:World}
end
theorem failQ_FB5 {t:List Int} {k n:Nat} (hz:solE t k = 0) (hk:k ≤ 40) (hl:t.length ≤ 12) (hn:n ≤ 12):FB (failQ t k n) 100000:=part_FB5 hz hk hl hn (Nat.le_refl k)
attribute [local irreducible] Fit pt own ro vw mpc lpt vels rels mow lrc dfr
attribute [local irreducible] lmp lme mit velg relg bnd owl dfrl gow shB grB
theorem Rref26_tr (tv:Value) (t:List Int) (k n:Int):Tr Tryz.prog 94 [tv,I k,I n] [vw tv (Is t)] [] fun u D=>u = I (ripE t k n)∧D = []:=by
 have hC:=RSoCheck_tr tv t k
 have h13:=@solE_13 t k
 unfold ripE
 by_cases hc:k < 1∨1024 < k∨n < 0∨4096 < n
 ·rw [if_pos hc]
  refine Tr.enter env _ Tryz.func94 (by kernel_rfl) rfl Tryz.ntmps94 rfl (by repeat (first | exact has00 | refine has01 ?_)) fun w0=>?_
  repeat' first|(refine wo ?_;first|(refine ao ?_;first|refine oa ?_)|refine oa ?_|refine gy ?_|refine gn ?_|(refine gsi (fun hB=>?_) (fun hB=>?_) <;> try (exfalso;omega)))|(refine gc ?_;first|refine ct ?_|(refine ci (fun hB=>?_) (fun hB=>?_) <;> try (exfalso;omega)))|refine sq ?_|refine rg ?_|refine xc ?_|refine nl ?_|refine rt ?_
  all_goals exact r1 ⟨rfl,rfl⟩
 ·rw [if_neg hc]
  by_cases hz:solE t k = 0
  ·rw [hz] at hC ⊢
   refine Tr.enter env _ Tryz.func94 (by kernel_rfl) rfl Tryz.ntmps94 rfl (by repeat (first | exact has00 | refine has01 ?_)) fun w0=>?_
   repeat' first|(refine gca ?_;first|(refine ca hC ?_;rintro _ _ ⟨rfl,rfl⟩))|(refine wo ?_;first|(refine ao ?_;first|refine oa ?_)|refine oa ?_|refine gy ?_|(refine gsi (fun hB=>?_) (fun hB=>?_) <;> try (exfalso;omega)))|(refine gc ?_;first|refine cf ?_|(refine ci (fun hB=>?_) (fun hB=>?_) <;> try (exfalso;omega)))|refine sq ?_|refine rg ?_|refine xc ?_|refine nl ?_|refine sk ?_|refine rt ?_
   exact r1 ⟨rfl,rfl⟩
  ·rw [h13 hz] at hC ⊢
   refine Tr.enter env _ Tryz.func94 (by kernel_rfl) rfl Tryz.ntmps94 rfl (by repeat (first | exact has00 | refine has01 ?_)) fun w0=>?_
   repeat' first|(refine gca ?_;first|(refine ca hC ?_;rintro _ _ ⟨rfl,rfl⟩))|(refine wo ?_;first|(refine ao ?_;first|refine oa ?_)|refine oa ?_|refine gy ?_|(refine gsi (fun hB=>?_) (fun hB=>?_) <;> try (exfalso;omega)))|(refine gc ?_;first|refine ct ?_|(refine ci (fun hB=>?_) (fun hB=>?_) <;> try (exfalso;omega)))|refine sq ?_|refine rg ?_|refine xc ?_|refine nl ?_|refine sk ?_|refine rt ?_
   exact r1 ⟨rfl,rfl⟩
end Go.Art
namespace Go.Art
open Go Go.Proofs Go.RowKit
attribute [local irreducible] Fit pt own ro vw mpc lpt vels rels mow lrc dfr
attribute [local irreducible] lmp lme mit velg relg bnd owl dfrl massW setsW massD smlT solE failV failQ stL
end Go.Art
namespace Go.Art
open Go Go.Proofs Go.RowKit
structure WholeF (n:Nat) (x:List Rat) (is:List Nat):Prop where
 sum:sR (fun i=>x.getD i 0) is = 1
 pre:∀ i,FB (sR (fun i=>x.getD i 0) (is.take i)) 8589934592
 one:∀ i,i < is.length→FB (x.getD (is.getD i 0) 0) 8589934592
 at_:∀ i,i < is.length→is.getD i 0 / (n + 1) + is.getD i 0 % (n + 1) = n
open Go Go.Proofs Go.RowKit
section
variable {P:Program} {E:Env P} {n:Sh} {X:Cx} {s:List K} {fr:Fr} {A A':List Ch} {ops:Array Oper} {rest:List Oper} {d m N sz by_:Nat} {ty t t' el:TypeId} {pos:String} {after:Array Edge} {v u z:Value} {x y:Operand} {xs vs:List Value} {dt:TypeDesc} {k1 k':IntKind} {w:World}
end
structure WgG where
 i:Nat
 a:Value
 b:Value
attribute [local irreducible] Fit pt own ro vw mpc lpt vels rels mow lrc dfr
attribute [local irreducible] lmp lme mit velg relg bnd owl dfrl massW setsW massD smlT solE failV failQ stL natG itemS oneS
end Go.Art
namespace Go.Art
open Go Go.Proofs Go.RowKit
abbrev StkP (L:List Rat) (e:Int) (u:Value) (D:List Ch):Prop:=∃ v hs,u = tup2 v (I e)∧hs.length = L.length∧D = [oww TRt 3 v L.length (rcs L hs),ofr hs L]
def stkV (t:List Int) (k n:Int):List Rat × Int:=if ripE t k n = 0 then (stL t k.toNat n.toNat,0) else ([],ripE t k n)
attribute [local irreducible] Fit pt own ro vw mpc lpt vels rels mow lrc dfr
attribute [local irreducible] lmp lme mit velg relg bnd owl dfrl massW setsW massD smlT solE failV failQ stL
end Go.Art
namespace Go.Art
open Go Go.Proofs Go.RowKit
section
variable {P:Program} {E:Env P} {n:Sh} {fr:Fr} {w:World}
theorem res_cac {fn:Func} {a:Act} (ha:Holds n a fr) {t u v:Nat} {ty1 ty2 ty3 T:TypeId} {d1 dt d3:TypeDesc} {z:Value} {sz by_ b:Nat} {cs vs:List Value} {a1 a3:Addr} {v1 v3:Value} (hr:fn.results = #[.cell t ty1,.cell u ty2,.cell v ty3])
  (ht1:lk E.und ty1 = some d1) (hg1:aggB d1 = false) (h1:get fr t = some (.pointer (some a1))) (hc1:w.cell? a1 = some v1) (ht:lk E.und ty2 = some dt) (hg:aggB dt = true) (hi:lk E.inf ty2 = some (z,sz,by_)) (h2:get fr u = some (ptr b))
  (hb:w.heap[b]? = some (.cells cs.toArray T (0,0))) (hv:cs.take sz = vs) (hl:vs.length = sz) (ht3:lk E.und ty3 = some d3) (hg3:aggB d3 = false) (h3:get fr v = some (.pointer (some a3))) (hc3:w.cell? a3 = some v3):(results fn a.tmps).run P w = .ok (.tuple #[v1,.agg vs.toArray,v3]) w:=by
 obtain ⟨inf,g1,_,g2,_⟩:=E.info hi
 have h5:=run_loadCells_list (P:=P) w ⟨b,0,none⟩ vs (fun m u hm=>by
  rw [Addr.add_lit]
  refine blk_cell hb ?_
  rw [← hv,List.getElem?_take] at hm
  split at hm
  ·simpa using hm
  ·cases hm)
 rw [hl] at h5
 have e1:a.tmps[t]?.getD undef = .pointer (some a1):=by have:=ha.slot t _ h1;simpa using this
 have e2:a.tmps[u]?.getD undef = ptr b:=by have:=ha.slot u _ h2;simpa using this
 have e3:a.tmps[v]?.getD undef = .pointer (some a3):=by have:=ha.slot v _ h3;simpa using this
 simp only [results,hr]
 simp [e1,e2,e3,asAddr,loadVar,aggB_t (w:=w) ht hg,sizeOf,typeInfo,g1,g2,h5,aggB_run (w:=w) ht1 hg1,hc1,aggB_run (w:=w) ht3 hg3,hc3]
variable {A A' D G:List Ch} {m:Nat}
theorem rcac {w0:World} {A0:List Ch} {R':Value→List Ch→Prop} {fn:Func} {t u v nn:Nat} {ty1 ty2 ty3 T T1 T3:TypeId} {d1 dt d3:TypeDesc} {z:Value} {sz by_ b1 b b3:Nat} {c1 cs c3 vs:List Value} {v1 v3:Value} (h:R' (.tuple #[v1,.agg vs.toArray,v3]) D)
  (hr:fn.results = #[.cell t ty1,.cell u ty2,.cell v ty3]:=by rfl) (ht1:lk E.und ty1 = some d1:=by rfl) (hg1:aggB d1 = false:=by rfl) (h1:get fr t = some (ptr b1):=by rfl) (m1:pt b1 c1 T1 ∈ A:=by exact memA) (hc1:c1[0]? = some v1:=by rfl)
  (ht:lk E.und ty2 = some dt:=by rfl) (hg:aggB dt = true:=by rfl) (hi:lk E.inf ty2 = some (z,sz,by_):=by rfl) (h2:get fr u = some (ptr b):=by rfl) (m2:pt b cs T ∈ A:=by exact memA) (hv:cs.take sz = vs:=by rfl) (hl:vs.length = sz:=by rfl)
  (ht3:lk E.und ty3 = some d3:=by rfl) (hg3:aggB d3 = false:=by rfl) (h3:get fr v = some (ptr b3):=by rfl) (m3:pt b3 c3 T3 ∈ A:=by exact memA) (hc3:c3[0]? = some v3:=by rfl) (hf:Fit A D G:=by exact fitA) (nb:∀ c ∈ D,∀ b,¬ c.bd b:=by (repeat (first | exact nb0 | refine nb1 ?_));first | done | fail) :
  TX E ⟨nn,[],none⟩ ⟨bodyPost P fn (RetP (PR w0 A0 R')),w0,A0⟩ [] .ret fr A:=⟨fun w hw=>⟨fun a ha=>
 bodyPost_ret (res_cac (E:=E) ha hr ht1 hg1 h1 (ptcell hw.sat m1 hc1) ht hg hi h2 (pt_at m2 hw.sat) hv hl ht3 hg3 h3 (ptcell hw.sat m3 hc3)) (ha.defers.trans rfl) ⟨_,rfl,PR.mk h hw hf nb⟩⟩⟩
theorem mcac {Ds:List Nat} {w0:World} {A0:List Ch} {R':Value→List Ch→Prop} {fn:Func} {t u v:Nat} {ty1 ty2 ty3 T T1 T3:TypeId} {d1 dt d3:TypeDesc} {z:Value} {sz by_ b1 b b3:Nat} {c1 cs c3 vs:List Value} {v1 v3:Value} (h:R' (.tuple #[v1,.agg vs.toArray,v3]) D)
  (hr:fn.results = #[.cell t ty1,.cell u ty2,.cell v ty3]:=by rfl) (ht1:lk E.und ty1 = some d1:=by rfl) (hg1:aggB d1 = false:=by rfl) (h1:get fr t = some (ptr b1):=by rfl) (hm:Tk (dfrl Ds) A A':=by exact tkA) (m1:pt b1 c1 T1 ∈ A':=by exact memA) (hc1:c1[0]? = some v1:=by rfl)
  (ht:lk E.und ty2 = some dt:=by rfl) (hg:aggB dt = true:=by rfl) (hi:lk E.inf ty2 = some (z,sz,by_):=by rfl) (h2:get fr u = some (ptr b):=by rfl) (m2:pt b cs T ∈ A':=by exact memA) (hv:cs.take sz = vs:=by rfl) (hl:vs.length = sz:=by rfl)
  (ht3:lk E.und ty3 = some d3:=by rfl) (hg3:aggB d3 = false:=by rfl) (h3:get fr v = some (ptr b3):=by rfl) (m3:pt b3 c3 T3 ∈ A':=by exact memA) (hc3:c3[0]? = some v3:=by rfl) (hf:Fit A' D G:=by exact fitA) (nb:∀ c ∈ D,∀ b,¬ c.bd b:=by (repeat (first | exact nb0 | refine nb1 ?_));first | done | fail) (hn:n = ⟨m,marks Ds,none⟩:=by rfl) :
  TX E n ⟨bodyPostM (FF none) 0 P fn (RetP (PR w0 A0 R')),w0,A0⟩ [] .ret fr A:=by
 subst hn
 exact mG (.inl rfl) h (fun w hw a ha=>res_cac (E:=E) ha hr ht1 hg1 h1 (ptcell hw m1 hc1) ht hg hi h2 (pt_at m2 hw) hv hl ht3 hg3 h3 (ptcell hw m3 hc3)) hm hf nb
end
theorem cmp_dg {q r:Rat} {B C:Nat} (hq:FB q B) (hr:FB r C):(dg (q - r).num.natAbs).length ≤ B + C + 1:=by
 rw [Rat.sub_def',mk_abs _ (Nat.mul_ne_zero q.den_nz r.den_nz)]
 refine (dg_len _ _).2 (Nat.lt_of_le_of_lt (Nat.div_le_self _ _) ?_)
 have h1:=(dg_len _ _).1 hq.1
 have h2:=(dg_len _ _).1 hq.2
 have h3:=(dg_len _ _).1 hr.1
 have h4:=(dg_len _ _).1 hr.2
 have h5:=Int.natAbs_sub_le (q.num * r.den) (r.num * q.den)
 rw [Int.natAbs_mul,Int.natAbs_mul,Int.natAbs_natCast,Int.natAbs_natCast] at h5
 have h6:q.num.natAbs * r.den < 18446744073709551616 ^ B * 18446744073709551616 ^ C:=Nat.mul_lt_mul'' h1 h4
 have h7:r.num.natAbs * q.den < 18446744073709551616 ^ C * 18446744073709551616 ^ B:=Nat.mul_lt_mul'' h3 h2
 rw [Nat.mul_comm (18446744073709551616 ^ C)] at h7
 rw [Nat.pow_succ,Nat.pow_add]
 omega
attribute [local irreducible] Fit pt own ro vw mpc lpt vels rels mow lrc dfr
attribute [local irreducible] lmp lme mit velg relg bnd owl dfrl gow shB grB
abbrev NoL (e:Int) (u:Value) (D:List Ch):Prop:=u = tup3 (I 0) rv0 (I e)∧D = []
theorem Least_err (tv:Value) (t:List Int) (k n:Int) (ev:Value) (e1 e2:Value) (h:ripE t k n ≠ 0) (b:Bool):Tr Tryz.prog 43 [tv,I k,.agg #[.bool b,e1,e2],I n] [vw tv (Is t)] [] (NoL (ripE t k n)):=by
 have hS:=curefuses_tr tv t k n
 generalize ripE t k n = e at *
 refine Tr.enter env _ Tryz.func43 (by kernel_rfl) rfl Tryz.ntmps43 rfl (by repeat (first | exact has00 | refine has01 ?_)) fun w0=>?_
 repeat' first|(refine gca ?_;first|(refine ca hS ?_;rintro _ _ ⟨rfl,rfl⟩))|refine bx fun c0=>?_|refine al fun c=>?_|refine bdz ?_|refine srz ?_|(refine wo ?_;first|(refine ao ?_;first|refine oa ?_)|refine oa ?_|refine sr ?_)|(refine gc ?_;first|(refine cn (fun hB=>?_) (fun hB=>?_) <;> try (exfalso;omega)))|refine sq ?_|refine rg ?_|refine xc ?_|refine nl ?_|refine rt ?_
 exact rcac (vs:=[.bool false,nS,nS]) ⟨rfl,rfl⟩
def leastR (F:Nat→Rat) (q:Rat):Nat→Nat→Option Nat
 | _,0=>none
 | i,m + 1=>if (F i - q).num.sign ≤ 0 then some i else leastR F q (i + 1) m
theorem Least_range (tv:Value) (t:List Int) (k n:Nat) (q:Rat) (e1 e2:Value) (he1:e1.oneCell' = true) (he2:e2.oneCell' = true) (hz:solE t k = 0) (hk:k ≤ 1024) (hn:n ≤ 4096) (hq:FB q 1000) (h:¬ ((q - 1).num.sign < 0∧0 < q.num.sign)) :
  Tr Tryz.prog 43 [tv,I k,rv q e1 e2,I n] [vw tv (Is t),vw e1 (Us (dg q.num.natAbs)),vw e2 (Us (dg q.den))] [] (NoL 3):=by
 have hk1:=(solE_zero hz).1
 have hR:=curefuses_tr tv t k n
 rw [show ripE t k n = 0 by unfold ripE;rw [if_neg (by omega)];exact hz] at hR
 have hK:=FCheck_tr q e1 e2 he1 he2 (hq.le (by decide))
 have hone:=FPair_tr 1 1 (by decide) (by decide) (by decide)
 have hS:=ISign_tr q.num e1 he1 (Nat.le_trans hq.1 (by decide))
 have h1F:FB (mkRat ((1:Nat):Int) 1) 1000:=⟨Nat.le_trans (FB_mk1 (a:=1) (D:=1) (by decide) (by decide) (by decide)).1 (by decide),Nat.le_trans (FB_mk1 (a:=1) (D:=1) (by decide) (by decide) (by decide)).2 (by decide)⟩
 have hC:=fun v1 v2 v3 v4 g1 g2 g3 g4=>FCmp_tr q (mkRat ((1:Nat):Int) 1) v1 v2 v3 v4 g1 g2 g3 g4 (hq.le (by decide)) (h1F.le (by decide)) (Nat.le_trans (cmp_dg hq h1F) (by decide))
 rw [← mk_one 1 (by decide)] at h
 clear hz h1F
 generalize mkRat ((1:Nat):Int) 1 = q1 at *
 unfold FQ2 at hone
 generalize (q - q1).num.sign = s1 at *
 have hsg:q.num.sign ≤ 0 ↔ ¬ 0 < q.num.sign:=by omega
 generalize q.num.sign = s2 at *
 by_cases hs1:0 ≤ s1
 ·refine Tr.enter env _ Tryz.func43 (by kernel_rfl) rfl Tryz.ntmps43 rfl (by repeat (first | exact has00 | refine has01 ?_)) fun w0=>?_
  repeat' first|(refine gca ?_;first|(refine ca hR ?_;rintro _ _ ⟨rfl,rfl⟩)|(refine ca hK ?_;rintro _ _ ⟨rfl,rfl⟩)|(refine ca hone ?_;rintro _ _ ⟨o1,o2,rfl,ho1,ho2,rfl⟩)|(refine ca (hC e1 e2 o1 o2 he1 he2 ho1 ho2) ?_;rintro _ _ ⟨rfl,rfl⟩)|(refine ca hS ?_;rintro _ _ ⟨rfl,rfl⟩))|refine bx fun c0=>?_|refine al fun c=>?_|refine lda (vs:=[.bool (decide (q.num < 0)),e1,e2]) ?_|refine lda ?_|refine bdz ?_|refine srz ?_|(refine wo ?_;first|(refine ao ?_;first|refine oa ?_)|refine oa ?_|refine sr ?_|refine gn ?_|(refine gsi (fun hB=>?_) (fun hB=>?_) <;> try (exfalso;omega)))|(refine gc ?_;first|refine ct ?_|refine cf ?_)|refine sq ?_|refine rg ?_|refine xc ?_|refine nl ?_|refine sk ?_|refine rt ?_
  exact rcac (vs:=[.bool false,nS,nS]) ⟨rfl,rfl⟩
 ·have hs2:s2 ≤ 0:=by omega
  refine Tr.enter env _ Tryz.func43 (by kernel_rfl) rfl Tryz.ntmps43 rfl (by repeat (first | exact has00 | refine has01 ?_)) fun w0=>?_
  repeat' first|(refine gca ?_;first|(refine ca hR ?_;rintro _ _ ⟨rfl,rfl⟩)|(refine ca hK ?_;rintro _ _ ⟨rfl,rfl⟩)|(refine ca hone ?_;rintro _ _ ⟨o1,o2,rfl,ho1,ho2,rfl⟩)|(refine ca (hC e1 e2 o1 o2 he1 he2 ho1 ho2) ?_;rintro _ _ ⟨rfl,rfl⟩)|(refine ca hS ?_;rintro _ _ ⟨rfl,rfl⟩))|refine bx fun c0=>?_|refine al fun c=>?_|refine lda (vs:=[.bool (decide (q.num < 0)),e1,e2]) ?_|refine lda (vs:=[.bool (decide (q.num < 0)),e1]) ?_|refine lda ?_|refine bdz ?_|refine srz ?_|(refine wo ?_;first|(refine ao ?_;first|refine oa ?_)|refine oa ?_|refine sr ?_|refine gy ?_|(refine gsi (fun hB=>?_) (fun hB=>?_) <;> try (exfalso;omega)))|(refine gc ?_;first|refine cf ?_|(refine ci (fun hB=>?_) (fun hB=>?_) <;> try (exfalso;omega)))|refine sq ?_|refine rg ?_|refine xc ?_|refine nl ?_|refine sk ?_|refine rt ?_
  exact rcac (vs:=[.bool false,nS,nS]) ⟨rfl,rfl⟩
end Go.Art
namespace Go.Art
open Go Go.Proofs Go.RowKit
theorem least_some {F:Nat→Rat} {q:Rat} {i:Nat} (h:(F i - q).num.sign ≤ 0):∀ m s,s ≤ i→i < s + m→(∀ j,s ≤ j→j < i→¬ (F j - q).num.sign ≤ 0)→leastR F q s m = some i
 | 0,s,h1,h2,_=>by omega
 | m + 1,s,h1,h2,h3=>by
  unfold leastR
  by_cases e:s = i
  ·subst e;rw [if_pos h]
  ·rw [if_neg (h3 s (Nat.le_refl s) (by omega))]
   exact least_some h m (s + 1) (by omega) (by omega) fun j g1 g2=>h3 j (by omega) g2
theorem least_none {F:Nat→Rat} {q:Rat}:∀ m s,(∀ j,s ≤ j→j < s + m→¬ (F j - q).num.sign ≤ 0)→leastR F q s m = none
 | 0,_,_=>rfl
 | m + 1,s,h=>by
  unfold leastR
  rw [if_neg (h s (Nat.le_refl s) (by omega))]
  exact least_none m (s + 1) fun j g1 g2=>h j (by omega) (by omega)
def leastW (F:Nat→Rat) (q:Rat) (n:Nat):Int × Fr3 × Int:=match leastR F q 0 (n + 1) with
 | some i=>((i:Int),rqf (F i),0)
 | none=>(0,rqn,14)
theorem leastW_some {F:Nat→Rat} {q:Rat} {n i:Nat} (h:leastR F q 0 (n + 1) = some i):leastW F q n = ((i:Int),rqf (F i),0):=by unfold leastW;rw [h]
theorem leastW_none {F:Nat→Rat} {q:Rat} {n:Nat} (h:leastR F q 0 (n + 1) = none):leastW F q n = (0,rqn,14):=by unfold leastW;rw [h]
structure LsG where
 d:Bool
 x:Int
 f:Fr3
 e:Int
 v1:Value
 v2:Value
attribute [local irreducible] Fit pt own ro vw mpc lpt vels rels mow lrc dfr
attribute [local irreducible] lmp lme mit velg relg bnd owl dfrl gow shB grB
abbrev TEr':TypeId:=27
abbrev LW (r:Int × Fr3 × Int) (u:Value) (D:List Ch):Prop:=∃ v1 v2,u = tup3 (I r.1) (.agg #[.bool r.2.1.1,v1,v2]) (I r.2.2)∧v1.oneCell' = true∧v2.oneCell' = true∧D = [own T64 v1 (Us r.2.1.2.1),own T64 v2 (Us r.2.1.2.2)]
set_option maxHeartbeats 1000000 in
theorem Least_ok (tv:Value) (htv:tv.oneCell' = true) (t:List Int) (k n:Nat) (q:Rat) (e1 e2:Value) (he1:e1.oneCell' = true) (he2:e2.oneCell' = true) (hz:solE t k = 0) (hk:k ≤ 40) (hl:t.length ≤ 12) (hn:n ≤ 12) (hq:FB q 1000) (h:(q - 1).num.sign < 0∧0 < q.num.sign) :
  Tr Tryz.prog 43 [tv,I k,rv q e1 e2,I n] [vw tv (Is t),vw e1 (Us (dg q.num.natAbs)),vw e2 (Us (dg q.den))] [] (LW (leastW (failQ t k) q n)):=by
 have hk1:=(solE_zero hz).1
 have hR:=curefuses_tr tv t k n
 rw [show ripE t k n = 0 by unfold ripE;rw [if_neg (by omega)];exact hz] at hR
 have hK:=FCheck_tr q e1 e2 he1 he2 (hq.le (by decide))
 have hone:=FPair_tr 1 1 (by decide) (by decide) (by decide)
 have hS:=ISign_tr q.num e1 he1 (Nat.le_trans hq.1 (by decide))
 have h1F:FB (mkRat ((1:Nat):Int) 1) 1000:=⟨Nat.le_trans (FB_mk1 (a:=1) (D:=1) (by decide) (by decide) (by decide)).1 (by decide),Nat.le_trans (FB_mk1 (a:=1) (D:=1) (by decide) (by decide) (by decide)).2 (by decide)⟩
 have hC:=fun v1 v2 v3 v4 g1 g2 g3 g4=>FCmp_tr q (mkRat ((1:Nat):Int) 1) v1 v2 v3 v4 g1 g2 g3 g4 (hq.le (by decide)) (h1F.le (by decide)) (Nat.le_trans (cmp_dg hq h1F) (by decide))
 rw [← mk_one 1 (by decide)] at h
 have hP:=points_tr tv htv (k:Int) ((n + 1:Nat):Int)
 have hrunL:=fun p1 p2 p3=>@SeqR.run _ _ _ _ _ (points1_seq p1 p2 p3 tv htv t k (n + 1) hz hk hl (by omega))
 have hD:=fun i (hi:i < n + 1) v1 v2 v3 v4 g1 g2 g3 g4=>FCmp_tr (failQ t k i) q v1 v2 v3 v4 g1 g2 g3 g4 (failQ_FBc hz hk hl (by omega)) (hq.le (by decide)) (Nat.le_trans (cmp_dg (failQ_FBc hz hk hl (show i ≤ 12 by omega)) hq) (by decide))
 have hcl:=curL_len t k (n + 1)
 have hget:=fun i (hi:i < n + 1)=>curL_get (t:=t) (k:=k) hi
 have hn1:(n:Int) + 1 = ((n + 1:Nat):Int):=rfl
 clear hz h1F
 generalize mkRat ((1:Nat):Int) 1 = q1 at *
 unfold FQ2 at hone
 generalize (q - q1).num.sign = s1 at *
 generalize q.num.sign = s2 at *
 obtain ⟨hs1,hs2⟩:=h
 generalize curL t k (n + 1) = L at *
 generalize failQ t k = F at *
 refine Tr.enterM env _ Tryz.func43 (by kernel_rfl) rfl Tryz.ntmps43 rfl (by repeat (first | exact has00 | refine has01 ?_)) fun w0=>?_
 repeat' first|(refine gca ?_;first|(refine ca hR ?_;rintro _ _ ⟨rfl,rfl⟩)|(refine ca hK ?_;rintro _ _ ⟨rfl,rfl⟩)|(refine ca hone ?_;rintro _ _ ⟨o1,o2,rfl,ho1,ho2,rfl⟩)|(refine ca (hC e1 e2 o1 o2 he1 he2 ho1 ho2) ?_;rintro _ _ ⟨rfl,rfl⟩)|(refine ca hS ?_;rintro _ _ ⟨rfl,rfl⟩)|(refine ca hP ?_;rintro _ _ ⟨p1,p2,p3,rfl,rfl⟩))|refine bx fun c0=>?_|refine al fun c=>?_|refine lda (vs:=[.bool (decide (q.num < 0)),e1,e2]) ?_|refine lda (vs:=[.bool (decide (q.num < 0)),e1]) ?_|refine lda ?_|refine srz ?_|(refine aw (m:=(n:Int) + 1) ?_;rw [hn1])|(refine wo ?_;first|(refine ao ?_;first|refine oa ?_)|refine oa ?_|refine gy ?_|(refine gsi (fun hB=>?_) (fun hB=>?_) <;> try (exfalso;omega)))|(refine gc ?_;first|refine cf ?_|(refine ci (fun hB=>?_) (fun hB=>?_) <;> try (exfalso;omega)))|refine sq ?_|refine rg ?_|refine xc ?_|refine nl ?_|refine sk ?_|refine bk ?_
 rename_i c8 c9 c10 hs3
 refine TC.im (own_nil T64 _) (TC.im (own_nil T64 _) ?_)
 have hrun:=@hrunL p1 p2 p3
 clear hrunL hP hR hK hone hC hS
 refine TC.range [lbd [lpt c0 [.bool (decide (q.num < 0)),e1,e2] TRt,vw e1 (Us (dg q.num.natAbs)),vw e2 (Us (dg q.den))],lbd [lpt p1 [I ((n + 1:Nat):Int)] TLI,lpt p2 [tv] TLs,lpt p3 [I k] TLI,vw tv (Is t)]] [pt c8 [I 0] TLI,pt c9 [.bool false,nS,nS] TRt,pt c10 [I 0] TEr',own T64 nS (Us []),own T64 nS (Us [])] (fun l2 rec Dm pend B'=>∃ v1 v2,v1.oneCell' = true∧v2.oneCell' = true∧((∃ i,leastR F q 0 (n + 1) = some i∧pend = some .ret∧B' = [dfr Dm,pt c8 [I (i:Nat)] TLI,pt c9 (rrow (F i) (v1,v2)) TRt,pt c10 [I 0] TEr',own T64 v1 (Us (dg (F i).num.natAbs)),own T64 v2 (Us (dg (F i).den))])∨(leastR F q 0 (n + 1) = none∧pend = none∧B' = [dfr Dm,pt c8 [I 0] TLI,pt c9 [.bool false,v1,v2] TRt,pt c10 [I 0] TEr',own T64 v1 (Us []),own T64 v2 (Us [])]))) ?_ ?_ (hp:=has1 (lbd_of (has1 hasA (has1 hasA (has1 hasA has0)))) (has1 (lbd_of (has1 hasA (has1 hasA (has1 hasA (has1 hasA has0))))) has0))
 rotate_left
 ·rintro l2 rec Dm pend B' ⟨v1,v2,hv1,hv2,⟨i,hi,rfl,rfl⟩ | ⟨hi,rfl,rfl⟩⟩
  ·show TC env _ _ _ _ _ _
   refine TC.im (dfrl_nil _) ?_
   refine TC.im (dfrl_push (D:=Dm) (Ds:=[]) fitA) ?_
   rw [leastW_some hi]
   generalize F i = y at *
   repeat' first|refine rt ?_
   exact mcac (Ds:=[Dm]) (vs:=rrow y (v1,v2)) ⟨v1,v2,rfl,hv1,hv2,rfl⟩
  ·show TX env _ _ _ _ _ _
   refine TX.im (dfrl_nil _) ?_
   refine TX.im (dfrl_push (D:=Dm) (Ds:=[]) fitA) ?_
   rw [leastW_none hi]
   repeat' first|refine bdz ?_|refine srz ?_ (hj:=Nat.le_of_ble_eq_true rfl)|(refine wo ?_;first|refine sr ?_)|refine sq ?_|refine rg ?_|refine xc ?_|refine nl ?_|refine rt ?_|refine xb ?_
   refine TX.im (own_nil T64 _) (TX.im (own_nil T64 _) ?_)
   exact mcac (Ds:=[Dm]) (vs:=[.bool false,nS,nS]) ⟨nS,nS,rfl,rfl,rfl,rfl⟩
 intro rec l2 Dm hr
 refine Tr.unb (hrun (α:=LsG) (lbd [lpt c0 [.bool (decide (q.num < 0)),e1,e2] TRt,vw e1 (Us (dg q.num.natAbs)),vw e2 (Us (dg q.den))]) l2 (fun g=>bnd [lrc l2 rec (if g.d then .done else .ready) (if g.d then some .ret else none),dfr Dm,pt c8 [I g.x] TLI,pt c9 [.bool g.f.1,g.v1,g.v2] TRt,pt c10 [I 0] TEr',own T64 g.v1 (Us g.f.2.1),own T64 g.v2 (Us g.f.2.2)]) (fun g j=>g = ⟨false,0,rqn,0,nS,nS⟩∧∀ i,i < j→¬ (F i - q).num.sign ≤ 0) (fun g=>g.d = true∧g.v1.oneCell' = true∧g.v2.oneCell' = true∧∃ i,leastR F q 0 (n + 1) = some i∧g.x = (i:Nat)∧g.f = rqf (F i)) ⟨false,0,rqn,0,nS,nS⟩ ⟨rfl,fun i h=>absurd h (Nat.not_lt_zero i)⟩ (fun p=>bnd_nob (by repeat (first | exact nb0 | refine nb1 ?_))) ?_) ?_
 rotate_left
 ·rintro _ _ ⟨⟨d,x,f,e,v1,v2⟩,rfl,⟨h1,h2⟩ | ⟨h1,h2,h3,i,h4,h5,h6⟩⟩
  ·cases h1
   exact ⟨_,rfl,.ready,none,_,rfl,by decide,nS,nS,rfl,rfl,.inr ⟨least_none _ _ fun j _ g2=>h2 j (by rw [hcl];omega),rfl,rfl⟩⟩
  ·dsimp only at h1 h2 h3 h5 h6
   subst h1 h5 h6
   exact ⟨_,rfl,.done,some .ret,_,rfl,by decide,v1,v2,h2,h3,.inl ⟨i,h4,rfl,rfl⟩⟩
 clear hrun
 rintro g j x1 x2 hx1 hx2 ⟨rfl,hno⟩ hj
 rw [hcl] at hj
 have hDj:=hD j hj x1 x2 e1 e2 hx1 hx2 he1 he2
 have hL:=hget j hj
 rw [hL]
 clear hget hD hL
 refine Ty.bndL (K:=[own T64 x1 (Us (dg (F j).num.natAbs)),own T64 x2 (Us (dg (F j).den))]) (C:=[lrc l2 rec .ready none,dfr Dm,pt c8 [I 0] TLI,pt c9 [.bool false,nS,nS] TRt,pt c10 [I 0] TEr',own T64 nS (Us []),own T64 nS (Us [])]) ?_
 refine Ty.pre (pre:=[lpt c0 [.bool (decide (q.num < 0)),e1,e2] TRt,vw e1 (Us (dg q.num.natAbs)),vw e2 (Us (dg q.den))]) ?_ (has_lbds (C:=[lpt c0 [.bool (decide (q.num < 0)),e1,e2] TRt,vw e1 (Us (dg q.num.natAbs)),vw e2 (Us (dg q.den))]) (List.Mem.head _) _ (by repeat (first | exact has00 | refine has01 ?_)) fun c hc=>hc) (by repeat (first | exact has00 | refine has01 ?_))
 refine Ty.intro env hr (by repeat (first | exact has00 | refine has01 ?_)) fun w1=>?_
 by_cases hle:(F j - q).num.sign ≤ 0
 rotate_left
 ·have hno':∀ i,i < j + 1→¬ (F i - q).num.sign ≤ 0:=fun i hi=>by
   rcases Nat.lt_or_ge i j with g | g
   ·exact hno i g
   ·obtain rfl:i = j:=by omega
    exact hle
  clear hno
  generalize (F j - q).num.sign = sj at *
  generalize F j = y at *
  repeat' first|(refine gca ?_;first|(refine ca hDj ?_;rintro _ _ ⟨rfl,rfl⟩))|refine al fun c17=>?_|refine xbeg ?_|refine lda (cs:=rrow y (x1,x2)) ?_|refine ldla (vs:=rrow q (e1,e2)) ?_|refine srz ?_ (hj:=Nat.le_of_ble_eq_true rfl)|(refine wo ?_;first|(refine ao ?_;first|refine oa ?_)|refine oa ?_)|(refine gc ?_;first|(refine ci (fun hB=>?_) (fun hB=>?_) <;> try (exfalso;omega)))|refine sq ?_|refine rg ?_|refine xc ?_|refine nl ?_|refine sk ?_|refine bk ?_|refine xb ?_
  exact yn (D:=[lrc l2 rec .ready none,dfr Dm,pt c8 [I 0] TLI,pt c9 [.bool false,nS,nS] TRt,pt c10 [I 0] TEr',own T64 nS (Us []),own T64 nS (Us [])]) ⟨⟨false,0,rqn,0,nS,nS⟩,rfl,.inl ⟨rfl,rfl,hno'⟩⟩
 have hsm:leastR F q 0 (n + 1) = some j:=least_some hle (n + 1) 0 (Nat.zero_le _) (by omega) fun i _ hi=>hno i hi
 clear hno
 generalize (F j - q).num.sign = sj at *
 obtain ⟨y,hy⟩ : ∃ y,y = F j:=⟨_,rfl⟩
 rw [← hy] at hDj ⊢
 repeat' first|(refine gca ?_;first|(refine ca hDj ?_;rintro _ _ ⟨rfl,rfl⟩))|refine al fun c17=>?_|refine xbeg ?_|refine lda (cs:=rrow y (x1,x2)) ?_|refine ldla (vs:=rrow q (e1,e2)) ?_|refine srz ?_ (hj:=Nat.le_of_ble_eq_true rfl)|(refine wo ?_;first|(refine ao ?_;first|refine oa ?_)|refine oa ?_)|(refine gc ?_;first|(refine ci (fun hB=>?_) (fun hB=>?_) <;> try (exfalso;omega)))|refine sq ?_|refine rg ?_|refine xc ?_|refine nl ?_|refine bk ?_
 refine rs (fun _=>True) ?_ (fun _ _=>trivial)
 refine kra 0 ?_
 refine t2 1 2 ?_ ?_
 ·refine lda (vs:=rrow y (x1,x2)) ?_
  refine nl ?_
  refine te (fun _ _=>trivial) ?_
  refine t1 2 ?_
  refine sr ?_
  refine nl ?_
  refine te (fun _ _=>trivial) ?_
  refine t1 3 ?_
  refine srz ?_ (hj:=Nat.le_of_ble_eq_true rfl)
  refine nl ?_
  refine te (fun _ _=>trivial) ?_
  refine t1 4 ?_
  refine sr ?_
  refine nl ?_
  refine te (fun _ _=>trivial) ?_
  refine t0 ?_
  repeat' first|refine xc ?_|refine rt ?_
  exact yr (D:=[lrc l2 rec .done (some .ret),dfr Dm,pt c8 [I j] TLI,pt c9 (rrow y (x1,x2)) TRt,pt c10 [I 0] TEr',own T64 x1 (Us (dg y.num.natAbs)),own T64 x2 (Us (dg y.den))]) ⟨⟨true,j,rqf y,0,x1,x2⟩,rfl,.inr ⟨rfl,rfl,hx1,hx2,j,hsm,rfl,by rw [hy]⟩⟩
 ·refine sr ?_
  refine nl ?_
  refine te (fun _ _=>trivial) ?_
  refine t1 1 ?_
  refine lda (vs:=rrow y (x1,x2)) ?_
  refine nl ?_
  refine te (fun _ _=>trivial) ?_
  refine t1 3 ?_
  refine srz ?_ (hj:=Nat.le_of_ble_eq_true rfl)
  refine nl ?_
  refine te (fun _ _=>trivial) ?_
  refine t1 4 ?_
  refine sr ?_
  refine nl ?_
  refine te (fun _ _=>trivial) ?_
  refine t0 ?_
  repeat' first|refine xc ?_|refine rt ?_
  exact yr (D:=[lrc l2 rec .done (some .ret),dfr Dm,pt c8 [I j] TLI,pt c9 (rrow y (x1,x2)) TRt,pt c10 [I 0] TEr',own T64 x1 (Us (dg y.num.natAbs)),own T64 x2 (Us (dg y.den))]) ⟨⟨true,j,rqf y,0,x1,x2⟩,rfl,.inr ⟨rfl,rfl,hx1,hx2,j,hsm,rfl,by rw [hy]⟩⟩
end Go.Art
namespace Go.Art
open Go Go.Proofs Go.RowKit
theorem curL_one:curL [1,1] 2 (2 + 1) = [mkRat ((1:Nat):Int) 1,mkRat ((1:Nat):Int) 1,mkRat ((3:Nat):Int) 8]:=by decide +kernel
theorem least_one:leastW (failQ [1,1] 2) (mkRat ((1:Nat):Int) 2) 9 = (((2:Nat):Int),rqf (mkRat ((3:Nat):Int) 8),0):=by decide +kernel
theorem half_at:(mkRat ((1:Nat):Int) 2 - 1).num.sign < 0∧0 < (mkRat ((1:Nat):Int) 2).num.sign:=by decide +kernel
theorem solE_c1:solE [1,1] ((2:Nat):Int) = 0:=by decide
attribute [local irreducible] Fit pt own ro vw mpc lpt vels rels mow lrc dfr
attribute [local irreducible] lmp lme mit velg relg bnd owl dfrl massW setsW massD smlT solE failQ stL curL leastW
theorem is26_tr (t:Fr3) (n1 d1:Value) (x y:Nat) (hx:x < 9223372036854775808) (hy:y < 9223372036854775808) (hy0:y ≠ 0) (h:t = rqf (mkRat x y)):Tr Tryz.prog 49 [.agg #[.bool t.1,n1,d1],I x,I y] [vw n1 (Us t.2.1),vw d1 (Us t.2.2)] []
  fun v D=>v = .bool true∧D = []:=by
 subst h
 have hP:=FPair_tr x y hx hy hy0
 unfold FQ2 at hP
 generalize mkRat (x:Int) y = q at *
 refine Tr.enter env _ Tryz.func49 (by kernel_rfl) rfl Tryz.ntmps49 rfl (by repeat (first | exact has00 | refine has01 ?_)) fun w0=>?_
 repeat' first|(refine gca ?_;first|(refine ca hP ?_;rintro _ _ ⟨vn,vd,rfl,hvn,hvd,rfl⟩)|(refine ca (SameRatioT_tr (rqf q) n1 d1 vn vd) ?_;rintro _ _ ⟨rfl,rfl⟩))|refine bx fun b1=>?_|refine al fun b2=>?_|refine lda ?_|refine srz ?_|(refine wo ?_;first|(refine ao ?_;first|refine oa ?_)|refine oa ?_|refine gy ?_)|refine sq ?_|refine rg ?_|refine xc ?_|refine nl ?_|refine rt ?_
 exact r1 ⟨rfl,rfl⟩
theorem half26_tr:Tr Tryz.prog 51 [] [] [] (FQ (mkRat ((1:Nat):Int) 2)):=by
 have hP:=FPair_tr 1 2 (by decide) (by decide) (by decide)
 unfold FQ2 at hP
 unfold FQ
 generalize mkRat ((1:Nat):Int) 2 = s at *
 refine Tr.enter env _ Tryz.func51 (by kernel_rfl) rfl Tryz.ntmps51 rfl (by repeat (first | exact has00 | refine has01 ?_)) fun w0=>?_
 repeat' first|(refine gca ?_;first|(refine ca hP ?_;rintro _ _ ⟨n1,n2,rfl,hn1,hn2,rfl⟩))|refine al fun b2=>?_|refine lda ?_|refine srz ?_|(refine wo ?_;first|refine oa ?_)|refine sq ?_|refine rg ?_|refine xc ?_|refine nl ?_|refine rt ?_
 exact rca1 (cs:=[.bool (decide (s.num < 0)),n1,n2]) (vs:=[.bool (decide (s.num < 0)),n1,n2]) (T:=TRt) ⟨n1,n2,rfl,hn1,hn2,rfl⟩
theorem leasts26_tr (tv:Value) (htv:tv.oneCell' = true) (t:List Int) (k n w x y:Nat) (q:Rat) (e1 e2:Value) (he1:e1.oneCell' = true) (he2:e2.oneCell' = true) (hz:solE t k = 0) (hk:k ≤ 40) (hl:t.length ≤ 12) (hn:n ≤ 12) (hq:FB q 1000) (h:(q - 1).num.sign < 0∧0 < q.num.sign)
  (hw:leastW (failQ t k) q n = ((w:Int),rqf (mkRat (x:Int) y),0)) (hx:x < 9223372036854775808) (hy:y < 9223372036854775808) (hy0:y ≠ 0) :
  Tr Tryz.prog 50 [tv,I k,rv q e1 e2,I n,I w,I x,I y,I 0] [vw tv (Is t),vw e1 (Us (dg q.num.natAbs)),vw e2 (Us (dg q.den))] [] fun v D=>v = .bool true∧D = []:=by
 have hL:=Least_ok tv htv t k n q e1 e2 he1 he2 hz hk hl hn hq h
 have hI:=fun a b=>is26_tr (rqf (mkRat (x:Int) y)) a b x y hx hy hy0 rfl
 rw [hw] at hL
 clear hw h
 generalize mkRat (x:Int) y = p at *
 unfold LW at hL
 dsimp only at hL
 refine Tr.enter env _ Tryz.func50 (by kernel_rfl) rfl Tryz.ntmps50 rfl (by repeat (first | exact has00 | refine has01 ?_)) fun w0=>?_
 repeat' first|(refine gca ?_;first|(refine ca hL ?_;rintro _ _ ⟨n1,n2,rfl,hn1,hn2,rfl⟩)|(refine ca (hI n1 n2) ?_;rintro _ _ ⟨rfl,rfl⟩))|refine bx fun b1=>?_|refine al fun b2=>?_|refine lda (vs:=[.bool (decide (q.num < 0)),e1,e2]) ?_|refine lda ?_|refine srz ?_|(refine wo ?_;first|(refine ao ?_;first|refine oa ?_)|refine oa ?_|refine gy ?_|(refine gsi (fun hB=>?_) (fun hB=>?_) <;> try (exfalso;omega)))|(refine gc ?_;first|refine cf ?_)|refine sq ?_|refine rg ?_|refine xc ?_|refine nl ?_|refine sk ?_|refine rt ?_
 all_goals exact r1 ⟨rfl,rfl⟩
theorem cvA_tr (s:Value) (hs:s.oneCell' = true):Tr Tryz.prog 45 [s,I ((2:Nat):Int),I ((2:Nat):Int)] [vw s (Is [1,1])] [] fun w D=>∃ v h0 h1 h2,w = tup2 v (I 0)∧D = [oww TRt 3 v 3 (rcs [mkRat ((1:Nat):Int) 1,mkRat ((1:Nat):Int) 1,mkRat ((3:Nat):Int) 8] [h0,h1,h2]),ofr [h0,h1,h2] [mkRat ((1:Nat):Int) 1,mkRat ((1:Nat):Int) 1,mkRat ((3:Nat):Int) 8]]:=
 (Curve_ok s hs [1,1] 2 2 solE_c1 (by decide) (by decide) (by decide)).mono fun w D h=>by
  obtain ⟨v,hs,rfl,hv,hl,rfl⟩:=h
  obtain ⟨h0,h1,h2,rfl⟩:=len3 hl
  exact ⟨v,h0,h1,h2,rfl,by rw [curL_one]⟩
theorem awake26_tr:Tr Tryz.prog 41 [] [] [] fun v D=>v = .bool true∧D = []:=by
 have hA:=cvA_tr
 have hI1:=fun a b=>is26_tr (rqf (mkRat ((1:Nat):Int) 1)) a b 1 1 (by decide) (by decide) (by decide) rfl
 have hI3:=fun a b=>is26_tr (rqf (mkRat ((3:Nat):Int) 8)) a b 3 8 (by decide) (by decide) (by decide) rfl
 have hH:=half26_tr
 have hL:=fun s a b hs ha hb=>leasts26_tr s hs [1,1] 2 9 2 3 8 (mkRat ((1:Nat):Int) 2) a b ha hb solE_c1 (by decide) (by decide) (by decide) (FB.le (B:=1) (FB_mk1 (a:=1) (D:=2) (by decide) (by decide) (by decide)) (by decide)) half_at least_one (by decide) (by decide) (by decide)
 unfold FQ at hH
 generalize mkRat ((1:Nat):Int) 1 = q1 at *
 generalize mkRat ((3:Nat):Int) 8 = q3 at *
 generalize mkRat ((1:Nat):Int) 2 = q2 at *
 refine Tr.enter env _ Tryz.func41 (by kernel_rfl) rfl Tryz.ntmps41 rfl (by repeat (first | exact has00 | refine has01 ?_)) fun w0=>?_
 repeat' first|(refine gca ?_;first|(refine ca (hA v hv) ?_;rintro _ _ ⟨sv,a0,a1,a2,rfl,rfl⟩))|refine slz fun v hv=>?_|(refine wo ?_;first|(refine ao ?_;first|refine oa ?_)|refine oa ?_|refine gy ?_)|refine sq ?_|refine rg ?_|refine xc ?_|refine nl ?_
 have fa:=fun (F:List Ch) (h:ofr [a0,a1,a2] [q1,q1,q3] ∈ F) (i:Nat) (hi:i < 3)=>has_fr (has_ofr (hs:=[a0,a1,a2]) (qs:=[q1,q1,q3]) rfl h) rfl (i:=i) hi
 repeat' first|(refine gca ?_;first|(refine ca (hI1 a0.1 a0.2) ?_ (hp:=has1 (fa _ memA 0 (by decide)).1 (has1 (fa _ memA 0 (by decide)).2 has0));rintro _ _ ⟨rfl,rfl⟩)|(refine ca (hI1 a1.1 a1.2) ?_ (hp:=has1 (fa _ memA 1 (by decide)).1 (has1 (fa _ memA 1 (by decide)).2 has0));rintro _ _ ⟨rfl,rfl⟩)|(refine ca (hI3 a2.1 a2.2) ?_ (hp:=has1 (fa _ memA 2 (by decide)).1 (has1 (fa _ memA 2 (by decide)).2 has0));rintro _ _ ⟨rfl,rfl⟩)|(refine ca hH ?_;rintro _ _ ⟨h1,h2,rfl,hh1,hh2,rfl⟩)|(refine ca (hL v2 h1 h2 hv2 hh1 hh2) ?_;rintro _ _ ⟨rfl,rfl⟩))|refine lnw (v:=sv) ?_ (hm:=has_oww memA)|refine ixws (v:=sv) ?_ (hm:=has_oww memA)|refine ldaw (v:=sv) (m:=0) (sz:=3) (vs:=rrow q1 a0) rfl ?_ (hm:=has_oww memA)|refine ldaw (v:=sv) (m:=3) (sz:=3) (vs:=rrow q1 a1) rfl ?_ (hm:=has_oww memA)|refine ldaw (v:=sv) (m:=6) (sz:=3) (vs:=rrow q3 a2) rfl ?_ (hm:=has_oww memA)|refine slz fun v2 hv2=>?_|(refine wo ?_;first|(refine ao ?_;first|refine oa ?_)|refine oa ?_|refine gy ?_)|refine xc ?_|refine nl ?_|refine rt ?_
 exact r1 ⟨rfl,rfl⟩
end Go.Art
namespace Go.Art
open Go Go.Proofs Go.RowKit
def curV (t:List Int) (k n:Int):List Rat × Int:=if ripE t k n = 0 then (curL t k.toNat (n.toNat + 1),0) else ([],ripE t k n)
def meanV (t:List Int) (k n:Int):Fr3 × Int:=if ripE t k n = 0 then (rqf (meanQ t k.toNat n.toNat),0) else (rqn,ripE t k n)
attribute [local irreducible] Fit pt own ro vw mpc lpt vels rels mow lrc dfr
attribute [local irreducible] lmp lme mit velg relg bnd owl dfrl massW setsW massD smlT solE failV failQ stL curL meanQ
theorem long26_tr (tv:Value) (t:List Int) (k n:Int):Tr Tryz.prog 39 [tv,I k,I n] [vw tv (Is t)] [] fun v D=>(∃ b,v = .bool b∧(b = false→t.length ≤ 12∧(k ≤ 40∨1024 < k)∧(n ≤ 12∨4096 < n)))∧D = []:=by
 refine Tr.enter env _ Tryz.func39 (by kernel_rfl) rfl Tryz.ntmps39 rfl (by repeat (first | exact has00 | refine has01 ?_)) fun w0=>?_
 refine TC.leni (v:=tv) (l:=t) fun htl=>?_
 repeat' first|(refine wo ?_;first|refine oa ?_)|refine sq ?_|refine rg ?_|refine xc ?_|refine nl ?_|refine bk ?_
 refine TC.loop (ι:=Nat) (fun i=>[(7,I i)]) (fun _=>[]) (fun i=>i ≤ t.length∧i ≤ 9) (fun i=>9 - i) 0 [0,1,2] ⟨Nat.zero_le _,Nat.zero_le _⟩ ?_
 rintro i ⟨hi,hi9⟩
 by_cases hlt:i < t.length∧i < 9
 ·obtain ⟨y,hy⟩ : ∃ y,t.getD i 0 = y:=⟨_,rfl⟩
  obtain ⟨hlt1,hlt2⟩:=hlt
  by_cases hc:1000 < y∧y ≤ 16777215
  ·repeat' first|refine lie hy ?_|(refine wo ?_;first|(refine ao ?_;first|refine oa ?_)|refine oa ?_|refine lnm ?_|refine ixmn ?_|refine gy ?_|(refine gsi (fun hB=>?_) (fun hB=>?_) <;> try (exfalso;omega)))|(refine gc ?_;first|(refine ci (fun hB=>?_) (fun hB=>?_) <;> try (exfalso;omega)))|refine sq ?_|refine rg ?_|refine xc ?_|refine nl ?_|refine sk ?_|refine bk ?_|refine rt ?_
   exact r1 ⟨⟨true,rfl,by intro h;cases h⟩,rfl⟩
  ·repeat' first|refine lie hy ?_|(refine wo ?_;first|(refine ao ?_;first|refine aw ?_|refine oa ?_)|refine oa ?_|refine lnm ?_|refine ixmn ?_|refine gy ?_|refine gn ?_|(refine gsi (fun hB=>?_) (fun hB=>?_) <;> try (exfalso;omega)))|(refine gc ?_;first|refine cf ?_|(refine ci (fun hB=>?_) (fun hB=>?_) <;> try (exfalso;omega)))|refine sq ?_|refine rg ?_|refine xc ?_|refine nl ?_|refine sk ?_|refine bk ?_|refine xb ?_
   all_goals exact lp (i + 1) (by omega)
 by_cases h1:(8:Int) < t.length
 ·repeat' first|(refine wo ?_;first|(refine ao ?_;first|refine oa ?_)|refine oa ?_|refine lnm ?_|refine gy ?_|refine gn ?_|refine gu ?_|(refine gsi (fun hB=>?_) (fun hB=>?_) <;> try (exfalso;omega)))|(refine gc ?_;first|refine cf ?_|(refine ci (fun hB=>?_) (fun hB=>?_) <;> try (exfalso;omega)))|refine sq ?_|refine rg ?_|refine xc ?_|refine nl ?_|refine xe ?_|refine rt ?_
  all_goals exact r1 ⟨⟨true,rfl,by intro h;cases h⟩,rfl⟩
 by_cases h2:5 < k
 ·by_cases h3:k ≤ 1024
  ·repeat' first|(refine wo ?_;first|(refine ao ?_;first|refine oa ?_)|refine oa ?_|refine lnm ?_|refine gy ?_|refine gn ?_|refine gu ?_|(refine gsi (fun hB=>?_) (fun hB=>?_) <;> try (exfalso;omega)))|(refine gc ?_;first|refine cf ?_)|refine sq ?_|refine rg ?_|refine xc ?_|refine nl ?_|refine xe ?_|refine rt ?_
   all_goals exact r1 ⟨⟨true,rfl,by intro h;cases h⟩,rfl⟩
  ·by_cases h4:8 < n
   ·by_cases h5:n ≤ 4096
    ·repeat' first|(refine wo ?_;first|(refine ao ?_;first|refine oa ?_)|refine oa ?_|refine lnm ?_|refine gy ?_|refine gn ?_|(refine gsi (fun hB=>?_) (fun hB=>?_) <;> try (exfalso;omega)))|(refine gc ?_;first|refine cf ?_)|refine sq ?_|refine rg ?_|refine xc ?_|refine nl ?_|refine xe ?_|refine rt ?_
     all_goals (refine r1 ⟨⟨_,rfl,fun h=>?_⟩,rfl⟩;simp at h;omega)
    ·repeat' first|(refine wo ?_;first|(refine ao ?_;first|refine oa ?_)|refine oa ?_|refine lnm ?_|refine gy ?_|refine gn ?_|(refine gsi (fun hB=>?_) (fun hB=>?_) <;> try (exfalso;omega)))|(refine gc ?_;first|refine cf ?_)|refine sq ?_|refine rg ?_|refine xc ?_|refine nl ?_|refine xe ?_|refine rt ?_
     all_goals (refine r1 ⟨⟨_,rfl,fun h=>?_⟩,rfl⟩;omega)
   ·repeat' first|(refine wo ?_;first|(refine ao ?_;first|refine oa ?_)|refine oa ?_|refine lnm ?_|refine gy ?_|refine gn ?_|(refine gsi (fun hB=>?_) (fun hB=>?_) <;> try (exfalso;omega)))|(refine gc ?_;first|refine cf ?_)|refine sq ?_|refine rg ?_|refine xc ?_|refine nl ?_|refine xe ?_|refine rt ?_
    all_goals (refine r1 ⟨⟨_,rfl,fun h=>?_⟩,rfl⟩;omega)
 ·by_cases h4:8 < n
  ·by_cases h5:n ≤ 4096
   ·repeat' first|(refine wo ?_;first|(refine ao ?_;first|refine oa ?_)|refine oa ?_|refine lnm ?_|refine gy ?_|refine gn ?_|(refine gsi (fun hB=>?_) (fun hB=>?_) <;> try (exfalso;omega)))|(refine gc ?_;first|refine cf ?_)|refine sq ?_|refine rg ?_|refine xc ?_|refine nl ?_|refine xe ?_|refine rt ?_
    all_goals (refine r1 ⟨⟨_,rfl,fun h=>?_⟩,rfl⟩;simp at h;omega)
   ·repeat' first|(refine wo ?_;first|(refine ao ?_;first|refine oa ?_)|refine oa ?_|refine lnm ?_|refine gy ?_|refine gn ?_|(refine gsi (fun hB=>?_) (fun hB=>?_) <;> try (exfalso;omega)))|(refine gc ?_;first|refine cf ?_)|refine sq ?_|refine rg ?_|refine xc ?_|refine nl ?_|refine xe ?_|refine rt ?_
    all_goals (refine r1 ⟨⟨_,rfl,fun h=>?_⟩,rfl⟩;omega)
  ·repeat' first|(refine wo ?_;first|(refine ao ?_;first|refine oa ?_)|refine oa ?_|refine lnm ?_|refine gy ?_|refine gn ?_|(refine gsi (fun hB=>?_) (fun hB=>?_) <;> try (exfalso;omega)))|(refine gc ?_;first|refine cf ?_)|refine sq ?_|refine rg ?_|refine xc ?_|refine nl ?_|refine xe ?_|refine rt ?_
   all_goals (refine r1 ⟨⟨_,rfl,fun h=>?_⟩,rfl⟩;omega)
end Go.Art
namespace Go.Art
open Go Go.Proofs Go.RowKit
abbrev NoI (b:Bool) (l:List Nat):Prop:=(b = true∧l.length = 0)∨(0 < l.length∧l.getD (l.length - 1) 0 = 0)
abbrev NoN (m:List Nat):Prop:=0 < m.length∧m.getD (m.length - 1) 0 = 0
def canE (b:Bool) (l m:List Nat):Int:=if NoI b l∨NoN m∨m.length = 0∨Nat.gcd (nv l) (nv m) ≠ 1 then 6 else 0
theorem tm_of {l:List Nat} (h:¬ (0 < l.length∧l.getD (l.length - 1) 0 = 0)):Tm l:=fun a x e g=>by
 subst g
 apply h
 rw [e]
 refine ⟨by simp,?_⟩
 rw [List.getD_eq_getElem?_getD]
 simp
theorem can_q {b:Bool} {l m:List Nat} (hl:Dg l) (hm:Dg m) (h:canE b l m = 0):rqf (mkRat (sg b (nv l)) (nv m)) = (b,l,m):=by
 unfold canE at h
 split at h
 ·cases h
 ·rename_i g
  have g1:¬ NoI b l:=fun k=>g (.inl k)
  have g2:¬ NoN m:=fun k=>g (.inr (.inl k))
  have g3:m.length ≠ 0:=fun k=>g (.inr (.inr (.inl k)))
  have g4:Nat.gcd (nv l) (nv m) = 1:=Classical.byContradiction fun k=>g (.inr (.inr (.inr k)))
  have t1:Tm l:=tm_of fun k=>g1 (.inr k)
  have t2:Tm m:=tm_of g2
  have d2:=dg_nv hm t2
  have d1:=dg_nv hl t1
  have hm0:nv m ≠ 0:=fun e=>by rw [e,dg_zero] at d2;rw [← d2] at g3;exact g3 rfl
  unfold rqf
  rw [sg_mk b (nv l) hm0,mk_abs _ hm0,mk_den _ hm0,sg_abs,g4,Nat.div_one,Nat.div_one,d1,d2]
  congr 1
  cases b with
  | false=>rfl
  | true=>
   have:nv l ≠ 0:=fun e=>by
    rw [e,dg_zero] at d1
    exact g1 (.inl ⟨rfl,by rw [← d1];rfl⟩)
   rw [Bool.true_and];exact decide_eq_true (by omega)
theorem can_FB {b:Bool} {l m:List Nat} (hl:Dg l) (hm:Dg m) (h:canE b l m = 0) {B:Nat} (h1:l.length ≤ B) (h2:m.length ≤ B):FB (mkRat (sg b (nv l)) (nv m)) B:=by
 have e:=can_q hl hm h
 have e1:dg (mkRat (sg b (nv l)) (nv m)).num.natAbs = l:=congrArg (fun x=>x.2.1) e
 have e2:dg (mkRat (sg b (nv l)) (nv m)).den = m:=congrArg (fun x=>x.2.2) e
 exact ⟨by rw [e1];exact h1,by rw [e2];exact h2⟩
attribute [local irreducible] Fit pt own ro vw mpc lpt vels rels mow lrc dfr
attribute [local irreducible] lmp lme mit velg relg bnd owl dfrl gow shB grB
theorem RICheckA_tr (b:Bool) (o:Value) (l:List Nat):Tr Tryz.prog 157 [.agg #[.bool b,o]] [vw o (Us l)] [] fun u D=>u = I (if NoI b l then 6 else 0)∧D = []:=by
 have hC:=RNCheck_tr o l
 obtain ⟨c,hc⟩ : ∃ c:Int,c = (if 0 < l.length∧l.getD (l.length - 1) 0 = 0 then 6 else 0):=⟨_,rfl⟩
 rw [← hc] at hC
 by_cases h:0 < l.length∧l.getD (l.length - 1) 0 = 0
 ·rw [if_pos h] at hc
  subst hc
  rw [if_pos (.inr h)]
  refine Tr.enter env _ Tryz.func157 (by kernel_rfl) rfl Tryz.ntmps157 rfl (by repeat (first | exact has00 | refine has01 ?_)) fun w0=>?_
  repeat' first|(refine gca ?_;first|(refine ca hC ?_;rintro _ _ ⟨rfl,rfl⟩))|refine bx fun q=>?_|refine lda ?_|(refine wo ?_;first|(refine ao ?_;first|refine oa ?_)|refine oa ?_|refine ld ?_|refine gn ?_|refine gu ?_)|(refine gc ?_;first|refine ct ?_)|refine sq ?_|refine rg ?_|refine xc ?_|refine nl ?_|refine rt ?_
  all_goals exact r1 ⟨rfl,rfl⟩
 ·rw [if_neg h] at hc
  subst hc
  cases b with
  | true=>
   by_cases h0:l.length = 0
   ·rw [if_pos (.inl ⟨rfl,h0⟩)]
    refine Tr.enter env _ Tryz.func157 (by kernel_rfl) rfl Tryz.ntmps157 rfl (by repeat (first | exact has00 | refine has01 ?_)) fun w0=>?_
    repeat' first|(refine gca ?_;first|(refine ca hC ?_;rintro _ _ ⟨rfl,rfl⟩))|refine bx fun q=>?_|refine lda ?_|(refine wo ?_;first|(refine ao ?_;first|refine oa ?_)|refine oa ?_|refine ld ?_|refine lnm ?_|refine gy ?_)|(refine gc ?_;first|(refine ci (fun hB=>?_) (fun hB=>?_) <;> try (exfalso;omega)))|refine sq ?_|refine rg ?_|refine xc ?_|refine nl ?_|refine rt ?_
    all_goals exact r1 ⟨rfl,rfl⟩
   ·rw [if_neg (fun g=>g.elim (fun g=>h0 g.2) h)]
    refine Tr.enter env _ Tryz.func157 (by kernel_rfl) rfl Tryz.ntmps157 rfl (by repeat (first | exact has00 | refine has01 ?_)) fun w0=>?_
    repeat' first|(refine gca ?_;first|(refine ca hC ?_;rintro _ _ ⟨rfl,rfl⟩))|refine bx fun q=>?_|refine lda ?_|(refine wo ?_;first|(refine ao ?_;first|refine oa ?_)|refine oa ?_|refine ld ?_|refine lnm ?_|refine gy ?_)|(refine gc ?_;first|(refine ci (fun hB=>?_) (fun hB=>?_) <;> try (exfalso;omega)))|refine sq ?_|refine rg ?_|refine xc ?_|refine nl ?_|refine sk ?_|refine rt ?_
    all_goals exact r1 ⟨rfl,rfl⟩
  | false=>
   rw [if_neg (fun g=>g.elim (fun g=>by cases g.1) h)]
   refine Tr.enter env _ Tryz.func157 (by kernel_rfl) rfl Tryz.ntmps157 rfl (by repeat (first | exact has00 | refine has01 ?_)) fun w0=>?_
   repeat' first|(refine gca ?_;first|(refine ca hC ?_;rintro _ _ ⟨rfl,rfl⟩))|refine bx fun q=>?_|refine lda ?_|(refine wo ?_;first|(refine ao ?_;first|refine oa ?_)|refine oa ?_|refine ld ?_|refine gy ?_|refine gn ?_)|(refine gc ?_;first|refine cf ?_)|refine sq ?_|refine rg ?_|refine xc ?_|refine nl ?_|refine sk ?_|refine rt ?_
   all_goals exact r1 ⟨rfl,rfl⟩
theorem FCheckA_tr (b:Bool) (vn vd:Value) (hn:vn.oneCell' = true) (hd:vd.oneCell' = true) (l m:List Nat) (hl:Dg l) (hm:Dg m) (h1:l.length ≤ 6) (h2:m.length ≤ 6):Tr Tryz.prog 92 [.agg #[.bool b,vn,vd]] [vw vn (Us l),vw vd (Us m)] [] fun u D=>u = I (canE b l m)∧D = []:=by
 have hC:=ICheck_tr b vn l
 have hK:=Check_tr vd m
 have hG:=NGcd_tr vn vd l m hl hm (by omega) (by omega)
 have hM:=fun v1 v2=>Cmp_tr v1 v2 (dg (Nat.gcd (nv l) (nv m))) [1] (Dg_dg _) (Dg.one (by decide))
 simp only [nv_dg,show nv [1] = 1 from rfl] at hM
 unfold canE
 by_cases a1:NoI b l
 ·rw [if_pos (.inl a1)]
  rw [if_pos a1] at hC
  refine Tr.enter env _ Tryz.func92 (by kernel_rfl) rfl Tryz.ntmps92 rfl (by repeat (first | exact has00 | refine has01 ?_)) fun w0=>?_
  repeat' first|(refine gca ?_;first|(refine ca hC ?_;rintro _ _ ⟨rfl,rfl⟩))|refine bx fun q=>?_|refine lda ?_|(refine wo ?_;first|(refine ao ?_;first|refine oa ?_)|refine oa ?_|refine gn ?_)|(refine gc ?_;first|refine ct ?_)|refine sq ?_|refine rg ?_|refine xc ?_|refine nl ?_|refine rt ?_
  all_goals exact r1 ⟨rfl,rfl⟩
 rw [if_neg a1] at hC
 by_cases a2:NoN m
 ·rw [if_pos (.inr (.inl a2))]
  rw [if_pos a2] at hK
  refine Tr.enter env _ Tryz.func92 (by kernel_rfl) rfl Tryz.ntmps92 rfl (by repeat (first | exact has00 | refine has01 ?_)) fun w0=>?_
  repeat' first|(refine gca ?_;first|(refine ca hC ?_;rintro _ _ ⟨rfl,rfl⟩)|(refine ca hK ?_;rintro _ _ ⟨rfl,rfl⟩))|refine bx fun q=>?_|refine lda ?_|(refine wo ?_;first|(refine ao ?_;first|refine oa ?_)|refine oa ?_|refine ld ?_|refine gy ?_|refine gn ?_)|(refine gc ?_;first|refine ct ?_)|refine sq ?_|refine rg ?_|refine xc ?_|refine nl ?_|refine rt ?_
  all_goals exact r1 ⟨rfl,rfl⟩
 rw [if_neg a2] at hK
 by_cases a3:m.length = 0
 ·rw [if_pos (.inr (.inr (.inl a3)))]
  refine Tr.enter env _ Tryz.func92 (by kernel_rfl) rfl Tryz.ntmps92 rfl (by repeat (first | exact has00 | refine has01 ?_)) fun w0=>?_
  repeat' first|(refine gca ?_;first|(refine ca hC ?_;rintro _ _ ⟨rfl,rfl⟩)|(refine ca hK ?_;rintro _ _ ⟨rfl,rfl⟩))|refine bx fun q=>?_|refine lda ?_|(refine wo ?_;first|(refine ao ?_;first|refine oa ?_)|refine oa ?_|refine ld ?_|refine lnm ?_|refine gy ?_|refine gn ?_|(refine gsi (fun hB=>?_) (fun hB=>?_) <;> try (exfalso;omega)))|(refine gc ?_;first|refine ct ?_)|refine sq ?_|refine rg ?_|refine xc ?_|refine nl ?_|refine rt ?_
  all_goals exact r1 ⟨rfl,rfl⟩
 obtain ⟨c,hc⟩ : ∃ c,c = cmpN (Nat.gcd (nv l) (nv m)) 1:=⟨_,rfl⟩
 rw [← hc] at hM
 by_cases a4:Nat.gcd (nv l) (nv m) = 1
 ·have hc0:c = 0:=by rw [hc];exact cmpN_eq.2 a4
  rw [if_neg (fun g=>g.elim a1 fun g=>g.elim a2 fun g=>g.elim a3 fun g=>g a4)]
  subst hc0
  clear hc a4
  generalize dg (Nat.gcd (nv l) (nv m)) = gl at *
  refine Tr.enter env _ Tryz.func92 (by kernel_rfl) rfl Tryz.ntmps92 rfl (by repeat (first | exact has00 | refine has01 ?_)) fun w0=>?_
  repeat' first|(refine gca ?_;first|(refine ca hC ?_;rintro _ _ ⟨rfl,rfl⟩)|(refine ca hK ?_;rintro _ _ ⟨rfl,rfl⟩)|(refine ca hG ?_;rintro g _ ⟨hg,rfl⟩)|(refine ca one_tr ?_;rintro o _ ⟨ho,rfl⟩)|(refine ca (hM g o) ?_;rintro _ _ ⟨rfl,rfl⟩))|refine bx fun q=>?_|refine lda ?_|(refine wo ?_;first|(refine ao ?_;first|refine oa ?_)|refine oa ?_|refine ld ?_|refine lnm ?_|refine gy ?_|(refine gsi (fun hB=>?_) (fun hB=>?_) <;> try (exfalso;omega)))|(refine gc ?_;first|refine cf ?_)|refine sq ?_|refine rg ?_|refine xc ?_|refine nl ?_|refine sk ?_|refine rt ?_
  all_goals exact r1 ⟨rfl,rfl⟩
 ·have hc0:c ≠ 0:=fun e=>a4 (cmpN_eq.1 (hc.symm.trans e))
  rw [if_pos (.inr (.inr (.inr a4)))]
  clear hc a4
  generalize dg (Nat.gcd (nv l) (nv m)) = gl at *
  refine Tr.enter env _ Tryz.func92 (by kernel_rfl) rfl Tryz.ntmps92 rfl (by repeat (first | exact has00 | refine has01 ?_)) fun w0=>?_
  repeat' first|(refine gca ?_;first|(refine ca hC ?_;rintro _ _ ⟨rfl,rfl⟩)|(refine ca hK ?_;rintro _ _ ⟨rfl,rfl⟩)|(refine ca hG ?_;rintro g _ ⟨hg,rfl⟩)|(refine ca one_tr ?_;rintro o _ ⟨ho,rfl⟩)|(refine ca (hM g o) ?_;rintro _ _ ⟨rfl,rfl⟩))|refine bx fun q=>?_|refine lda ?_|(refine wo ?_;first|(refine ao ?_;first|refine oa ?_)|refine oa ?_|refine ld ?_|refine lnm ?_|refine gy ?_|(refine gsi (fun hB=>?_) (fun hB=>?_) <;> try (exfalso;omega)))|(refine gc ?_;first|(refine cn (fun hB=>?_) (fun hB=>?_) <;> try (exfalso;omega)))|refine sq ?_|refine rg ?_|refine xc ?_|refine nl ?_|refine rt ?_
  all_goals exact r1 ⟨rfl,rfl⟩
theorem RFCheckA_tr (b:Bool) (vn vd:Value) (l m:List Nat) (hl:Dg l) (hm:Dg m) (h1:l.length ≤ 6) (h2:m.length ≤ 6):Tr Tryz.prog 95 [.agg #[.bool b,vn,vd]] [vw vn (Us l),vw vd (Us m)] [] fun u D=>u = I (canE b l m)∧D = []:=by
 have hC:=RICheckA_tr b vn l
 have hK:=RNCheck_tr vd m
 have hG:=RGcd_tr vn vd l m hl hm (by omega) (by omega)
 have hM:=fun v1 v2=>RCmp_tr v1 v2 (dg (Nat.gcd (nv l) (nv m))) [1] (Dg_dg _) (Dg.one (by decide))
 simp only [nv_dg,show nv [1] = 1 from rfl] at hM
 unfold canE
 by_cases a1:NoI b l
 ·rw [if_pos (.inl a1)]
  rw [if_pos a1] at hC
  refine Tr.enter env _ Tryz.func95 (by kernel_rfl) rfl Tryz.ntmps95 rfl (by repeat (first | exact has00 | refine has01 ?_)) fun w0=>?_
  repeat' first|(refine gca ?_;first|(refine ca hC ?_;rintro _ _ ⟨rfl,rfl⟩))|refine bx fun q=>?_|refine lda ?_|(refine wo ?_;first|(refine ao ?_;first|refine oa ?_)|refine oa ?_|refine gn ?_)|(refine gc ?_;first|refine ct ?_)|refine sq ?_|refine rg ?_|refine xc ?_|refine nl ?_|refine rt ?_
  all_goals exact r1 ⟨rfl,rfl⟩
 rw [if_neg a1] at hC
 by_cases a2:NoN m
 ·rw [if_pos (.inr (.inl a2))]
  rw [if_pos a2] at hK
  refine Tr.enter env _ Tryz.func95 (by kernel_rfl) rfl Tryz.ntmps95 rfl (by repeat (first | exact has00 | refine has01 ?_)) fun w0=>?_
  repeat' first|(refine gca ?_;first|(refine ca hC ?_;rintro _ _ ⟨rfl,rfl⟩)|(refine ca hK ?_;rintro _ _ ⟨rfl,rfl⟩))|refine bx fun q=>?_|refine lda ?_|(refine wo ?_;first|(refine ao ?_;first|refine oa ?_)|refine oa ?_|refine ld ?_|refine gy ?_|refine gn ?_)|(refine gc ?_;first|refine ct ?_)|refine sq ?_|refine rg ?_|refine xc ?_|refine nl ?_|refine rt ?_
  all_goals exact r1 ⟨rfl,rfl⟩
 rw [if_neg a2] at hK
 by_cases a3:m.length = 0
 ·rw [if_pos (.inr (.inr (.inl a3)))]
  refine Tr.enter env _ Tryz.func95 (by kernel_rfl) rfl Tryz.ntmps95 rfl (by repeat (first | exact has00 | refine has01 ?_)) fun w0=>?_
  repeat' first|(refine gca ?_;first|(refine ca hC ?_;rintro _ _ ⟨rfl,rfl⟩)|(refine ca hK ?_;rintro _ _ ⟨rfl,rfl⟩))|refine bx fun q=>?_|refine lda ?_|(refine wo ?_;first|(refine ao ?_;first|refine oa ?_)|refine oa ?_|refine ld ?_|refine lnm ?_|refine gy ?_|refine gn ?_|(refine gsi (fun hB=>?_) (fun hB=>?_) <;> try (exfalso;omega)))|(refine gc ?_;first|refine ct ?_)|refine sq ?_|refine rg ?_|refine xc ?_|refine nl ?_|refine rt ?_
  all_goals exact r1 ⟨rfl,rfl⟩
 obtain ⟨c,hc⟩ : ∃ c,c = cmpN (Nat.gcd (nv l) (nv m)) 1:=⟨_,rfl⟩
 rw [← hc] at hM
 by_cases a4:Nat.gcd (nv l) (nv m) = 1
 ·have hc0:c = 0:=by rw [hc];exact cmpN_eq.2 a4
  rw [if_neg (fun g=>g.elim a1 fun g=>g.elim a2 fun g=>g.elim a3 fun g=>g a4)]
  subst hc0
  clear hc a4
  generalize dg (Nat.gcd (nv l) (nv m)) = gl at *
  refine Tr.enter env _ Tryz.func95 (by kernel_rfl) rfl Tryz.ntmps95 rfl (by repeat (first | exact has00 | refine has01 ?_)) fun w0=>?_
  repeat' first|(refine gca ?_;first|(refine ca hC ?_;rintro _ _ ⟨rfl,rfl⟩)|(refine ca hK ?_;rintro _ _ ⟨rfl,rfl⟩)|(refine ca hG ?_;rintro g _ ⟨hg,rfl⟩)|(refine ca Rone5_tr ?_;rintro o _ ⟨ho,rfl⟩)|(refine ca (hM g o) ?_;rintro _ _ ⟨rfl,rfl⟩))|refine bx fun q=>?_|refine lda ?_|(refine wo ?_;first|(refine ao ?_;first|refine oa ?_)|refine oa ?_|refine ld ?_|refine lnm ?_|refine gy ?_|(refine gsi (fun hB=>?_) (fun hB=>?_) <;> try (exfalso;omega)))|(refine gc ?_;first|refine cf ?_)|refine sq ?_|refine rg ?_|refine xc ?_|refine nl ?_|refine sk ?_|refine rt ?_
  all_goals exact r1 ⟨rfl,rfl⟩
 ·have hc0:c ≠ 0:=fun e=>a4 (cmpN_eq.1 (hc.symm.trans e))
  rw [if_pos (.inr (.inr (.inr a4)))]
  clear hc a4
  generalize dg (Nat.gcd (nv l) (nv m)) = gl at *
  refine Tr.enter env _ Tryz.func95 (by kernel_rfl) rfl Tryz.ntmps95 rfl (by repeat (first | exact has00 | refine has01 ?_)) fun w0=>?_
  repeat' first|(refine gca ?_;first|(refine ca hC ?_;rintro _ _ ⟨rfl,rfl⟩)|(refine ca hK ?_;rintro _ _ ⟨rfl,rfl⟩)|(refine ca hG ?_;rintro g _ ⟨hg,rfl⟩)|(refine ca Rone5_tr ?_;rintro o _ ⟨ho,rfl⟩)|(refine ca (hM g o) ?_;rintro _ _ ⟨rfl,rfl⟩))|refine bx fun q=>?_|refine lda ?_|(refine wo ?_;first|(refine ao ?_;first|refine oa ?_)|refine oa ?_|refine ld ?_|refine lnm ?_|refine gy ?_|(refine gsi (fun hB=>?_) (fun hB=>?_) <;> try (exfalso;omega)))|(refine gc ?_;first|(refine cn (fun hB=>?_) (fun hB=>?_) <;> try (exfalso;omega)))|refine sq ?_|refine rg ?_|refine xc ?_|refine nl ?_|refine rt ?_
  all_goals exact r1 ⟨rfl,rfl⟩
end Go.Art
namespace Go.Art
open Go Go.Proofs Go.RowKit
theorem FB_one5:FB (mkRat ((1:Nat):Int) 1) 1000:=⟨Nat.le_trans (FB_mk1 (a:=1) (D:=1) (by decide) (by decide) (by decide)).1 (by decide),Nat.le_trans (FB_mk1 (a:=1) (D:=1) (by decide) (by decide) (by decide)).2 (by decide)⟩
attribute [local irreducible] Fit pt own ro vw mpc lpt vels rels mow lrc dfr
attribute [local irreducible] lmp lme mit velg relg bnd owl dfrl gow shB grB
theorem RLeast_err (tv:Value) (t:List Int) (k n:Int) (e1 e2:Value) (h:ripE t k n ≠ 0) (b:Bool):Tr Tryz.prog 44 [tv,I k,.agg #[.bool b,e1,e2],I n] [vw tv (Is t)] [] (NoL (ripE t k n)):=by
 have hS:=Rref26_tr tv t k n
 generalize ripE t k n = e at *
 refine Tr.enter env _ Tryz.func44 (by kernel_rfl) rfl Tryz.ntmps44 rfl (by repeat (first | exact has00 | refine has01 ?_)) fun w0=>?_
 repeat' first|(refine gca ?_;first|(refine ca hS ?_;rintro _ _ ⟨rfl,rfl⟩))|refine bx fun c0=>?_|refine al fun c=>?_|refine bdz ?_|refine srz ?_|(refine wo ?_;first|(refine ao ?_;first|refine oa ?_)|refine oa ?_)|(refine gc ?_;first|(refine cn (fun hB=>?_) (fun hB=>?_) <;> try (exfalso;omega)))|refine sq ?_|refine rg ?_|refine xc ?_|refine nl ?_|refine rt ?_
 exact rtat (cs:=[.bool false,nS,nS]) (vs:=[.bool false,nS,nS]) (T:=TRt) ⟨rfl,rfl⟩
theorem RLeast_can (tv:Value) (t:List Int) (k n:Int) (e1 e2:Value) (l m:List Nat) (hl:Dg l) (hm:Dg m) (h1:l.length ≤ 6) (h2:m.length ≤ 6) (h:ripE t k n = 0) (b:Bool) (hc:canE b l m ≠ 0) :
  Tr Tryz.prog 44 [tv,I k,.agg #[.bool b,e1,e2],I n] [vw tv (Is t),vw e1 (Us l),vw e2 (Us m)] [] (NoL 6):=by
 have hS:=Rref26_tr tv t k n
 rw [h] at hS
 have hK:=RFCheckA_tr b e1 e2 l m hl hm h1 h2
 generalize canE b l m = e at *
 refine Tr.enter env _ Tryz.func44 (by kernel_rfl) rfl Tryz.ntmps44 rfl (by repeat (first | exact has00 | refine has01 ?_)) fun w0=>?_
 repeat' first|(refine gca ?_;first|(refine ca hS ?_;rintro _ _ ⟨rfl,rfl⟩)|(refine ca hK ?_;rintro _ _ ⟨rfl,rfl⟩))|refine bx fun c0=>?_|refine al fun c=>?_|refine lda (vs:=[.bool b,e1,e2]) ?_|refine bdz ?_|refine srz ?_|(refine wo ?_;first|(refine ao ?_;first|refine oa ?_)|refine oa ?_)|(refine gc ?_;first|refine cf ?_|(refine cn (fun hB=>?_) (fun hB=>?_) <;> try (exfalso;omega)))|refine sq ?_|refine rg ?_|refine xc ?_|refine nl ?_|refine sk ?_|refine rt ?_
 exact rtat (cs:=[.bool false,nS,nS]) (vs:=[.bool false,nS,nS]) (T:=TRt) ⟨rfl,rfl⟩
theorem Least_can (tv:Value) (t:List Int) (k n:Int) (e1 e2:Value) (he1:e1.oneCell' = true) (he2:e2.oneCell' = true) (l m:List Nat) (hl:Dg l) (hm:Dg m) (h1:l.length ≤ 6) (h2:m.length ≤ 6) (h:ripE t k n = 0) (b:Bool) (hc:canE b l m ≠ 0) :
  Tr Tryz.prog 43 [tv,I k,.agg #[.bool b,e1,e2],I n] [vw tv (Is t),vw e1 (Us l),vw e2 (Us m)] [] (NoL 6):=by
 have hS:=curefuses_tr tv t k n
 rw [h] at hS
 have hK:=FCheckA_tr b e1 e2 he1 he2 l m hl hm h1 h2
 generalize canE b l m = e at *
 refine Tr.enter env _ Tryz.func43 (by kernel_rfl) rfl Tryz.ntmps43 rfl (by repeat (first | exact has00 | refine has01 ?_)) fun w0=>?_
 repeat' first|(refine gca ?_;first|(refine ca hS ?_;rintro _ _ ⟨rfl,rfl⟩)|(refine ca hK ?_;rintro _ _ ⟨rfl,rfl⟩))|refine bx fun c0=>?_|refine al fun c=>?_|refine lda (vs:=[.bool b,e1,e2]) ?_|refine bdz ?_|refine srz ?_|(refine wo ?_;first|(refine ao ?_;first|refine oa ?_)|refine oa ?_|refine sr ?_)|(refine gc ?_;first|refine cf ?_|(refine cn (fun hB=>?_) (fun hB=>?_) <;> try (exfalso;omega)))|refine sq ?_|refine rg ?_|refine xc ?_|refine nl ?_|refine sk ?_|refine rt ?_
 exact rcac (vs:=[.bool false,nS,nS]) ⟨rfl,rfl⟩
theorem RLeast_range (tv:Value) (t:List Int) (k n:Nat) (q:Rat) (e1 e2:Value) (he1:e1.oneCell' = true) (he2:e2.oneCell' = true) (hz:solE t k = 0) (hk:k ≤ 1024) (hn:n ≤ 4096) (hq:FB q 1000) (h:¬ ((q - 1).num.sign < 0∧0 < q.num.sign)) :
  Tr Tryz.prog 44 [tv,I k,rv q e1 e2,I n] [vw tv (Is t),vw e1 (Us (dg q.num.natAbs)),vw e2 (Us (dg q.den))] [] (NoL 3):=by
 have hk1:=(solE_zero hz).1
 have hR:=Rref26_tr tv t k n
 rw [show ripE t k n = 0 by unfold ripE;rw [if_neg (by omega)];exact hz] at hR
 have hK:=RFCheck_tr q e1 e2 (hq.le (by decide))
 have hone:=RFPair_tr 1 1 (by decide) (by decide) (by decide)
 have hC:=fun v3 v4 g3 g4=>RFCmp_tr q (mkRat ((1:Nat):Int) 1) e1 e2 v3 v4 he1 he2 g3 g4 (hq.le (by decide)) (FB_one5.le (by decide))
 rw [← mk_one 1 (by decide)] at h
 clear hz
 generalize mkRat ((1:Nat):Int) 1 = q1 at *
 unfold FQ2 at hone
 generalize (q - q1).num.sign = s1 at *
 obtain ⟨b,hb⟩ : ∃ b,b = decide (q.num < 0):=⟨_,rfl⟩
 have hln:=Us_none (x:=q.num.natAbs)
 have hlp:=Us_pos (x:=q.num.natAbs)
 have hsp:0 < q.num→0 < q.num.sign:=fun h=>by rw [Int.sign_eq_one_of_pos h];decide
 show Tr _ _ [tv,I k,.agg #[.bool (decide (q.num < 0)),e1,e2],I n] _ _ _
 unfold rv at hK hC
 rw [← hb] at hK hC ⊢
 cases b with
 | true=>
  clear hb hln hlp hsp
  generalize dg q.num.natAbs = l1 at *
  refine Tr.enter env _ Tryz.func44 (by kernel_rfl) rfl Tryz.ntmps44 rfl (by repeat (first | exact has00 | refine has01 ?_)) fun w0=>?_
  repeat' first|(refine gca ?_;first|(refine ca hR ?_;rintro _ _ ⟨rfl,rfl⟩)|(refine ca hK ?_;rintro _ _ ⟨rfl,rfl⟩)|(refine ca hone ?_;rintro _ _ ⟨o1,o2,rfl,ho1,ho2,rfl⟩)|(refine ca (hC o1 o2 ho1 ho2) ?_;rintro _ _ ⟨rfl,rfl⟩))|refine bx fun c0=>?_|refine al fun c=>?_|refine lda (vs:=[.bool true,e1,e2]) ?_|refine lda ?_|refine bdz ?_|refine srz ?_|(refine wo ?_;first|(refine ao ?_;first|refine oa ?_)|refine oa ?_|refine ld ?_|refine gn ?_)|(refine gc ?_;first|refine ct ?_|refine cf ?_)|refine sq ?_|refine rg ?_|refine xc ?_|refine nl ?_|refine sk ?_|refine rt ?_
  exact rtat (cs:=[.bool false,nS,nS]) (vs:=[.bool false,nS,nS]) (T:=TRt) ⟨rfl,rfl⟩
 | false=>
  have hq0:¬ q.num < 0:=of_decide_eq_false hb.symm
  by_cases h0:q.num = 0
  ·have hl0:=hln (by omega)
   clear hb hln hlp hsp h0
   generalize dg q.num.natAbs = l1 at *
   refine Tr.enter env _ Tryz.func44 (by kernel_rfl) rfl Tryz.ntmps44 rfl (by repeat (first | exact has00 | refine has01 ?_)) fun w0=>?_
   repeat' first|(refine gca ?_;first|(refine ca hR ?_;rintro _ _ ⟨rfl,rfl⟩)|(refine ca hK ?_;rintro _ _ ⟨rfl,rfl⟩)|(refine ca hone ?_;rintro _ _ ⟨o1,o2,rfl,ho1,ho2,rfl⟩)|(refine ca (hC o1 o2 ho1 ho2) ?_;rintro _ _ ⟨rfl,rfl⟩))|refine bx fun c0=>?_|refine al fun c=>?_|refine lda (vs:=[.bool false,e1,e2]) ?_|refine lda ?_|(refine ln (xs:=Us l1) ?_;rw [hl0])|refine bdz ?_|refine srz ?_|(refine wo ?_;first|(refine ao ?_;first|refine oa ?_)|refine oa ?_|refine ld ?_|refine gy ?_|refine gn ?_)|(refine gc ?_;first|refine ct ?_|refine cf ?_)|refine sq ?_|refine rg ?_|refine xc ?_|refine nl ?_|refine sk ?_|refine rt ?_
   exact rtat (cs:=[.bool false,nS,nS]) (vs:=[.bool false,nS,nS]) (T:=TRt) ⟨rfl,rfl⟩
  ·have hs1:0 ≤ s1:=by
    have:=hsp (by omega)
    omega
   have hl0:=hlp (by omega)
   clear hb hln hlp hsp h0
   generalize dg q.num.natAbs = l1 at *
   obtain ⟨ml,hml⟩ : ∃ ml:Nat,(Us l1).length = ml + 1:=⟨(Us l1).length - 1,by omega⟩
   clear hl0
   refine Tr.enter env _ Tryz.func44 (by kernel_rfl) rfl Tryz.ntmps44 rfl (by repeat (first | exact has00 | refine has01 ?_)) fun w0=>?_
   repeat' first|(refine gca ?_;first|(refine ca hR ?_;rintro _ _ ⟨rfl,rfl⟩)|(refine ca hK ?_;rintro _ _ ⟨rfl,rfl⟩)|(refine ca hone ?_;rintro _ _ ⟨o1,o2,rfl,ho1,ho2,rfl⟩)|(refine ca (hC o1 o2 ho1 ho2) ?_;rintro _ _ ⟨rfl,rfl⟩))|refine bx fun c0=>?_|refine al fun c=>?_|refine lda (vs:=[.bool false,e1,e2]) ?_|refine lda ?_|(refine ln (xs:=Us l1) ?_;rw [hml])|refine bdz ?_|refine srz ?_|(refine wo ?_;first|(refine ao ?_;first|refine oa ?_)|refine oa ?_|refine ld ?_|refine gy ?_)|(refine gc ?_;first|refine cf ?_|(refine ci (fun hB=>?_) (fun hB=>?_) <;> try (exfalso;omega)))|refine sq ?_|refine rg ?_|refine xc ?_|refine nl ?_|refine sk ?_|refine rt ?_
   exact rtat (cs:=[.bool false,nS,nS]) (vs:=[.bool false,nS,nS]) (T:=TRt) ⟨rfl,rfl⟩
set_option maxHeartbeats 1000000 in
theorem RLeast_ok (tv:Value) (t:List Int) (k n:Nat) (q:Rat) (e1 e2:Value) (he1:e1.oneCell' = true) (he2:e2.oneCell' = true) (hz:solE t k = 0) (hk:k ≤ 40) (hl:t.length ≤ 12) (hn:n ≤ 12) (hq:FB q 1000) (h:(q - 1).num.sign < 0∧0 < q.num.sign) :
  Tr Tryz.prog 44 [tv,I k,rv q e1 e2,I n] [vw tv (Is t),vw e1 (Us (dg q.num.natAbs)),vw e2 (Us (dg q.den))] [] (LW (leastW (failQ t k) q n)):=by
 have hk1:=(solE_zero hz).1
 have hR:=Rref26_tr tv t k n
 rw [show ripE t k n = 0 by unfold ripE;rw [if_neg (by omega)];exact hz] at hR
 have hK:=RFCheck_tr q e1 e2 (hq.le (by decide))
 have hone:=RFPair_tr 1 1 (by decide) (by decide) (by decide)
 have hC:=fun v3 v4 g3 g4=>RFCmp_tr q (mkRat ((1:Nat):Int) 1) e1 e2 v3 v4 he1 he2 g3 g4 (hq.le (by decide)) (FB_one5.le (by decide))
 have hD:=fun i (hi:i < n + 1) v1 v2 g1 g2=>RFCmp_tr (failQ t k i) q v1 v2 e1 e2 g1 g2 he1 he2 (failQ_FB5 hz hk hl (by omega)) (hq.le (by decide))
 have hF:=fun i (hi:i < n + 1)=>RFail_ok tv t k i hz hk hl (by omega)
 rw [← mk_one 1 (by decide)] at h
 clear hz
 generalize mkRat ((1:Nat):Int) 1 = q1 at *
 unfold FQ2 at hone hF
 generalize (q - q1).num.sign = s1 at *
 obtain ⟨hs1,hs2⟩:=h
 have hq0:0 < q.num:=Int.sign_pos_iff.1 hs2
 have hb:decide (q.num < 0) = false:=decide_eq_false (by omega)
 have hl0:=Us_pos (x:=q.num.natAbs) (by omega)
 show Tr _ _ [tv,I k,.agg #[.bool (decide (q.num < 0)),e1,e2],I n] _ _ _
 unfold rv at hK hC hD
 rw [hb] at hK ⊢
 simp only [hb] at hC hD
 clear hb hs2
 generalize dg q.num.natAbs = l1 at *
 obtain ⟨ml,hml⟩ : ∃ ml:Nat,(Us l1).length = ml + 1:=⟨(Us l1).length - 1,by omega⟩
 clear hl0
 generalize failQ t k = F at *
 refine Tr.enter env _ Tryz.func44 (by kernel_rfl) rfl Tryz.ntmps44 rfl (by repeat (first | exact has00 | refine has01 ?_)) fun w0=>?_
 repeat' first|(refine gca ?_;first|(refine ca hR ?_;rintro _ _ ⟨rfl,rfl⟩)|(refine ca hK ?_;rintro _ _ ⟨rfl,rfl⟩)|(refine ca hone ?_;rintro _ _ ⟨o1,o2,rfl,ho1,ho2,rfl⟩)|(refine ca (hC o1 o2 ho1 ho2) ?_;rintro _ _ ⟨rfl,rfl⟩))|refine bx fun c0=>?_|refine al fun c=>?_|refine lda (vs:=[.bool false,e1,e2]) ?_|refine lda ?_|(refine ln (xs:=Us l1) ?_;rw [hml])|refine bdz ?_|refine srz ?_|(refine wo ?_;first|(refine ao ?_;first|refine oa ?_)|refine oa ?_|refine ld ?_|refine gy ?_)|(refine gc ?_;first|refine cf ?_|(refine ci (fun hB=>?_) (fun hB=>?_) <;> try (exfalso;omega)))|refine sq ?_|refine rg ?_|refine xc ?_|refine nl ?_|refine sk ?_|refine bk ?_
 refine TC.loop (ι:=Nat) (fun i=>[(16,I i)]) (fun _=>[]) (fun i=>i ≤ n + 1∧∀ j,j < i→¬ (F j - q).num.sign ≤ 0) (fun i=>n + 1 - i) 0 [0,1,3,6,9] ⟨Nat.zero_le _,fun j h=>absurd h (Nat.not_lt_zero j)⟩ ?_
 rintro i ⟨hi,hno⟩
 by_cases hlt:i < n + 1
 rotate_left
 ·obtain rfl:i = n + 1:=by omega
  rw [leastW_none (least_none _ _ fun j _ g2=>hno j (by omega))]
  clear hno
  repeat' first|refine bdz ?_|refine srz ?_ (hj:=Nat.le_of_ble_eq_true rfl)|(refine wo ?_;first|(refine ao ?_;first|refine oa ?_)|refine oa ?_)|(refine gc ?_;first|(refine ci (fun hB=>?_) (fun hB=>?_) <;> try (exfalso;omega)))|refine sq ?_|refine rg ?_|refine xc ?_|refine nl ?_|refine xe ?_|refine rt ?_
  refine TX.im (own_nil T64 _) (TX.im (own_nil T64 _) ?_)
  exact rtat (cs:=[.bool false,nS,nS]) (vs:=[.bool false,nS,nS]) (T:=TRt) ⟨nS,nS,rfl,rfl,rfl,rfl⟩
 have hN:=hF i hlt
 have hDi:=hD i hlt
 by_cases hle:(F i - q).num.sign ≤ 0
 rotate_left
 ·have hno':∀ j,j < i + 1→¬ (F j - q).num.sign ≤ 0:=fun j hj=>by
   rcases Nat.lt_or_ge j i with g | g
   ·exact hno j g
   ·obtain rfl:j = i:=by omega
    exact hle
  clear hno hF hD
  generalize (F i - q).num.sign = sj at *
  obtain ⟨y,hy⟩ : ∃ y,y = F i:=⟨_,rfl⟩
  rw [← hy] at hN hDi
  repeat' first|(refine gca ?_;first|(refine ca hN ?_;rintro _ _ ⟨v1,v2,rfl,hv1,hv2,rfl⟩)|(refine ca (hDi v1 v2 hv1 hv2) ?_;rintro _ _ ⟨rfl,rfl⟩))|refine al fun c=>?_|refine srz ?_ (hj:=Nat.le_of_ble_eq_true rfl)|refine lda (vs:=rrow y (v1,v2)) ?_|refine lda (vs:=[.bool false,e1,e2]) ?_|(refine wo ?_;first|(refine ao ?_;first|refine aw ?_|refine oa ?_)|refine oa ?_)|(refine gc ?_;first|(refine ci (fun hB=>?_) (fun hB=>?_) <;> try (exfalso;omega)))|refine sq ?_|refine rg ?_|refine xc ?_|refine nl ?_|refine sk ?_|refine bk ?_|refine xb ?_
  exact lp (i + 1) ⟨hlt,hno'⟩
 have hsm:leastR F q 0 (n + 1) = some i:=least_some hle (n + 1) 0 (Nat.zero_le _) (by omega) fun j _ hj=>hno j hj
 rw [leastW_some hsm]
 clear hno hF hD hsm
 generalize (F i - q).num.sign = sj at *
 obtain ⟨y,hy⟩ : ∃ y,y = F i:=⟨_,rfl⟩
 rw [← hy] at hN hDi ⊢
 repeat' first|(refine gca ?_;first|(refine ca hN ?_;rintro _ _ ⟨v1,v2,rfl,hv1,hv2,rfl⟩)|(refine ca (hDi v1 v2 hv1 hv2) ?_;rintro _ _ ⟨rfl,rfl⟩))|refine al fun c=>?_|refine srz ?_ (hj:=Nat.le_of_ble_eq_true rfl)|refine lda (vs:=rrow y (v1,v2)) ?_|refine lda (vs:=[.bool false,e1,e2]) ?_|(refine wo ?_;first|(refine ao ?_;first|refine oa ?_)|refine oa ?_)|(refine gc ?_;first|(refine ci (fun hB=>?_) (fun hB=>?_) <;> try (exfalso;omega)))|refine sq ?_|refine rg ?_|refine xc ?_|refine nl ?_|refine sk ?_|refine bk ?_
 refine rs (fun w=>w.heap[c]? = some (.cells (rrow y (v1,v2)).toArray TRt (0,0))) ?_ (fun w hw=>pt_at memA hw)
 refine tka 0 ?_
 refine tk 1 (v:=.agg (rrow y (v1,v2)).toArray) (fun w h=>R_loadA (E:=env) (vs:=rrow y (v1,v2)) rfl rfl rfl rfl h rfl rfl) ?_
 refine tka 2 ?_
 refine t1 3 ?_
 refine srz ?_ (hj:=Nat.le_of_ble_eq_true rfl)
 refine nl ?_
 refine te (fun w hw=>pt_at memA hw) ?_
 refine tka 4 ?_
 refine t0 ?_
 repeat' first|refine xc ?_|refine rt ?_
 exact rtat (cs:=rrow y (v1,v2)) (vs:=rrow y (v1,v2)) (T:=TRt) ⟨v1,v2,rfl,hv1,hv2,rfl⟩
end Go.Art
namespace Go.Art
open Go Go.Proofs Go.RowKit
def lstV (t:List Int) (k n:Int) (b:Bool) (l m:List Nat):Int × Fr3 × Int:=
 if ripE t k n ≠ 0 then (0,rqn,ripE t k n) else if canE b l m ≠ 0 then (0,rqn,6) else
 if (mkRat (sg b (nv l)) (nv m) - 1).num.sign < 0∧0 < (mkRat (sg b (nv l)) (nv m)).num.sign then leastW (failQ t k.toNat) (mkRat (sg b (nv l)) (nv m)) n.toNat else (0,rqn,3)
theorem lst_none (e:Int):∀ v D,(v = tup3 (I 0) rv0 (I e)∧D = ([]:List Ch))→∃ D',(∃ v1 v2,v = tup3 (I 0) (.agg #[.bool false,v1,v2]) (I e)∧v1.oneCell' = true∧v2.oneCell' = true∧D' = [own T64 v1 (Us []),own T64 v2 (Us [])])∧Im D D'∧∀ c ∈ D',∀ b,¬ c.bd b:=by
 rintro v D ⟨rfl,rfl⟩
 exact ⟨_,⟨nS,nS,rfl,rfl,rfl,rfl⟩,(own_nil T64 _).trans (own_nil T64 _),by repeat (first | exact nb0 | refine nb1 ?_)⟩
theorem leastW_dg (F:Nat→Rat) (q:Rat) (n:Nat):Dg (leastW F q n).2.1.2.1∧Dg (leastW F q n).2.1.2.2:=by
 unfold leastW
 split
 ·exact ⟨Dg_dg _,Dg_dg _⟩
 ·exact ⟨Dg.nil,Dg.nil⟩
theorem lstV_dg (t:List Int) (k n:Int) (b:Bool) (l m:List Nat):Dg (lstV t k n b l m).2.1.2.1∧Dg (lstV t k n b l m).2.1.2.2:=by
 unfold lstV
 split
 ·exact ⟨Dg.nil,Dg.nil⟩
 ·split
  ·exact ⟨Dg.nil,Dg.nil⟩
  ·split
   ·exact leastW_dg _ _ _
   ·exact ⟨Dg.nil,Dg.nil⟩
attribute [local irreducible] Fit pt own ro vw mpc lpt vels rels mow lrc dfr
attribute [local irreducible] lmp lme mit velg relg bnd owl dfrl gow shB grB failQ
theorem LeastV_tr (tv:Value) (htv:tv.oneCell' = true) (t:List Int) (k n:Int) (e1 e2:Value) (he1:e1.oneCell' = true) (he2:e2.oneCell' = true) (b:Bool) (l m:List Nat) (dl:Dg l) (dm:Dg m) (g1:l.length ≤ 6) (g2:m.length ≤ 6) (hk:k ≤ 40∨1024 < k) (hl:t.length ≤ 12) (hn:n ≤ 12∨4096 < n) :
  Tr Tryz.prog 43 [tv,I k,.agg #[.bool b,e1,e2],I n] [vw tv (Is t),vw e1 (Us l),vw e2 (Us m)] [] (LW (lstV t k n b l m)):=by
 unfold lstV
 by_cases h:ripE t k n = 0
 rotate_left
 ·rw [if_pos h]
  refine Tr.post (Tr.pre (Least_err tv t k n nS e1 e2 h b) ?_ ?_) (lst_none _)
  ·exact has1 (has_mem (List.Mem.head _)) has0
  ·repeat (first | exact has00 | refine has01 ?_)
 rw [if_neg (fun g=>g h)]
 by_cases hc:canE b l m = 0
 rotate_left
 ·rw [if_pos hc]
  exact (Least_can tv t k n e1 e2 he1 he2 l m dl dm g1 g2 h b hc).post (lst_none _)
 rw [if_neg (fun g=>g hc)]
 have hq:=can_q dl dm hc
 have hB:=(can_FB dl dm hc g1 g2).le (show 6 ≤ 1000 by decide)
 generalize mkRat (sg b (nv l)) (nv m) = q at *
 obtain ⟨r1,r2,hz⟩:=ripE_zero h
 obtain ⟨kn,rfl⟩ : ∃ kn:Nat,k = kn:=⟨k.toNat,by omega⟩
 obtain ⟨nn,rfl⟩ : ∃ nn:Nat,n = nn:=⟨n.toNat,by omega⟩
 rw [Int.toNat_natCast,Int.toNat_natCast]
 injection hq with q1 q2
 injection q2 with q2 q3
 subst q1 q2 q3
 by_cases hr:(q - 1).num.sign < 0∧0 < q.num.sign
 ·rw [if_pos hr]
  exact Least_ok tv htv t kn nn q e1 e2 he1 he2 hz (by omega) hl (by omega) hB hr
 ·rw [if_neg hr]
  exact (Least_range tv t kn nn q e1 e2 he1 he2 hz (by omega) (by omega) hB hr).post (lst_none _)
theorem RLeastV_tr (tv:Value) (t:List Int) (k n:Int) (e1 e2:Value) (he1:e1.oneCell' = true) (he2:e2.oneCell' = true) (b:Bool) (l m:List Nat) (dl:Dg l) (dm:Dg m) (g1:l.length ≤ 6) (g2:m.length ≤ 6) (hk:k ≤ 40∨1024 < k) (hl:t.length ≤ 12) (hn:n ≤ 12∨4096 < n) :
  Tr Tryz.prog 44 [tv,I k,.agg #[.bool b,e1,e2],I n] [vw tv (Is t),vw e1 (Us l),vw e2 (Us m)] [] (LW (lstV t k n b l m)):=by
 unfold lstV
 by_cases h:ripE t k n = 0
 rotate_left
 ·rw [if_pos h]
  refine Tr.post (Tr.pre (RLeast_err tv t k n e1 e2 h b) ?_ ?_) (lst_none _)
  ·exact has1 (has_mem (List.Mem.head _)) has0
  ·repeat (first | exact has00 | refine has01 ?_)
 rw [if_neg (fun g=>g h)]
 by_cases hc:canE b l m = 0
 rotate_left
 ·rw [if_pos hc]
  exact (RLeast_can tv t k n e1 e2 l m dl dm g1 g2 h b hc).post (lst_none _)
 rw [if_neg (fun g=>g hc)]
 have hq:=can_q dl dm hc
 have hB:=(can_FB dl dm hc g1 g2).le (show 6 ≤ 1000 by decide)
 generalize mkRat (sg b (nv l)) (nv m) = q at *
 obtain ⟨r1,r2,hz⟩:=ripE_zero h
 obtain ⟨kn,rfl⟩ : ∃ kn:Nat,k = kn:=⟨k.toNat,by omega⟩
 obtain ⟨nn,rfl⟩ : ∃ nn:Nat,n = nn:=⟨n.toNat,by omega⟩
 rw [Int.toNat_natCast,Int.toNat_natCast]
 injection hq with q1 q2
 injection q2 with q2 q3
 subst q1 q2 q3
 by_cases hr:(q - 1).num.sign < 0∧0 < q.num.sign
 ·rw [if_pos hr]
  exact RLeast_ok tv t kn nn q e1 e2 he1 he2 hz (by omega) hl (by omega) hB hr
 ·rw [if_neg hr]
  exact (RLeast_range tv t kn nn q e1 e2 he1 he2 hz (by omega) (by omega) hB hr).post (lst_none _)
theorem LongRatio_tr (b:Bool) (vn vd:Value) (hn:vn.oneCell' = true) (hd:vd.oneCell' = true) (l m:List Nat):Tr Tryz.prog 40 [.agg #[.bool b,vn,vd],I 6] [vw vn (Us l),vw vd (Us m)] [] fun v D=>v = .bool (decide (6 < l.length∨6 < m.length))∧D = []:=by
 have h1:=Us_len l
 have h2:=Us_len m
 refine Tr.enter env _ Tryz.func40 (by kernel_rfl) rfl Tryz.ntmps40 rfl (by repeat (first | exact has00 | refine has01 ?_)) fun w0=>?_
 repeat' first|refine bx fun q=>?_|(refine ln (xs:=Us l) ?_;rw [h1])|(refine ln (xs:=Us m) ?_;rw [h2])|(refine wo ?_;first|(refine ao ?_;first|refine oa ?_)|refine oa ?_|refine ld ?_|refine gy ?_|refine gn ?_|(refine gsi (fun hB=>?_) (fun hB=>?_) <;> try (exfalso;omega)))|refine sq ?_|refine rg ?_|refine xc ?_|refine nl ?_|refine rt ?_
 ·refine r1 ⟨?_,rfl⟩
  rw [decide_eq_true (.inl (by omega))]
 ·refine r1 ⟨?_,rfl⟩
  congr 1;exact decide_eq_decide.2 ⟨fun h=>.inr (by omega),fun h=>by omega⟩
theorem CopyNat_tr (a:Value) (l:List Nat) (hl:l.length ≤ 1099511627776):Tr Tryz.prog 90 [a] [vw a (Us l)] [] fun v D=>v.oneCell' = true∧D = [own T64 v (Us l)]:=by
 have h1:=Us_len l
 refine Tr.enter env _ Tryz.func90 (by kernel_rfl) rfl Tryz.ntmps90 rfl (by repeat (first | exact has00 | refine has01 ?_)) fun w0=>?_
 repeat' first|(refine sl0 fun v=>?_)|(refine ap (xs:=[]) (news:=Us l) (fun v2=>?_) (h1:=Us_one l) (hby:=by rw [h1];simp;omega) (h63:=by rw [h1];simp;omega);refine TO.one (v:=v2) (xs:=[] ++ Us l) fun h2=>?_)|(refine wo ?_;first|refine oa ?_)|refine sq ?_|refine rg ?_|refine xc ?_|refine nl ?_|refine rt ?_
 exact r1 ⟨h2,rfl⟩
theorem CopyWhole_tr (b:Bool) (vn:Value) (hn:vn.oneCell' = true) (l:List Nat) (hl:l.length ≤ 1099511627776):Tr Tryz.prog 89 [.agg #[.bool b,vn]] [vw vn (Us l)] [] fun v D=>∃ o,v = .agg #[.bool b,o]∧o.oneCell' = true∧D = [own T64 o (Us l)]:=by
 have hC:=CopyNat_tr vn l hl
 refine Tr.enter env _ Tryz.func89 (by kernel_rfl) rfl Tryz.ntmps89 rfl (by repeat (first | exact has00 | refine has01 ?_)) fun w0=>?_
 repeat' first|(refine gca ?_;first|(refine ca hC ?_;rintro o _ ⟨ho,rfl⟩))|refine bx fun q=>?_|refine al fun q2=>?_|refine lda ?_|refine srz ?_|(refine wo ?_;first|refine oa ?_|refine ld ?_|refine sr ?_)|refine sq ?_|refine rg ?_|refine xc ?_|refine nl ?_|refine rt ?_
 exact rca1 (cs:=[.bool b,o]) (vs:=[.bool b,o]) (T:=TIt) ⟨o,rfl,ho,rfl⟩
theorem CopyRatio_tr (b:Bool) (vn vd:Value) (hn:vn.oneCell' = true) (hd:vd.oneCell' = true) (l m:List Nat) (hl:l.length ≤ 1099511627776) (hm:m.length ≤ 1099511627776):Tr Tryz.prog 42 [.agg #[.bool b,vn,vd]] [vw vn (Us l),vw vd (Us m)] []
  fun v D=>∃ o1 o2,v = .agg #[.bool b,o1,o2]∧o1.oneCell' = true∧o2.oneCell' = true∧D = [own T64 o1 (Us l),own T64 o2 (Us m)]:=by
 have hC:=CopyWhole_tr b vn hn l hl
 have hD:=CopyNat_tr vd m hm
 refine Tr.enter env _ Tryz.func42 (by kernel_rfl) rfl Tryz.ntmps42 rfl (by repeat (first | exact has00 | refine has01 ?_)) fun w0=>?_
 repeat' first|refine bx fun q=>?_|refine al fun q2=>?_|refine sq ?_|refine rg ?_|refine xc ?_|refine nl ?_
 refine rs (fun _=>True) ?_ (fun _ _=>trivial)
 refine tka 0 ?_
 refine tka 3 ?_
 refine t2 1 4 ?_ ?_
 ·refine lda (vs:=[.bool b,vn]) ?_
  refine nl ?_
  refine te (fun _ _=>trivial) ?_
  refine t2 2 4 ?_ ?_
  ·refine ca hC ?_
   rintro _ _ ⟨o1,rfl,ho1,rfl⟩
   refine nl ?_
   refine te (fun _ _=>trivial) ?_
   refine t1 4 ?_
   refine ld ?_
   refine nl ?_
   refine te (fun _ _=>trivial) ?_
   refine tka 6 ?_
   refine t1 5 ?_
   refine ca hD ?_
   rintro o2 _ ⟨ho2,rfl⟩
   refine nl ?_
   refine te (fun _ _=>trivial) ?_
   refine t1 7 ?_
   refine srz ?_ (hj:=Nat.le_of_ble_eq_true rfl)
   refine nl ?_
   refine te (fun _ _=>trivial) ?_
   refine tka 8 ?_
   refine t1 9 ?_
   refine sr ?_
   refine nl ?_
   refine te (fun _ _=>trivial) ?_
   refine t0 ?_
   repeat' first|refine lda ?_|refine srz ?_|refine sq ?_|refine rg ?_|refine xc ?_|refine nl ?_|refine rt ?_
   exact rca1 (cs:=[.bool b,o1,o2]) (vs:=[.bool b,o1,o2]) (T:=TRt) ⟨o1,o2,rfl,ho1,ho2,rfl⟩
  ·refine ld ?_
   refine nl ?_
   refine te (fun _ _=>trivial) ?_
   refine t1 2 ?_
   refine ca hC ?_
   rintro _ _ ⟨o1,rfl,ho1,rfl⟩
   refine nl ?_
   refine te (fun _ _=>trivial) ?_
   refine tka 6 ?_
   refine t1 5 ?_
   refine ca hD ?_
   rintro o2 _ ⟨ho2,rfl⟩
   refine nl ?_
   refine te (fun _ _=>trivial) ?_
   refine t1 7 ?_
   refine srz ?_ (hj:=Nat.le_of_ble_eq_true rfl)
   refine nl ?_
   refine te (fun _ _=>trivial) ?_
   refine tka 8 ?_
   refine t1 9 ?_
   refine sr ?_
   refine nl ?_
   refine te (fun _ _=>trivial) ?_
   refine t0 ?_
   repeat' first|refine lda ?_|refine srz ?_|refine sq ?_|refine rg ?_|refine xc ?_|refine nl ?_|refine rt ?_
   exact rca1 (cs:=[.bool b,o1,o2]) (vs:=[.bool b,o1,o2]) (T:=TRt) ⟨o1,o2,rfl,ho1,ho2,rfl⟩
 ·refine ld ?_
  refine nl ?_
  refine te (fun _ _=>trivial) ?_
  refine t1 1 ?_
  refine lda (vs:=[.bool b,vn]) ?_
  refine nl ?_
  refine te (fun _ _=>trivial) ?_
  refine t1 2 ?_
  refine ca hC ?_
  rintro _ _ ⟨o1,rfl,ho1,rfl⟩
  refine nl ?_
  refine te (fun _ _=>trivial) ?_
  refine tka 6 ?_
  refine t1 5 ?_
  refine ca hD ?_
  rintro o2 _ ⟨ho2,rfl⟩
  refine nl ?_
  refine te (fun _ _=>trivial) ?_
  refine t1 7 ?_
  refine srz ?_ (hj:=Nat.le_of_ble_eq_true rfl)
  refine nl ?_
  refine te (fun _ _=>trivial) ?_
  refine tka 8 ?_
  refine t1 9 ?_
  refine sr ?_
  refine nl ?_
  refine te (fun _ _=>trivial) ?_
  refine t0 ?_
  repeat' first|refine lda ?_|refine srz ?_|refine sq ?_|refine rg ?_|refine xc ?_|refine nl ?_|refine rt ?_
  exact rca1 (cs:=[.bool b,o1,o2]) (vs:=[.bool b,o1,o2]) (T:=TRt) ⟨o1,o2,rfl,ho1,ho2,rfl⟩
end Go.Art
namespace Go.Art
open Go Go.Proofs Go.RowKit
attribute [local irreducible] Fit pt own ro vw mpc lpt vels rels mow lrc dfr
attribute [local irreducible] lmp lme mit velg relg bnd owl dfrl gow shB grB failQ lstV
theorem CurveLeasts_tr (tv:Value) (t:List Int) (k:Int) (b:Bool) (e1 e2:Value) (he1:e1.oneCell' = true) (he2:e2.oneCell' = true) (l m:List Nat) (dl:Dg l) (dm:Dg m) (n:Int) :
  Tr Tryz.prog 9 [tv,I k,.agg #[.bool b,e1,e2],I n] [vw tv (Is t),vw e1 (Us l),vw e2 (Us m)] [] fun v D=>v = .bool true∧D = []:=by
 have hD:=long26_tr tv t k n
 have hLR:=LongRatio_tr b e1 e2 he1 he2 l m
 refine Tr.enter env _ Tryz.func9 (by kernel_rfl) rfl Tryz.ntmps9 rfl (by repeat (first | exact has00 | refine has01 ?_)) fun w0=>?_
 by_cases hlong:6 < l.length∨6 < m.length
 ·rw [decide_eq_true hlong] at hLR
  repeat' first|(refine gca ?_;first|(refine ca hD ?_;rintro _ _ ⟨⟨b',rfl,hb'⟩,rfl⟩;cases b')|(refine ca hLR ?_;rintro _ _ ⟨rfl,rfl⟩)|(refine ca awake26_tr ?_;rintro _ _ ⟨rfl,rfl⟩))|refine bx fun c0=>?_|refine lda (vs:=[.bool b,e1,e2]) ?_|(refine wo ?_;first|refine oa ?_|refine gy ?_|refine gn ?_)|(refine gc ?_;first|refine ct ?_)|refine sq ?_|refine rg ?_|refine xc ?_|refine nl ?_|refine rt ?_
  all_goals exact r1 ⟨rfl,rfl⟩
 rw [decide_eq_false hlong] at hLR
 repeat' first|(refine gca ?_;first|(refine ca hD ?_;rintro _ _ ⟨⟨b',rfl,hb'⟩,rfl⟩;cases b')|(refine ca hLR ?_;rintro _ _ ⟨rfl,rfl⟩)|(refine ca awake26_tr ?_;rintro _ _ ⟨rfl,rfl⟩))|refine bx fun c0=>?_|refine lda (vs:=[.bool b,e1,e2]) ?_|(refine wo ?_;first|refine oa ?_|refine gy ?_|refine gn ?_)|(refine gc ?_;first|refine ct ?_|refine cf ?_)|refine sq ?_|refine rg ?_|refine xc ?_|refine nl ?_|refine sk ?_|refine rt ?_
 rotate_left
 ·exact r1 ⟨rfl,rfl⟩
 obtain ⟨h1,h2,h3⟩:=hb' rfl
 have hC:=CopyIntsV_tr tv t (by omega)
 have hCR:=CopyRatio_tr b e1 e2 he1 he2 l m (by omega) (by omega)
 have hL:=fun o ho x1 x2 g1 g2=>LeastV_tr o ho t k n x1 x2 g1 g2 b l m dl dm (by omega) (by omega) h2 h1 h3
 have hRL:=RLeastV_tr tv t k n e1 e2 he1 he2 b l m dl dm (by omega) (by omega) h2 h1 h3
 have d1:=lstV_dg t k n b l m
 generalize lstV t k n b l m = r at *
 obtain ⟨rx,tf,re⟩:=r
 unfold LW at hL hRL
 dsimp only at hL hRL d1
 clear hD hLR hb' dl dm hlong
 refine rs (fun w=>w.heap[c0]? = some (.cells [.bool b,e1,e2].toArray TRt (0,0))) ?_ (fun w hw=>pt_at memA hw)
 refine tka 0 ?_
 refine tk 2 (v:=.agg [.bool b,e1,e2].toArray) (fun w h=>R_loadA (E:=env) (vs:=[.bool b,e1,e2]) rfl rfl rfl rfl h rfl rfl) ?_
 refine t2 1 4 ?_ ?_
 ·refine ca hC ?_
  rintro o _ ⟨ho,rfl⟩
  refine nl ?_
  refine te (fun w hw=>pt_at memA hw) ?_
  refine t2 3 4 ?_ ?_
  ·refine ca hCR ?_
   rintro _ _ ⟨o1,o2,rfl,ho1,ho2,rfl⟩
   refine nl ?_
   refine te (fun w hw=>pt_at memA hw) ?_
   refine t1 4 ?_
   refine al fun c10=>?_
   refine nl ?_
   refine te (fun w hw=>pt_at memA hw) ?_
   refine tka 5 ?_
   refine t1 6 ?_
   refine srz ?_ (hj:=Nat.le_of_ble_eq_true rfl)
   refine nl ?_
   refine te (fun w hw=>pt_at memA hw) ?_
   refine t0 ?_
   skip
   have hL1:=hL o ho o1 o2 ho1 ho2
   have hSI:=SameIntsT_tr o tv t
   have hSR:=SameRatioT_tr (b,l,m) o1 o2 e1 e2
   repeat' first|(refine gca ?_;first|(refine ca hL1 ?_;rintro _ _ ⟨n1,k1,rfl,hn1,hk1,rfl⟩)|(refine ca hRL ?_;rintro _ _ ⟨n2,k2,rfl,hn2,hk2,rfl⟩))|refine lda ?_|refine al fun c=>?_|refine srz ?_ (hj:=Nat.le_of_ble_eq_true rfl)|(refine wo ?_;first|(refine ao ?_;first|refine oa ?_)|refine oa ?_|refine gy ?_|(refine gsi (fun hB=>?_) (fun hB=>?_) <;> try (exfalso;omega)))|refine sq ?_|refine rg ?_|refine xc ?_|refine nl ?_
   have hS1:=SameRatioT_tr tf n1 k1 n2 k2
   have hOv:=OverRatio_tr tf n1 k1 d1.1 d1.2
   repeat' first|(refine gca ?_;first|(refine ca hS1 ?_;rintro _ _ ⟨rfl,rfl⟩)|(refine ca hOv ?_;rintro _ _ rfl)|(refine ca hSI ?_;rintro _ _ ⟨rfl,rfl⟩)|(refine ca hSR ?_;rintro _ _ ⟨rfl,rfl⟩)|(refine ca awake26_tr ?_;rintro _ _ ⟨rfl,rfl⟩))|refine lda ?_|(refine wo ?_;first|(refine ao ?_;first|refine oa ?_)|refine oa ?_|refine gy ?_|(refine gsi (fun hB=>?_) (fun hB=>?_) <;> try (exfalso;omega)))|refine sq ?_|refine rg ?_|refine xc ?_|refine nl ?_|refine rt ?_
   all_goals exact r1 ⟨rfl,rfl⟩
  ·refine al fun c10=>?_
   refine nl ?_
   refine te (fun w hw=>pt_at memA hw) ?_
   refine t1 3 ?_
   refine ca hCR ?_
   rintro _ _ ⟨o1,o2,rfl,ho1,ho2,rfl⟩
   refine nl ?_
   refine te (fun w hw=>pt_at memA hw) ?_
   refine tka 5 ?_
   refine t1 6 ?_
   refine srz ?_ (hj:=Nat.le_of_ble_eq_true rfl)
   refine nl ?_
   refine te (fun w hw=>pt_at memA hw) ?_
   refine t0 ?_
   skip
   have hL1:=hL o ho o1 o2 ho1 ho2
   have hSI:=SameIntsT_tr o tv t
   have hSR:=SameRatioT_tr (b,l,m) o1 o2 e1 e2
   repeat' first|(refine gca ?_;first|(refine ca hL1 ?_;rintro _ _ ⟨n1,k1,rfl,hn1,hk1,rfl⟩)|(refine ca hRL ?_;rintro _ _ ⟨n2,k2,rfl,hn2,hk2,rfl⟩))|refine lda ?_|refine al fun c=>?_|refine srz ?_ (hj:=Nat.le_of_ble_eq_true rfl)|(refine wo ?_;first|(refine ao ?_;first|refine oa ?_)|refine oa ?_|refine gy ?_|(refine gsi (fun hB=>?_) (fun hB=>?_) <;> try (exfalso;omega)))|refine sq ?_|refine rg ?_|refine xc ?_|refine nl ?_
   have hS1:=SameRatioT_tr tf n1 k1 n2 k2
   have hOv:=OverRatio_tr tf n1 k1 d1.1 d1.2
   repeat' first|(refine gca ?_;first|(refine ca hS1 ?_;rintro _ _ ⟨rfl,rfl⟩)|(refine ca hOv ?_;rintro _ _ rfl)|(refine ca hSI ?_;rintro _ _ ⟨rfl,rfl⟩)|(refine ca hSR ?_;rintro _ _ ⟨rfl,rfl⟩)|(refine ca awake26_tr ?_;rintro _ _ ⟨rfl,rfl⟩))|refine lda ?_|(refine wo ?_;first|(refine ao ?_;first|refine oa ?_)|refine oa ?_|refine gy ?_|(refine gsi (fun hB=>?_) (fun hB=>?_) <;> try (exfalso;omega)))|refine sq ?_|refine rg ?_|refine xc ?_|refine nl ?_|refine rt ?_
   all_goals exact r1 ⟨rfl,rfl⟩
 ·refine al fun c10=>?_
  refine nl ?_
  refine te (fun w hw=>pt_at memA hw) ?_
  refine t1 1 ?_
  refine ca hC ?_
  rintro o _ ⟨ho,rfl⟩
  refine nl ?_
  refine te (fun w hw=>pt_at memA hw) ?_
  refine t1 3 ?_
  refine ca hCR ?_
  rintro _ _ ⟨o1,o2,rfl,ho1,ho2,rfl⟩
  refine nl ?_
  refine te (fun w hw=>pt_at memA hw) ?_
  refine tka 5 ?_
  refine t1 6 ?_
  refine srz ?_ (hj:=Nat.le_of_ble_eq_true rfl)
  refine nl ?_
  refine te (fun w hw=>pt_at memA hw) ?_
  refine t0 ?_
  skip
  have hL1:=hL o ho o1 o2 ho1 ho2
  have hSI:=SameIntsT_tr o tv t
  have hSR:=SameRatioT_tr (b,l,m) o1 o2 e1 e2
  repeat' first|(refine gca ?_;first|(refine ca hL1 ?_;rintro _ _ ⟨n1,k1,rfl,hn1,hk1,rfl⟩)|(refine ca hRL ?_;rintro _ _ ⟨n2,k2,rfl,hn2,hk2,rfl⟩))|refine lda ?_|refine al fun c=>?_|refine srz ?_ (hj:=Nat.le_of_ble_eq_true rfl)|(refine wo ?_;first|(refine ao ?_;first|refine oa ?_)|refine oa ?_|refine gy ?_|(refine gsi (fun hB=>?_) (fun hB=>?_) <;> try (exfalso;omega)))|refine sq ?_|refine rg ?_|refine xc ?_|refine nl ?_
  have hS1:=SameRatioT_tr tf n1 k1 n2 k2
  have hOv:=OverRatio_tr tf n1 k1 d1.1 d1.2
  repeat' first|(refine gca ?_;first|(refine ca hS1 ?_;rintro _ _ ⟨rfl,rfl⟩)|(refine ca hOv ?_;rintro _ _ rfl)|(refine ca hSI ?_;rintro _ _ ⟨rfl,rfl⟩)|(refine ca hSR ?_;rintro _ _ ⟨rfl,rfl⟩)|(refine ca awake26_tr ?_;rintro _ _ ⟨rfl,rfl⟩))|refine lda ?_|(refine wo ?_;first|(refine ao ?_;first|refine oa ?_)|refine oa ?_|refine gy ?_|(refine gsi (fun hB=>?_) (fun hB=>?_) <;> try (exfalso;omega)))|refine sq ?_|refine rg ?_|refine xc ?_|refine nl ?_|refine rt ?_
  all_goals exact r1 ⟨rfl,rfl⟩
end Go.Art
namespace Go.Art
open Go Go.RowKit
section
variable {H:Type} {enc:TypeId × Value→H} {P:Program} {w:World} {base fuel:Nat} {t e:TypeId} {k:IntKind} {cs:List Value} {x:DataW H × List MemPlace}
theorem Env.cells (E:Env P) {z:Value} {s b:Nat} (h:lk E.inf t = some (z,s,b)):P.cellsOf t = s:=by
 obtain ⟨i,h1,_,h2,_⟩:=E.info h
 simp [Program.cellsOf,h1,h2]
theorem leaf_field (E:Env P) {fs:Array Field} (h:DataW.trod enc P w base (fun _=>true) true fuel t cs = some x) (ht:lk E.und t = some (.struct fs):=by rfl) {i:Nat} {f:Field} {z:Value} {s b:Nat} (hf:fs[i]? = some f) (he:lk E.inf f.type = some (z,s,b)) :
  ∃ n y,DataW.trod enc P w base (fun _=>true) true n f.type ((cs.drop f.offset).take s) = some y:=by
 obtain ⟨xs,n,_,_,_,hl,hx⟩:=DataW.trod_struct (E.un ht) h
 have h1:=hx i f hf
 rw [E.cells he] at h1
 have:i < xs.length:=by rw [hl];exact (Array.getElem?_eq_some_iff.1 hf).1
 exact ⟨n,xs[i],by rw [h1,List.getElem?_eq_getElem this]⟩
theorem leaf_len (E:Env P) {fs:Array Field} (h:DataW.trod enc P w base (fun _=>true) true fuel t cs = some x) (ht:lk E.und t = some (.struct fs):=by rfl) {z:Value} {s b:Nat} (he:lk E.inf t = some (z,s,b)):cs.length = s:=by
 obtain ⟨xs,n,_,_,h1,_⟩:=DataW.trod_struct (E.un ht) h
 rw [h1,E.cells he]
theorem leaf_row (E:Env P) (h:DataW.trod enc P w base (fun _=>true) true fuel t cs = some x) {z:Value} {b:Nat} (ht:lk E.und t = some (.slice e):=by rfl) (he:lk E.und e = some (.int k):=by rfl) (hc:lk E.inf e = some (z,1,b):=by rfl) :
  ∃ (v:Value) (l:List Int),cs = [v]∧Sl w v (l.map (.int k))∧(∀ n ∈ l,(Lit.int k n).wf = true)∧v.oneCell' = true:=by
 rcases Go.ChangeShapes.open_ints (E.un ht) (E.un he) (E.cells hc) h with ⟨rfl,_⟩ | ⟨a,len,cap,zs,rfl,_,hl,hm,hz,_,hcell,hw⟩
 ·exact ⟨_,[],rfl,Sl.nil w,by simp,rfl⟩
 ·simp only [if_true] at hz
  refine ⟨_,zs.take len,rfl,⟨some a,cap,by simp;omega,by simp;omega,hm,fun i u hi=>⟨a,rfl,?_⟩⟩,fun n hn=>hw n (List.mem_of_mem_take hn),rfl⟩
  have hlt:i < len∧i < zs.length:=by
   have:=(List.getElem?_eq_some_iff.1 hi).1
   simp at this;omega
  rw [hcell i hlt.2]
  simp [hlt.1,hlt.2] at hi
  rw [← hi];simp [List.getD_eq_getElem?_getD,hlt.2]
theorem wide_agg (E:Env P) {fs:Array Field} {r:Reach} {v:Value} (h:Value.okWide P w r base t v) (ht:lk E.und t = some (.struct fs):=by rfl):∃ cs,v = .agg cs:=by
 unfold Value.okWide at h
 rw [E.un ht] at h
 obtain ⟨cs,rfl,_⟩:=h
 exact ⟨cs,rfl⟩
end
end Go.Art
namespace Go.Art
open Go Go.RowKit
structure SatL (A:List Ch) (w:World):Prop where
 s:Sat A w
 l:∀ c ∈ A,∀ b,¬ c.wr b
theorem SatL.nil (w:World):SatL [] w:=⟨Sat.nil w,fun _ h=>nomatch h⟩
theorem SatL.cons {c:Ch} {A:List Ch} {w:World} [hc:Lent c] (h:c.P w) (k:SatL A w):SatL (c :: A) w:=
 ⟨Sat.cons.2 ⟨h,fun a ha=>⟨fun b hb=>absurd hb (hc.lent b).1,fun b hb=>absurd hb (k.l a ha b)⟩,k.s⟩,fun x hx b=>by rcases List.mem_cons.1 hx with rfl | hx;exact (hc.lent b).1;exact k.l x hx b⟩
structure IsMat (k:IntKind) (w:World) (v:Value) (hs:List Value) (ls:List (List Int)):Prop where
 sl:Sl w v hs
 len:hs.length = ls.length
 el:∀ i,i < ls.length→Sl w (hs.getD i nS) ((ls.getD i []).map (.int k))∧∀ n ∈ ls.getD i [],(Lit.int k n).wf = true
theorem getD_map_range {α:Type} (f:Nat→α) (n i:Nat) (z:α) (h:i < n):((List.range n).map f).getD i z = f i:=by simp [List.getD_eq_getElem?_getD,h]
theorem isMat_of {H:Type} {enc:TypeId × Value→H} {P:Program} {w:World} {base fuel:Nat} {t e q:TypeId} {k:IntKind} {a:Option Addr} {len cap:Nat} {x:DataW H × List MemPlace} (ht:P.underlying t = some (.slice e)) (he:P.underlying e = some (.slice q)) (hq:P.underlying q = some (.int k))
  (ce:P.cellsOf e = 1) (cq:P.cellsOf q = 1) (h:DataW.trod enc P w base (fun _=>true) true fuel t [.slice a len cap] = some x):∃ hs ls,IsMat k w (.slice a len cap) hs ls:=by
 rcases Deep.open_int_rows ht he hq ce cq h with ⟨hcs,_⟩ | ⟨ad,l,c,A,L,C,Z,hcs,_,hl,hm,_,hr⟩
 ·injection hcs with hcs;injection hcs with h1 h2 h3
  subst h1 h2 h3
  exact ⟨[],[],Sl.nil w,rfl,fun i hi=>by simp at hi⟩
 ·injection hcs with hcs;injection hcs with h1 h2 h3
  subst h1 h2 h3
  refine ⟨(List.range len).map fun r=>.slice (A r) (L r) (C r),(List.range len).map fun r=>(Z r).take (L r),?_,by simp,fun i hi=>?_⟩
  ·refine ⟨some ad,cap,by simp,by simpa using hl,hm,fun i u hi=>⟨ad,rfl,?_⟩⟩
   simp only [List.getElem?_map,Option.map_eq_some_iff] at hi
   obtain ⟨r,hr1,rfl⟩:=hi
   have:i < len:=by
    have:=(List.getElem?_eq_some_iff.1 hr1).1
    simpa using this
   rw [List.getElem?_range this] at hr1;cases hr1
   exact (hr i (by omega)).1
  ·have hi':i < len:=by simpa using hi
   obtain ⟨_,h4,h5,h6,h7,h8,h9⟩:=hr i (by omega)
   rw [getD_map_range _ _ _ _ hi',getD_map_range _ _ _ _ hi']
   refine ⟨?_,fun n hn=>h7 n (List.mem_of_mem_take hn)⟩
   cases hA:A i with
   | none=>
    have hc:=h8 hA
    have hz:Z i = []:=List.eq_nil_of_length_eq_zero (by omega)
    have h0:L i = 0:=by omega
    rw [hz,hc,h0];exact Sl.nil w
   | some a'=>
    refine ⟨some a',C i,by simp;omega,by simp;omega,h5,fun j u hj=>⟨a',rfl,?_⟩⟩
    simp only [List.getElem?_map,Option.map_eq_some_iff] at hj
    obtain ⟨z,hz1,rfl⟩:=hj
    rw [List.getElem?_take] at hz1
    split at hz1
    ·rw [(h9 a' hA).2 j (by omega)]
     simp [List.getD_eq_getElem?_getD,hz1]
    ·cases hz1
open Go Go.Proofs Go.RowKit
def InRt (w:World) (v:Value):Prop:=
 ∃ (b:Bool) (e1 e2:Value) (l m:List Nat),v = .agg #[.bool b,e1,e2]∧e1.oneCell' = true∧e2.oneCell' = true∧Sl w e1 (Us l)∧Sl w e2 (Us m)∧Dg l∧Dg m
theorem us_of {l:List Int} (h:∀ n ∈ l,(Lit.int .u64 n).wf = true):l.map (Value.int .u64) = Us (l.map Int.toNat)∧Dg (l.map Int.toNat):=by
 constructor
 ·unfold Us
  rw [List.map_map]
  refine List.map_congr_left fun n hn=>?_
  have:=Go.bounds_u64 (h n hn)
  show Value.int .u64 n = Value.int .u64 ((n.toNat:Nat):Int)
  rw [Int.toNat_of_nonneg this.1]
 ·intro x hx
  obtain ⟨n,hn,rfl⟩:=List.mem_map.1 hx
  have:=Go.bounds_u64 (h n hn)
  omega
set_option maxRecDepth 20000 in
theorem inRt_of {H:Type} {enc:TypeId × Value→H} {w:World} {r:Reach} {base:Nat} {v:Value} {d:DataW H} {ps:List MemPlace} (hv:Value.okWide Tryz.prog w r base 35 v)
  (h:DataW.Trod enc Tryz.prog w 0 (fun _=>true) true 35 v d ps):InRt w v:=by
 obtain ⟨cs,rfl⟩:=wide_agg env hv
 obtain ⟨fuel,h⟩:=h
 have h:DataW.trod enc Tryz.prog w 0 (fun _=>true) true fuel 35 cs.toList = some (d,ps):=h
 have hl:=leaf_len env h rfl rfl
 have hc:cs = cs.toList.toArray:=by simp
 rw [hc]
 generalize cs.toList = l at *
 match l,hl with
 | [c0,c1,c2],_=>
  obtain ⟨_,_,g0⟩:=leaf_field env h (i:=0) rfl rfl rfl
  obtain ⟨_,_,g1⟩:=leaf_field env h (i:=1) rfl rfl rfl
  obtain ⟨_,_,k0⟩:=leaf_field env g0 (i:=0) rfl rfl rfl
  obtain ⟨_,_,k1⟩:=leaf_field env g0 (i:=1) rfl rfl rfl
  obtain ⟨b,e0⟩ : ∃ b,[c0] = [Value.bool b]:=by
   obtain ⟨b,h1,_⟩:=DataW.trod_bool (env.un (t:=4) (d:=.bool) rfl) k0
   exact ⟨b,h1⟩
  obtain ⟨v1,l1,e1,s1,b1,o1⟩:=leaf_row env k1
  obtain ⟨v2,l2,e2,s2,b2,o2⟩:=leaf_row env g1
  injection e0 with e0;injection e1 with e1;injection e2 with e2
  subst e0 e1 e2
  obtain ⟨u1,d1⟩:=us_of b1
  obtain ⟨u2,d2⟩:=us_of b2
  rw [u1] at s1
  rw [u2] at s2
  exact ⟨b,c1,c2,_,_,rfl,o1,o2,s1,s2,d1,d2⟩
theorem CurveLeasts_law {w:World} {tv a:Value} {t:List Int} (k n:Int) (hv:Sl w tv (Is t)) (ha:InRt w a):Fn Tryz.prog 9 [tv,I k,a,I n] w fun v w'=>v = .bool true∧Ext w w':=by
 obtain ⟨b,e1,e2,l,m,rfl,o1,o2,s1,s2,d1,d2⟩:=ha
 exact (CurveLeasts_tr tv t k b e1 e2 o1 o2 l m d1 d2 n).law (SatL.cons hv (SatL.cons s1 (SatL.cons s2 (SatL.nil w)))).s
end Go.Art
