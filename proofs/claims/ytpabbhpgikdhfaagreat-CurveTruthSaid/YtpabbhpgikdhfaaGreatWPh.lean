/- Texts put together: Jl Ja Jb Jc Jd Je Jf Jg Jh Ji Jn Jm Jj Jk Jo. Conditions: none. -/
import Derived.Test.YtpabbhpgikdhfaaGreatWPg
set_option linter.unusedSimpArgs false
set_option linter.unusedVariables false
namespace Go.Art
open Go Go.Proofs Go.RowKit
section
variable {β:Type}
theorem takeS {α:Type} {l:List α} {i:Nat} (h:i < l.length) (d:α):l.take (i + 1) = l.take i ++ [l.getD i d]:=by
 rw [List.take_add_one,List.getD_eq_getElem?_getD,List.getElem?_eq_getElem h];rfl
def ctR (φ:List β→Nat) (L:List (β × Rat)):Nat→List β→Rat→List Rat→List Rat
 | 0,b,p,a=>a.set (φ b) (a.getD (φ b) 0 + p)
 | n + 1,b,p,a=>L.foldl (fun a s=>ctR φ L n (b ++ [s.1]) (p * s.2) a) a
def ctF (φ:List β→Nat) (L:List (β × Rat)) (n:Nat) (b:List β) (p:Rat) (a:List Rat) (i:Nat):List Rat:=(L.take i).foldl (fun a s=>ctR φ L n (b ++ [s.1]) (p * s.2) a) a
abbrev atG (φ:List β→Nat) (L:List (β × Rat)) (n:Nat) (b:List β) (u:Nat):Rat:=tG L n fun l=>if φ (b ++ l) = u then 1 else 0
structure Chn (O:Nat) (L:List (β × Rat)):Prop where
 fr:∀ s ∈ L,FrQ O s.2
 one:sR (·.2) L ≤ 1
theorem Chn.pos {O:Nat} {L:List (β × Rat)} (h:Chn O L):∀ s ∈ L,0 ≤ s.2:=fun s hs=>(h.fr s hs).nonneg
structure Acc (N E:Nat) (p:Rat) (a:List Rat):Prop where
 len:a.length = N
 fr:∀ u,u < N→FrQ E (a.getD u 0)
 le:∀ u,u < N→a.getD u 0 + p ≤ 1
theorem sR_take_le {α:Type} {f:α→Rat} {l:List α} (h:∀ x ∈ l,0 ≤ f x) (i:Nat):sR f (l.take i) ≤ sR f l:=by
 have h1:=sR_app f (l.take i) (l.drop i)
 rw [List.take_append_drop] at h1
 have h2:0 ≤ sR f (l.drop i):=sR_nonneg fun x hx=>h x (List.mem_of_mem_drop hx)
 grind
end
abbrev chnS (t:List Int) (k:Nat):List (List Int × Rat):=(itemS t k).map fun s=>(s.1,(s.2:Rat) / (oneS t k:Rat))
theorem chnS_ok {t:List Int} {k:Nat} (hz:solE t k = 0):Chn (oneS t k) (chnS t k):=by
 refine ⟨fun s hs=>?_,?_⟩
 ·obtain ⟨x,_,rfl⟩:=List.mem_map.1 hs
  exact ⟨x.2,rfl⟩
 ·have h1:=item_ev t k fun _=>1
  rw [sR_congr (f:=fun s:List Int × Rat=>s.2 * 1) (l:=tabX t k) (g:=(·.2)) fun s _=>Rat.mul_one _,tabX_one hz,sR_congr (f:=fun s:List Int × Rat=>s.2 * 1) (l:=chnS t k) (g:=(·.2)) fun s _=>Rat.mul_one _] at h1
  rw [h1];exact Rat.le_refl
theorem chnS_len (t:List Int) (k:Nat):(chnS t k).length = (setP t k t.length).length:=by rw [List.length_map,itemS_len]
theorem chnS_get {t:List Int} {k i:Nat} (hz:solE t k = 0) (h:i < (setP t k t.length).length):(chnS t k).getD i ([],0) = ((setP t k t.length).getD i [],mkRat (t.getD (((setP t k t.length).getD i []).length - 1) 0) (chs k ((setP t k t.length).getD i []).length * t.sum.toNat)):=by
 have hm:(setP t k t.length).getD i [] ∈ setP t k t.length:=by rw [List.getD_eq_getElem?_getD,List.getElem?_eq_getElem h];exact List.getElem_mem h
 obtain ⟨p1,p2,_,_⟩:=setP_mem hm
 rw [cha_eq hz p1 p2,Rat.mkRat_eq_div]
 have e:(chnS t k).getD i ([],0) = ((setP t k t.length).getD i [],(wS t k ((setP t k t.length).getD i []).length:Rat) / (oneS t k:Rat)):=by
  simp [chnS,itemS,List.getD_eq_getElem?_getD,h]
 rw [e]
 push_cast
 rfl
theorem stopE_snoc {k:Int} {b:List (List Int)} {s:List Int} (h:stopE k b = 0) (hs:isSet k s = true):stopE k (b ++ [s]) = 0:=by
 unfold stopE at *
 split at h
 ·cases h
 ·rename_i h1
  split at h
  ·cases h
  ·rename_i h2
   rw [if_neg h1,if_neg]
   rw [List.any_append]
   simp only [List.any_cons,List.any_nil,hs]
   simpa using h2
theorem ris_up:∀ (d f k:Nat) (l:List Int),l ∈ risR d f k→l.Pairwise (· < ·)
 | 0,f,k,l,h=>by rw [List.mem_singleton.1 h];exact List.Pairwise.nil
 | d + 1,f,k,l,h=>by
  obtain ⟨j,hj,h1⟩:=List.mem_flatMap.1 h
  obtain ⟨m,hm,rfl⟩:=List.mem_map.1 h1
  refine List.pairwise_cons.2 ⟨fun y hy=>?_,ris_up d _ k m hm⟩
  have:=(risR_mem _ _ _ _ hm).2 y hy
  omega
theorem setP_isSet {t:List Int} {k i:Nat} (h:i < (setP t k t.length).length):isSet k ((setP t k t.length).getD i []) = true:=by
 have hm:(setP t k t.length).getD i [] ∈ setP t k t.length:=by rw [List.getD_eq_getElem?_getD,List.getElem?_eq_getElem h];exact List.getElem_mem h
 obtain ⟨p1,p2,p3,p4⟩:=setP_mem hm
 exact isSet_iff.2 ⟨fun e=>by rw [e] at p1;simp at p1,ris_up _ _ _ _ p4,fun x hx=>by have:=(risR_mem _ _ _ _ p4).2 x hx;omega⟩
theorem chnS_FB {t:List Int} {k i:Nat} (hz:solE t k = 0) (hk:k ≤ 40) (hl:t.length ≤ 12) (h:i < (chnS t k).length):FB ((chnS t k).getD i ([],0)).2 10:=by
 have h':i < (itemS t k).length:=by rwa [List.length_map] at h
 have hm:(itemS t k).getD i ([],0) ∈ itemS t k:=by rw [List.getD_eq_getElem?_getD,List.getElem?_eq_getElem h'];exact List.getElem_mem h'
 have e:((chnS t k).getD i ([],0)).2 = (((itemS t k).getD i ([],0)).2:Rat) / (oneS t k:Rat):=by simp [chnS,List.getD_eq_getElem?_getD,h']
 rw [e]
 exact FB_nat (oneS_pos hz) (Nat.lt_of_le_of_lt (itemS_le hz _ hm) (oneS_lt hz hk hl)) (oneS_lt hz hk hl)
theorem chnS_fr {t:List Int} {k i:Nat} (hz:solE t k = 0) (h:i < (chnS t k).length):FrQ (oneS t k) ((chnS t k).getD i ([],0)).2:=(chnS_ok hz).fr _ (by rw [List.getD_eq_getElem?_getD,List.getElem?_eq_getElem h];exact List.getElem_mem h)
end Go.Art
namespace Go.Art
open Go Go.Proofs Go.RowKit
structure SeqR (P:Program) (f:FuncId) (cap:Array Value) (U:Ch) (qs:List Rat):Prop where
 run:∀ {α:Type} (V:Ch) [Lent V] (l:Nat) (J:α→Ch) (pl:α→Nat→Prop) (S:α→Prop) (a0:α),pl a0 0→(∀ a b,¬ (J a).bd b) →
  (∀ a i v1 v2,v1.oneCell' = true→v2.oneCell' = true→pl a i→i < qs.length→Ty P l [I (i:Int),rv (qs.getD i 0) v1 v2] [V] [own T64 v1 (Us (dg (qs.getD i 0).num.natAbs)),own T64 v2 (Us (dg (qs.getD i 0).den)),J a] fun ok B=>∃ a',B = [J a']∧((ok = true∧pl a' (i + 1))∨(ok = false∧S a'))) →
  Tr P f (yv l :: cap.toList) [V,U] [J a0] fun _ B=>∃ a,B = [J a]∧(pl a qs.length∨S a)
def curL (t:List Int) (k e:Nat):List Rat:=(List.range e).map (failQ t k)
theorem curL_len (t:List Int) (k e:Nat):(curL t k e).length = e:=by simp [curL]
theorem curL_get {t:List Int} {k e i:Nat} (h:i < e):(curL t k e).getD i 0 = failQ t k i:=by simp [curL,List.getD_eq_getElem?_getD,h]
attribute [local irreducible] Fit pt own ro vw mpc lpt vels rels mow lrc dfr
attribute [local irreducible] lmp lme mit velg relg bnd owl dfrl gow shB grB
theorem curefuses_tr (tv:Value) (t:List Int) (k n:Int):Tr Tryz.prog 91 [tv,I k,I n] [vw tv (Is t)] [] fun u D=>u = I (ripE t k n)∧D = []:=by
 have hC:=SoCheck_tr tv t k
 have h13:=@solE_13 t k
 unfold ripE
 by_cases hc:k < 1∨1024 < k∨n < 0∨4096 < n
 ·rw [if_pos hc]
  refine Tr.enter env _ Tryz.func91 (by kernel_rfl) rfl Tryz.ntmps91 rfl (by repeat (first | exact has00 | refine has01 ?_)) fun w0=>?_
  repeat' first|(refine wo ?_;first|(refine ao ?_;first|refine oa ?_)|refine oa ?_|refine gy ?_|refine gn ?_|(refine gsi (fun hB=>?_) (fun hB=>?_) <;> try (exfalso;omega)))|(refine gc ?_;first|refine ct ?_|(refine ci (fun hB=>?_) (fun hB=>?_) <;> try (exfalso;omega)))|refine sq ?_|refine rg ?_|refine xc ?_|refine nl ?_|refine bk ?_|refine rt ?_
  all_goals exact r1 ⟨rfl,rfl⟩
 ·rw [if_neg hc]
  by_cases hz:solE t k = 0
  ·rw [hz] at hC ⊢
   refine Tr.enter env _ Tryz.func91 (by kernel_rfl) rfl Tryz.ntmps91 rfl (by repeat (first | exact has00 | refine has01 ?_)) fun w0=>?_
   repeat' first|(refine gca ?_;first|(refine ca hC ?_;rintro _ _ ⟨rfl,rfl⟩))|(refine wo ?_;first|(refine ao ?_;first|refine oa ?_)|refine oa ?_|refine gy ?_|(refine gsi (fun hB=>?_) (fun hB=>?_) <;> try (exfalso;omega)))|(refine gc ?_;first|refine cf ?_|(refine ci (fun hB=>?_) (fun hB=>?_) <;> try (exfalso;omega)))|refine sq ?_|refine rg ?_|refine xc ?_|refine nl ?_|refine sk ?_|refine bk ?_|refine rt ?_|refine xb ?_
   exact r1 ⟨rfl,rfl⟩
  ·rw [h13 hz] at hC ⊢
   refine Tr.enter env _ Tryz.func91 (by kernel_rfl) rfl Tryz.ntmps91 rfl (by repeat (first | exact has00 | refine has01 ?_)) fun w0=>?_
   repeat' first|(refine gca ?_;first|(refine ca hC ?_;rintro _ _ ⟨rfl,rfl⟩))|(refine wo ?_;first|(refine ao ?_;first|refine oa ?_)|refine oa ?_|refine gy ?_|(refine gsi (fun hB=>?_) (fun hB=>?_) <;> try (exfalso;omega)))|(refine gc ?_;first|refine ct ?_|(refine ci (fun hB=>?_) (fun hB=>?_) <;> try (exfalso;omega)))|refine sq ?_|refine rg ?_|refine xc ?_|refine nl ?_|refine bk ?_|refine rt ?_
   exact r1 ⟨rfl,rfl⟩
theorem points_tr (tv:Value) (htv:tv.oneCell' = true) (k n:Int):Tr Tryz.prog 93 [tv,I k,I n] [] [] fun u D=>∃ p1 p2 p3,u = .func (.func 156) #[] #[ptr p1,ptr p2,ptr p3]∧D = [pt p1 [I n] TLI,pt p3 [I k] TLI,pt p2 [tv] TLs]:=by
 refine Tr.enter env _ Tryz.func93 (by kernel_rfl) rfl Tryz.ntmps93 rfl (by repeat (first | exact has00 | refine has01 ?_)) fun w0=>?_
 repeat' first|refine bx1 fun c=>?_|(refine wo ?_;first|refine oa ?_)|refine sq ?_|refine rg ?_|refine xc ?_|refine nl ?_|refine rt ?_
 rename_i c3 c4
 exact r1 ⟨c,c3,c4,rfl,rfl⟩
theorem points1_seq (p1 p2 p3:Nat) (tv:Value) (htv:tv.oneCell' = true) (t:List Int) (k e:Nat) (hz:solE t k = 0) (hk:k ≤ 40) (hl:t.length ≤ 12) (he:e ≤ 13) :
  SeqR Tryz.prog 156 #[ptr p1,ptr p2,ptr p3] (lbd [lpt p1 [I e] TLI,lpt p2 [tv] TLs,lpt p3 [I k] TLI,vw tv (Is t)]) (curL t k e):=by
 refine ⟨fun {α} V hV l J pl S a0 h0 hnb hy=>?_⟩
 haveI:=hV
 haveI:∀ a,NoB (J a):=fun a=>⟨hnb a⟩
 refine Tr.pre (pre:=[V,lpt p1 [I e] TLI,lpt p2 [tv] TLs,lpt p3 [I k] TLI,vw tv (Is t)]) ?_ (has1 (has_mem (by simp)) (has_lbds (C:=[lpt p1 [I e] TLI,lpt p2 [tv] TLs,lpt p3 [I k] TLI,vw tv (Is t)]) (by simp) _ (by repeat (first | exact has00 | refine has01 ?_)) fun c hc=>hc)) (by repeat (first | exact has00 | refine has01 ?_))
 rw [curL_len] at hy ⊢
 have hF:=fun i (hi:i < e)=>Fail_ok tv htv t k i hz hk hl (by omega)
 have hget:=fun i (hi:i < e)=>curL_get (t:=t) (k:=k) hi
 clear hz
 refine Tr.enter env _ Tryz.func156 (by kernel_rfl) rfl Tryz.ntmps156 rfl (by repeat (first | exact has00 | refine has01 ?_)) fun w0=>?_
 repeat' first|(refine wo ?_;first|refine oa ?_|refine ldl ?_)|refine sq ?_|refine rg ?_|refine xc ?_|refine nl ?_|refine bk ?_
 refine TC.loop (ι:=InS α) (fun g=>[(9,I g.i)]) (fun g=>[J g.a]) (fun g=>g.i ≤ e∧pl g.a g.i) (fun g=>e - g.i) ⟨0,a0⟩ [0,1,2,3,8] ⟨Nat.zero_le _,h0⟩ ?_
 rintro ⟨i,a⟩ ⟨hi,ha⟩
 dsimp only at hi ha ⊢
 by_cases hlt:i < e
 ·have hN:=hF i hlt
  have hG:=hget i hlt
  have hyi:=fun v1 v2 h1 h2=>hy a i v1 v2 h1 h2 ha hlt
  rw [hG] at hyi
  unfold FQ2 at hN
  clear hF hget hG hy
  generalize failQ t k i = q at *
  repeat' first|(refine gca ?_;first|(refine ca hN ?_;rintro _ _ ⟨n1,d1,rfl,hn1,hd1,rfl⟩))|refine al fun c6=>?_|refine srz ?_|refine lda (vs:=rrow q (n1,d1)) ?_|(refine cy (hyi n1 d1 hn1 hd1) ?_ (hp:=has1 (has_mem memA) has0);rintro ok _ ⟨a2,rfl,⟨rfl,h3⟩ | ⟨rfl,h3⟩⟩)|(refine wo ?_;first|(refine ao ?_;first|refine aw ?_|refine oa ?_)|refine oa ?_|refine ldl ?_|refine gy ?_)|(refine gc ?_;first|refine ct ?_|refine cf ?_|(refine ci (fun hB=>?_) (fun hB=>?_) <;> try (exfalso;omega)))|refine sq ?_|refine rg ?_|refine xc ?_|refine nl ?_|refine sk ?_|refine bk ?_|refine rt ?_|refine xb ?_
  ·exact lp ⟨i + 1,a2⟩ ⟨hlt,h3⟩
  ·exact r0 ⟨a2,rfl,.inr h3⟩
 ·obtain rfl:i = e:=by omega
  repeat' first|(refine wo ?_;first|(refine ao ?_;first|refine oa ?_))|(refine gc ?_;first|(refine ci (fun hB=>?_) (fun hB=>?_) <;> try (exfalso;omega)))|refine sq ?_|refine rg ?_|refine xc ?_|refine nl ?_|refine xe ?_
  exact e0 ⟨a,rfl,.inl ha⟩
end Go.Art
namespace Go.Art
open Go Go.Proofs Go.RowKit
section
variable {P:Program} {E:Env P} {n:Sh} {fr:Fr} {A A' D G:List Ch} {m:Nat}
theorem mt1 {Ds:List Nat} {w0:World} {A0:List Ch} {R':Value→List Ch→Prop} {fn:Func} {t:Nat} {v1:Value} (h:R' v1 D) (hr:fn.results = #[.tmp t]:=by rfl) (hv:get fr t = some v1:=by rfl)
  (hm:Tk (dfrl Ds) A A':=by exact tkA) (hf:Fit A' D G:=by exact fitA) (nb:∀ c ∈ D,∀ b,¬ c.bd b:=by (repeat (first | exact nb0 | refine nb1 ?_));first | done | fail) (hn:n = ⟨m,marks Ds,none⟩:=by rfl) :
  TX E n ⟨bodyPostM (FF none) 0 P fn (RetP (PR w0 A0 R')),w0,A0⟩ [] .ret fr A:=by
 subst hn
 exact mG (.inl rfl) h (fun w hw a ha=>res_t ha hr hv) hm hf nb
end
structure CfS where
 i:Nat
 v:Value
 hs:List HV
theorem qs_snoc {qs:List Rat} {i:Nat} (h:i < qs.length):qs.take i ++ [qs.getD i 0] = qs.take (i + 1):=(take_succ' h 0).symm
attribute [local irreducible] Fit pt own ro vw mpc lpt vels rels mow lrc dfr
attribute [local irreducible] lmp lme mit velg relg bnd owl dfrl gow shB grB
abbrev TF4:TypeId:=132
abbrev TF5:TypeId:=134
theorem put_tr' (lv uv:Value) (m:Nat) (hm:m ≤ 4096) (xs:List Value) (q:Rat) (x1 x2:Value) (h1:x1.oneCell' = true) (h2:x2.oneCell' = true):Tr Tryz.prog 98 [lv,uv] [vwf uv 1 (rrow q (x1,x2))] [oww TRt 3 lv m xs] fun u D=>u.oneCell' = true∧D = [oww TRt 3 u (m + 1) (xs ++ rrow q (x1,x2))]:=by
 refine Tr.enter env _ Tryz.func98 (by kernel_rfl) rfl Tryz.ntmps98 rfl (by repeat (first | exact has00 | refine has01 ?_)) fun w0=>?_
 repeat' first|refine apw (e:=TRt) (sz:=3) (N:=m) (M:=1) (xs:=xs) (ys:=rrow q (x1,x2)) (by decide) rfl (one_cons rfl (one_cons h1 (one_cons h2 one_nil))) (fun v' hv'=>?_) (hu:=has_vwf memA)|(refine wo ?_;first|refine oa ?_)|refine sq ?_|refine rg ?_|refine xc ?_|refine nl ?_|refine rt ?_
 exact r1 ⟨hv',rfl⟩
theorem add1_tr (p q:Rat) (v1 v2 x1 x2 uv:Value) (h1:v1.oneCell' = true) (h2:v2.oneCell' = true) (g1:x1.oneCell' = true) (g2:x2.oneCell' = true) (hp:FB p 8589934592) (hq:FB q 8589934592) :
  Tr Tryz.prog 100 [rv p v1 v2,uv] [vw v1 (Us (dg p.num.natAbs)),vw v2 (Us (dg p.den)),vw x1 (Us (dg q.num.natAbs)),vw x2 (Us (dg q.den))] [oww TRt 3 uv 1 (rrow q (x1,x2))] (FQ (q + p)):=by
 have hA:=fun lv=>FAdd2_tr q p lv x1 x2 v1 v2 hq hp
 unfold FQ2 at hA
 unfold FQ
 obtain ⟨s,hs⟩ : ∃ s,s = q + p:=⟨_,rfl⟩
 rw [← hs] at hA ⊢
 refine Tr.enter env _ Tryz.func100 (by kernel_rfl) rfl Tryz.ntmps100 rfl (by repeat (first | exact has00 | refine has01 ?_)) fun w0=>?_
 repeat' first|(refine gca ?_;first|(refine ca (hA _) ?_ (hp:=has1 (has_oww memA) (has1 hasA (has1 hasA (has1 hasA (has1 hasA has0)))));rintro _ _ ⟨n1,n2,rfl,hn1,hn2,rfl⟩))|refine bx fun b=>?_|refine al fun c=>?_|refine lda ?_|refine slws (sz:=3) (xs:=rrow p (v1,v2)) fun g2=>?_|refine apw (e:=TRt) (sz:=3) (N:=1) (M:=1) (xs:=rrow q (x1,x2)) (ys:=rrow p (v1,v2)) (by decide) rfl (one_cons rfl (one_cons h1 (one_cons h2 one_nil))) (fun v' hv'=>?_)|refine srz ?_|(refine wo ?_;first|refine oa ?_)|refine sq ?_|refine rg ?_|refine xc ?_|refine nl ?_|refine rt ?_
 exact rca1 (cs:=[.bool (decide (s.num < 0)),n1,n2]) (vs:=[.bool (decide (s.num < 0)),n1,n2]) (T:=TRt) ⟨n1,n2,rfl,hn1,hn2,rfl⟩
theorem lfold_tr (f:FuncId) (cap:Array Value) (U:Ch) [Lent U] (qs:List Rat) (hS:SeqR Tryz.prog f cap U qs) (hM:qs.length ≤ 4096) :
  Tr Tryz.prog 99 [.func (.func f) #[] cap,nS,.func (.func 98) #[] #[]] [U] [] fun u D=>∃ hs:List HV,u.oneCell' = true∧hs.length = qs.length∧D = [oww TRt 3 u qs.length (rcs qs hs),ofr hs qs]:=by
 have hrun:=@SeqR.run _ _ _ _ _ hS
 clear hS
 refine Tr.enterM env _ Tryz.func99 (by kernel_rfl) rfl Tryz.ntmps99 rfl (by repeat (first | exact has00 | refine has01 ?_)) fun w0=>?_
 repeat' first|refine bx1 fun c4=>?_|(refine wo ?_;first|refine oa ?_)|refine sq ?_|refine rg ?_|refine xc ?_|refine nl ?_|refine bk ?_
 rename_i c3
 refine TC.im (oww_nil TRt 3 _) ?_
 refine TC.im (owl_nil (e:=T64) (g:=wU) _) ?_
 refine TC.range [lpt c4 [.func (.func 98) #[] #[]] TF4,U] [pt c3 [nS] TRs,oww TRt 3 nS 0 [],ofr [] []] (fun l2 rec Dm pend B'=>∃ v hs,B' = [dfr Dm,pt c3 [v] TRs,oww TRt 3 v qs.length (rcs qs hs),ofr hs qs]∧pend = none∧v.oneCell' = true∧hs.length = qs.length) ?_ ?_ (hp:=has1 hasA (has1 (has_mem memA) has0))
 ·intro rec l2 Dm hr
  refine Tr.unb (hrun (α:=CfS) (lpt c4 [.func (.func 98) #[] #[]] TF4) l2 (fun g=>bnd [lrc l2 rec .ready none,dfr Dm,pt c3 [g.v] TRs,oww TRt 3 g.v g.i (rcs (qs.take g.i) g.hs),ofr g.hs (qs.take g.i)]) (fun g i=>g.i = i∧g.v.oneCell' = true∧g.hs.length = i) (fun _=>False) ⟨0,nS,[]⟩ ⟨rfl,rfl,rfl⟩ (fun p=>bnd_nob (by repeat (first | exact nb0 | refine nb1 ?_))) ?_) ?_
  ·rintro ⟨i,v,hs⟩ j x1 x2 hx1 hx2 ⟨hji,hv,hhl⟩ hj
   dsimp only at hji hv hhl ⊢
   subst hji
   have htl:(qs.take i).length = i:=by rw [List.length_take];omega
   have hsn:=qs_snoc hj
   generalize qs.getD i 0 = q at *
   have hrc:rcs (qs.take i) hs ++ rrow q (x1,x2) = rcs (qs.take (i + 1)) (hs ++ [(x1,x2)]):=by rw [← hsn,rcs_app (by omega),rcs_one]
   have hor:=fun (A F:List Ch) (hf:Fit A _ F)=>ofr_snoc (hs:=hs) (qs:=qs.take i) (by omega) q x1 x2 hf
   rw [hsn] at hor
   refine Ty.bndL (K:=[own T64 x1 (Us (dg q.num.natAbs)),own T64 x2 (Us (dg q.den))]) (C:=[lrc l2 rec .ready none,dfr Dm,pt c3 [v] TRs,oww TRt 3 v i (rcs (qs.take i) hs),ofr hs (qs.take i)]) ?_
   refine Ty.intro env hr (by repeat (first | exact has00 | refine has01 ?_)) fun w1=>?_
   clear hrun
   repeat' first|refine al fun c7=>?_|refine xbeg ?_|refine lda (cs:=rrow q (x1,x2)) ?_|refine slws (sz:=3) (xs:=rrow q (x1,x2)) fun g2=>?_|refine srz ?_ (hj:=Nat.le_of_ble_eq_true rfl)|(refine cav (cap:=#[]) (vs:=[v,.slice (some ⟨g2,0,none⟩) 1 1]) (put_tr' v (.slice (some ⟨g2,0,none⟩) 1 1) i (by omega) (rcs (qs.take i) hs) q x1 x2 hx1 hx2) ?_ (hp:=has1 (has_oww memA) has0);rintro v2 _ ⟨hv2,rfl⟩)|(refine wo ?_;first|refine ld ?_|refine ldl ?_|refine sr ?_)|refine rg ?_|refine nl ?_|refine bk ?_|refine xb ?_
   refine TX.im (hor _ _ fitA) ?_
   rw [hrc]
   exact yn ⟨⟨i + 1,v2,hs ++ [(x1,x2)]⟩,rfl,.inl ⟨rfl,rfl,hv2,by simp [hhl]⟩⟩
  ·rintro _ _ ⟨⟨i,v,hs⟩,rfl,⟨g1,g2,g3⟩ | h⟩
   ·dsimp only at g1 g2 g3
    subst g1
    exact ⟨_,rfl,.ready,none,_,rfl,by decide,v,hs,by rw [List.take_length],rfl,g2,g3⟩
   ·exact h.elim
 ·rintro l2 rec Dm pend B' ⟨v,hs,rfl,rfl,g2,g3⟩
  show TX env _ _ _ _ _ _
  refine TX.im (dfrl_nil _) ?_
  refine TX.im (dfrl_push (D:=Dm) (Ds:=[]) fitA) ?_
  repeat' first|(refine wo ?_;first|refine oa ?_|refine ld ?_)|refine sq ?_|refine rg ?_|refine xc ?_|refine nl ?_|refine rt ?_|refine xb ?_
  exact mt1 (Ds:=[Dm]) ⟨hs,g2,g3,rfl⟩
theorem mfold_tr (f:FuncId) (cap:Array Value) (U:Ch) [Lent U] (qs:List Rat) (hS:SeqR Tryz.prog f cap U qs) (s:Rat) (v1 v2:Value) (h1:v1.oneCell' = true) (h2:v2.oneCell' = true) (hF:∀ i,i < qs.length→FB (qs.getD i 0) 8589934592) (hP:∀ i,i ≤ qs.length→FB ((qs.take i).foldl (fun a q=>q + a) s) 8589934592) :
  Tr Tryz.prog 101 [.func (.func f) #[] cap,rv s v1 v2,.func (.func 100) #[] #[]] [U] [own T64 v1 (Us (dg s.num.natAbs)),own T64 v2 (Us (dg s.den))] (FQ (qs.foldl (fun a q=>q + a) s)):=by
 obtain ⟨acc,hacc⟩ : ∃ acc:Nat→Rat,acc = fun i=>(qs.take i).foldl (fun a q=>q + a) s:=⟨_,rfl⟩
 have ha0:acc 0 = s:=by rw [hacc];rfl
 have haN:acc qs.length = qs.foldl (fun a q=>q + a) s:=by rw [hacc];simp
 have hst:∀ i,i < qs.length→qs.getD i 0 + acc i = acc (i + 1):=fun i hi=>by rw [hacc];exact (foldl_take (fun a q=>q + a) s hi 0).symm
 have hPa:∀ i,i ≤ qs.length→FB (acc i) 8589934592:=fun i hi=>by rw [hacc];exact hP i hi
 rw [← haN,← ha0]
 clear hacc ha0 haN hP
 have hrun:=@SeqR.run _ _ _ _ _ hS
 clear hS
 obtain ⟨M,hM⟩ : ∃ M,M = qs.length:=⟨_,rfl⟩
 unfold FQ
 refine Tr.enterM env _ Tryz.func101 (by kernel_rfl) rfl Tryz.ntmps101 rfl (by repeat (first | exact has00 | refine has01 ?_)) fun w0=>?_
 repeat' first|refine bx fun c5=>?_|refine al fun c6=>?_|(refine wo ?_;first|refine oa ?_)|refine sq ?_|refine rg ?_|refine xc ?_|refine nl ?_|refine bk ?_
 rename_i c4
 refine TC.range [lpt c5 [.func (.func 100) #[] #[]] TF5,U] [pt c4 (rrow (acc 0) (v1,v2)) TRt,own T64 v1 (Us (dg (acc 0).num.natAbs)),own T64 v2 (Us (dg (acc 0).den))] (fun l2 rec Dm pend B'=>∃ vn vd,B' = [dfr Dm,pt c4 (rrow (acc M) (vn,vd)) TRt,own T64 vn (Us (dg (acc M).num.natAbs)),own T64 vd (Us (dg (acc M).den))]∧pend = none∧vn.oneCell' = true∧vd.oneCell' = true) ?_ ?_ (hp:=has1 hasA (has1 (has_mem memA) has0))
 ·intro rec l2 Dm hr
  refine Tr.unb (hrun (α:=FoS) (lpt c5 [.func (.func 100) #[] #[]] TF5) l2 (fun g=>bnd [lrc l2 rec .ready none,dfr Dm,pt c4 (rrow (acc g.i) (g.vn,g.vd)) TRt,own T64 g.vn (Us (dg (acc g.i).num.natAbs)),own T64 g.vd (Us (dg (acc g.i).den))]) (fun g i=>g.i = i∧g.vn.oneCell' = true∧g.vd.oneCell' = true) (fun _=>False) ⟨0,v1,v2⟩ ⟨rfl,h1,h2⟩ (fun p=>bnd_nob (by repeat (first | exact nb0 | refine nb1 ?_))) ?_) ?_
  ·rintro ⟨i,vn,vd⟩ j x1 x2 hx1 hx2 ⟨hji,hvn,hvd⟩ hj
   dsimp only at hji hvn hvd
   subst hji
   have hFj:=hF i hj
   have hPj:=hPa i (by omega)
   have hsj:=hst i hj
   have hA:=fun uv=>add1_tr (acc i) (qs.getD i 0) vn vd x1 x2 uv hvn hvd hx1 hx2 hPj hFj
   unfold FQ at hA
   rw [hsj] at hA
   clear hF hPa hst hrun hFj hPj hsj
   obtain ⟨q,hq⟩ : ∃ q,q = qs.getD i 0:=⟨_,rfl⟩
   rw [← hq] at hA ⊢
   refine Ty.bndL (K:=[own T64 x1 (Us (dg q.num.natAbs)),own T64 x2 (Us (dg q.den))]) (C:=[lrc l2 rec .ready none,dfr Dm,pt c4 (rrow (acc i) (vn,vd)) TRt,own T64 vn (Us (dg (acc i).num.natAbs)),own T64 vd (Us (dg (acc i).den))]) ?_
   refine Ty.intro env hr (by repeat (first | exact has00 | refine has01 ?_)) fun w1=>?_
   repeat' first|refine al fun c7=>?_|refine xbeg ?_|refine lda (cs:=rrow (acc i) (vn,vd)) ?_|refine lda (cs:=rrow q (x1,x2)) ?_|refine slws (sz:=3) (xs:=rrow q (x1,x2)) fun g2=>?_|refine srz ?_ (hj:=Nat.le_of_ble_eq_true rfl)|(refine cav (cap:=#[]) (vs:=[rv (acc i) vn vd,.slice (some ⟨g2,0,none⟩) 1 1]) (hA (.slice (some ⟨g2,0,none⟩) 1 1)) ?_;rintro _ _ ⟨n1,n2,rfl,hn1,hn2,rfl⟩)|(refine wo ?_;first|refine ldl ?_)|refine rg ?_|refine nl ?_|refine bk ?_|refine xb ?_
   exact yn ⟨⟨i + 1,n1,n2⟩,rfl,.inl ⟨rfl,rfl,hn1,hn2⟩⟩
  ·rintro _ _ ⟨⟨i,vn,vd⟩,rfl,⟨rfl,g2,g3⟩ | h⟩
   ·exact ⟨_,rfl,.ready,none,_,rfl,by decide,vn,vd,by rw [hM],rfl,g2,g3⟩
   ·exact h.elim
 ·rintro l2 rec Dm pend B' ⟨vn,vd,rfl,rfl,g2,g3⟩
  show TX env _ _ _ _ _ _
  refine TX.im (dfrl_nil _) ?_
  refine TX.im (dfrl_push (D:=Dm) (Ds:=[]) fitA) ?_
  rw [← hM]
  generalize acc M = q at *
  repeat' first|refine lda (cs:=rrow q (vn,vd)) ?_|refine srz ?_ (hj:=Nat.le_of_ble_eq_true rfl)|refine sq ?_|refine rg ?_|refine xc ?_|refine nl ?_|refine rt ?_|refine xb ?_
  exact mca1 (Ds:=[Dm]) (cs:=rrow q (vn,vd)) (vs:=rrow q (vn,vd)) (T:=TRt) ⟨vn,vd,rfl,g2,g3,rfl⟩
end Go.Art
namespace Go.Art
open Go Go.Proofs Go.RowKit
def meanQ (t:List Int) (k e:Nat):Rat:=(curL t k e).foldl (fun a q=>q + a) 0
theorem failQ_nat {t:List Int} {k:Nat} (hz:solE t k = 0) (n:Nat):∃ a,a ≤ oneS t k ^ n∧failQ t k n = (a:Rat) / ((oneS t k ^ n:Nat):Rat):=by
 obtain ⟨a,h1,h2⟩:=part_nat hz n k (Nat.le_refl k)
 exact ⟨a,h1,h2⟩
theorem failQ_up {t:List Int} {k:Nat} (hz:solE t k = 0) {n N:Nat} (h:n ≤ N):∃ a,a ≤ oneS t k ^ N∧failQ t k n = (a:Rat) / ((oneS t k ^ N:Nat):Rat):=by
 obtain ⟨a,h1,h2⟩:=failQ_nat hz n
 have h0:=Nat.pos_of_ne_zero (oneS_pos hz)
 obtain ⟨m,rfl⟩:=Nat.exists_eq_add_of_le h
 refine ⟨a * oneS t k ^ m,by rw [Nat.pow_add];exact Nat.mul_le_mul_right _ h1,?_⟩
 rw [h2,Nat.pow_add]
 have e1:=nz (Nat.ne_of_gt (Nat.pow_pos (n:=n) h0))
 have e2:=nz (Nat.ne_of_gt (Nat.pow_pos (n:=m) h0))
 rw [Rat.natCast_mul,Rat.natCast_mul]
 generalize ((oneS t k ^ n:Nat):Rat) = x at *
 generalize ((oneS t k ^ m:Nat):Rat) = y at *
 grind
theorem mean_nat {t:List Int} {k e:Nat} (hz:solE t k = 0) (he:e ≤ 13):∀ j,j ≤ e→∃ a,a ≤ j * oneS t k ^ 12∧((curL t k e).take j).foldl (fun a q=>q + a) 0 = (a:Rat) / ((oneS t k ^ 12:Nat):Rat)
 | 0,_=>⟨0,Nat.zero_le _,by rw [List.take_zero];show (0:Rat) = _;rw [show ((0:Nat):Rat) = 0 from rfl];grind⟩
 | j + 1,hj=>by
  obtain ⟨a,h1,h2⟩:=mean_nat hz he j (by omega)
  obtain ⟨b,h3,h4⟩:=failQ_up hz (n:=j) (N:=12) (by omega)
  refine ⟨b + a,by rw [Nat.succ_mul];omega,?_⟩
  rw [foldl_take (fun a q=>q + a) 0 (by rw [curL_len];omega) 0,h2,curL_get (by omega),h4,Rat.natCast_add]
  generalize ((oneS t k ^ 12:Nat):Rat) = x
  grind
theorem mean_FB {t:List Int} {k e j:Nat} (hz:solE t k = 0) (hk:k ≤ 40) (hl:t.length ≤ 12) (he:e ≤ 13) (hj:j ≤ e):FB (((curL t k e).take j).foldl (fun a q=>q + a) 0) 8589934592:=by
 obtain ⟨a,ha,hq⟩:=mean_nat hz he j hj
 rw [hq]
 have h1:=oneS_lt hz hk hl
 have h2:oneS t k ^ 12 < 18446744073709551616 ^ 121:=by
  refine Nat.lt_of_le_of_lt (Nat.pow_le_pow_left (Nat.le_of_lt h1) 12) ?_
  rw [← Nat.pow_mul]
  exact Nat.pow_lt_pow_right (by decide) (by decide)
 have h3:a < 18446744073709551616 ^ 122:=by
  rw [show (122:Nat) = 121 + 1 from rfl,Nat.pow_succ]
  have:=Nat.mul_le_mul_right (oneS t k ^ 12) (show j ≤ 13 by omega)
  omega
 exact (FB_nat (B:=122) (Nat.ne_of_gt (Nat.pow_pos (Nat.pos_of_ne_zero (oneS_pos hz)))) h3 (Nat.lt_trans h2 (Nat.pow_lt_pow_right (by decide) (by decide)))).le (by decide)
theorem failQ_FBc {t:List Int} {k n:Nat} (hz:solE t k = 0) (hk:k ≤ 40) (hl:t.length ≤ 12) (hn:n ≤ 12):FB (failQ t k n) 8589934592:=part_FB hz hk hl hn (Nat.le_refl k)
attribute [local irreducible] Fit pt own ro vw mpc lpt vels rels mow lrc dfr
attribute [local irreducible] lmp lme mit velg relg bnd owl dfrl gow shB grB
theorem Curve_err (tv:Value) (t:List Int) (k n:Int) (h:ripE t k n ≠ 0):Tr Tryz.prog 45 [tv,I k,I n] [vw tv (Is t)] [] fun u D=>u = tup2 nS (I (ripE t k n))∧D = []:=by
 have hR:=curefuses_tr tv t k n
 generalize ripE t k n = e at *
 refine Tr.enter env _ Tryz.func45 (by kernel_rfl) rfl Tryz.ntmps45 rfl (by repeat (first | exact has00 | refine has01 ?_)) fun w0=>?_
 repeat' first|(refine gca ?_;first|(refine ca hR ?_;rintro _ _ ⟨rfl,rfl⟩))|(refine wo ?_;first|(refine ao ?_;first|refine oa ?_)|refine oa ?_)|(refine gc ?_;first|(refine cn (fun hB=>?_) (fun hB=>?_) <;> try (exfalso;omega)))|refine sq ?_|refine rg ?_|refine xc ?_|refine nl ?_|refine rt ?_
 exact r2 ⟨rfl,rfl⟩
theorem Curve_ok (tv:Value) (htv:tv.oneCell' = true) (t:List Int) (k n:Nat) (hz:solE t k = 0) (hk:k ≤ 40) (hl:t.length ≤ 12) (hn:n ≤ 12):Tr Tryz.prog 45 [tv,I k,I n] [vw tv (Is t)] []
  fun u D=>∃ v hs,u = tup2 v (I 0)∧v.oneCell' = true∧hs.length = n + 1∧D = [oww TRt 3 v (n + 1) (rcs (curL t k (n + 1)) hs),ofr hs (curL t k (n + 1))]:=by
 have hk1:=(solE_zero hz).1
 have hR:=curefuses_tr tv t k n
 rw [show ripE t k n = 0 by unfold ripE;rw [if_neg (by omega)];exact hz] at hR
 have hP:=points_tr tv htv (k:Int) ((n + 1:Nat):Int)
 have hL:=fun p1 p2 p3=>lfold_tr _ _ _ _ (points1_seq p1 p2 p3 tv htv t k (n + 1) hz hk hl (by omega)) (by rw [curL_len];omega)
 have hcl:=curL_len t k (n + 1)
 have hn1:(n:Int) + 1 = ((n + 1:Nat):Int):=rfl
 clear hz
 generalize curL t k (n + 1) = L at *
 rw [hcl] at hL
 refine Tr.enter env _ Tryz.func45 (by kernel_rfl) rfl Tryz.ntmps45 rfl (by repeat (first | exact has00 | refine has01 ?_)) fun w0=>?_
 repeat' first|(refine gca ?_;first|(refine ca hR ?_;rintro _ _ ⟨rfl,rfl⟩)|(refine ca hP ?_;rintro _ _ ⟨p1,p2,p3,rfl,rfl⟩)|(refine ca (hL p1 p2 p3) ?_ (hp:=has1 (lbd_of (has1 hasA (has1 hasA (has1 hasA (has1 hasA has0))))) has0);rintro v _ ⟨hs,hv,hhs,rfl⟩))|(refine aw (m:=(n:Int) + 1) ?_;rw [hn1])|(refine wo ?_;first|(refine ao ?_;first|refine oa ?_)|refine oa ?_)|(refine gc ?_;first|refine cf ?_)|refine sq ?_|refine rg ?_|refine xc ?_|refine nl ?_|refine sk ?_|refine rt ?_
 exact r2 ⟨v,hs,rfl,hv,hhs,rfl⟩
theorem Mean_ok (tv:Value) (htv:tv.oneCell' = true) (t:List Int) (k n:Nat) (hz:solE t k = 0) (hk:k ≤ 40) (hl:t.length ≤ 12) (hn:n ≤ 12):Tr Tryz.prog 47 [tv,I k,I n] [vw tv (Is t)] [] (FQ2 (meanQ t k n) 0):=by
 have hk1:=(solE_zero hz).1
 have hR:=curefuses_tr tv t k n
 rw [show ripE t k n = 0 by unfold ripE;rw [if_neg (by omega)];exact hz] at hR
 have hP:=points_tr tv htv (k:Int) (n:Int)
 have hL:=fun p1 p2 p3 v1 v2 h1 h2=>mfold_tr _ _ _ _ (points1_seq p1 p2 p3 tv htv t k n hz hk hl (by omega)) 0 v1 v2 h1 h2 (fun i hi=>by rw [curL_len] at hi;rw [curL_get hi];exact failQ_FBc hz hk hl (by omega)) (fun i hi=>by rw [curL_len] at hi;exact mean_FB hz hk hl (by omega) hi)
 have hA0:=FAdd0_tr
 clear hz
 unfold meanQ
 generalize (curL t k n).foldl (fun a q=>q + a) 0 = p at *
 unfold FQ2 at hA0 ⊢
 unfold FQ at hL
 refine Tr.enter env _ Tryz.func47 (by kernel_rfl) rfl Tryz.ntmps47 rfl (by repeat (first | exact has00 | refine has01 ?_)) fun w0=>?_
 repeat' first|(refine gca ?_;first|(refine ca hR ?_;rintro _ _ ⟨rfl,rfl⟩)|(refine ca hA0 ?_;rintro _ _ ⟨a0,b0,rfl,ha0,hb0,rfl⟩))|refine al fun c=>?_|refine srz ?_|(refine wo ?_;first|(refine ao ?_;first|refine oa ?_)|refine oa ?_)|(refine gc ?_;first|refine cf ?_)|refine sq ?_|refine rg ?_|refine xc ?_|refine nl ?_|refine sk ?_
 rename_i c6
 have z0:rrow (0:Rat) (a0,b0) = [.bool (decide ((0:Rat).num < 0)),a0,b0]:=rfl
 refine rs (fun w'=>w'.heap[c]? = some (.cells (rrow (0:Rat) (a0,b0)).toArray TRt (0,0))) ?_ (fun w' hw=>pt_at memA hw)
 refine kra 0 ?_
 refine kra 1 ?_
 refine kra 2 ?_
 refine kr 4 (v:=.agg (rrow (0:Rat) (a0,b0)).toArray) (fun w' h=>R_loadA (E:=env) (vs:=rrow (0:Rat) (a0,b0)) rfl rfl rfl rfl h rfl rfl) ?_
 refine kra 5 ?_
 refine t1 3 ?_
 refine ca hP ?_
 rintro _ _ ⟨p1,p2,p3,rfl,rfl⟩
 refine nl ?_
 refine te (fun w' hw=>pt_at memA hw) ?_
 refine t1 6 ?_
 refine ca (hL p1 p2 p3 a0 b0 ha0 hb0) ?_ (hp:=has1 (lbd_of (has1 hasA (has1 hasA (has1 hasA (has1 hasA has0))))) has0)
 rintro _ _ ⟨m1,m2,rfl,hm1,hm2,rfl⟩
 refine nl ?_
 refine te (fun w' hw=>pt_at memA hw) ?_
 refine t1 7 ?_
 refine srz ?_ (hj:=Nat.le_of_ble_eq_true rfl)
 refine nl ?_
 refine te (fun w' hw=>pt_at memA hw) ?_
 refine t1 8 ?_
 refine oa ?_
 refine nl ?_
 refine te (fun w' hw=>pt_at memA hw) ?_
 refine t0 ?_
 repeat' first|refine xc ?_|refine rt ?_
 exact rca (cs:=[.bool (decide (p.num < 0)),m1,m2]) (vs:=[.bool (decide (p.num < 0)),m1,m2]) (T:=TRt) ⟨m1,m2,rfl,hm1,hm2,rfl⟩
end Go.Art
namespace Go.Art
open Go Go.Proofs Go.RowKit
section
variable {P:Program} {E:Env P} {n:Sh} {fr:Fr} {w:World}
theorem res_cac {fn:Func} {a:Act} (ha:Holds n a fr) {t u v:Nat} {ty1 ty2 ty3 T:TypeId} {d1 dt d3:TypeDesc} {z:Value} {sz by_ b:Nat} {cs vs:List Value} {a1 a3:Addr} {v1 v3:Value} (hr:fn.results = #[.cell t ty1,.cell u ty2,.cell v ty3])
  (ht1:lk E.und ty1 = some d1) (hg1:aggB d1 = false) (h1:get fr t = some (.pointer (some a1))) (hc1:w.cell? a1 = some v1) (ht:lk E.und ty2 = some dt) (hg:aggB dt = true) (hi:lk E.inf ty2 = some (z,sz,by_)) (h2:get fr u = some (ptr b))
  (hb:w.heap[b]? = some (.cells cs.toArray T (0,0))) (hv:cs.take sz = vs) (hl:vs.length = sz) (ht3:lk E.und ty3 = some d3) (hg3:aggB d3 = false) (h3:get fr v = some (.pointer (some a3))) (hc3:w.cell? a3 = some v3):(results fn a.tmps).run P w = .ok (.tuple #[v1,.agg vs.toArray,v3]) w:=by
 obtain ⟨inf,g1,_,g2,_⟩:=E.info hi
 have h5:=run_loadCells_list (P:=P) w ⟨b,0,none⟩ vs (fun m u hm=>by
  rw [Addr.add_lit]
  refine blk_cell hb ?_
  rw [← hv,List.getElem?_take] at hm
  split at hm
  ·simpa using hm
  ·cases hm)
 rw [hl] at h5
 have e1:a.tmps[t]?.getD undef = .pointer (some a1):=by have:=ha.slot t _ h1;simpa using this
 have e2:a.tmps[u]?.getD undef = ptr b:=by have:=ha.slot u _ h2;simpa using this
 have e3:a.tmps[v]?.getD undef = .pointer (some a3):=by have:=ha.slot v _ h3;simpa using this
 simp only [results,hr]
 simp [e1,e2,e3,asAddr,loadVar,aggB_t (w:=w) ht hg,sizeOf,typeInfo,g1,g2,h5,aggB_run (w:=w) ht1 hg1,hc1,aggB_run (w:=w) ht3 hg3,hc3]
variable {A A' D G:List Ch} {m:Nat}
theorem rcac {w0:World} {A0:List Ch} {R':Value→List Ch→Prop} {fn:Func} {t u v nn:Nat} {ty1 ty2 ty3 T T1 T3:TypeId} {d1 dt d3:TypeDesc} {z:Value} {sz by_ b1 b b3:Nat} {c1 cs c3 vs:List Value} {v1 v3:Value} (h:R' (.tuple #[v1,.agg vs.toArray,v3]) D)
  (hr:fn.results = #[.cell t ty1,.cell u ty2,.cell v ty3]:=by rfl) (ht1:lk E.und ty1 = some d1:=by rfl) (hg1:aggB d1 = false:=by rfl) (h1:get fr t = some (ptr b1):=by rfl) (m1:pt b1 c1 T1 ∈ A:=by exact memA) (hc1:c1[0]? = some v1:=by rfl)
  (ht:lk E.und ty2 = some dt:=by rfl) (hg:aggB dt = true:=by rfl) (hi:lk E.inf ty2 = some (z,sz,by_):=by rfl) (h2:get fr u = some (ptr b):=by rfl) (m2:pt b cs T ∈ A:=by exact memA) (hv:cs.take sz = vs:=by rfl) (hl:vs.length = sz:=by rfl)
  (ht3:lk E.und ty3 = some d3:=by rfl) (hg3:aggB d3 = false:=by rfl) (h3:get fr v = some (ptr b3):=by rfl) (m3:pt b3 c3 T3 ∈ A:=by exact memA) (hc3:c3[0]? = some v3:=by rfl) (hf:Fit A D G:=by exact fitA) (nb:∀ c ∈ D,∀ b,¬ c.bd b:=by (repeat (first | exact nb0 | refine nb1 ?_));first | done | fail) :
  TX E ⟨nn,[],none⟩ ⟨bodyPost P fn (RetP (PR w0 A0 R')),w0,A0⟩ [] .ret fr A:=⟨fun w hw=>⟨fun a ha=>
 bodyPost_ret (res_cac (E:=E) ha hr ht1 hg1 h1 (ptcell hw.sat m1 hc1) ht hg hi h2 (pt_at m2 hw.sat) hv hl ht3 hg3 h3 (ptcell hw.sat m3 hc3)) (ha.defers.trans rfl) ⟨_,rfl,PR.mk h hw hf nb⟩⟩⟩
theorem mcac {Ds:List Nat} {w0:World} {A0:List Ch} {R':Value→List Ch→Prop} {fn:Func} {t u v:Nat} {ty1 ty2 ty3 T T1 T3:TypeId} {d1 dt d3:TypeDesc} {z:Value} {sz by_ b1 b b3:Nat} {c1 cs c3 vs:List Value} {v1 v3:Value} (h:R' (.tuple #[v1,.agg vs.toArray,v3]) D)
  (hr:fn.results = #[.cell t ty1,.cell u ty2,.cell v ty3]:=by rfl) (ht1:lk E.und ty1 = some d1:=by rfl) (hg1:aggB d1 = false:=by rfl) (h1:get fr t = some (ptr b1):=by rfl) (hm:Tk (dfrl Ds) A A':=by exact tkA) (m1:pt b1 c1 T1 ∈ A':=by exact memA) (hc1:c1[0]? = some v1:=by rfl)
  (ht:lk E.und ty2 = some dt:=by rfl) (hg:aggB dt = true:=by rfl) (hi:lk E.inf ty2 = some (z,sz,by_):=by rfl) (h2:get fr u = some (ptr b):=by rfl) (m2:pt b cs T ∈ A':=by exact memA) (hv:cs.take sz = vs:=by rfl) (hl:vs.length = sz:=by rfl)
  (ht3:lk E.und ty3 = some d3:=by rfl) (hg3:aggB d3 = false:=by rfl) (h3:get fr v = some (ptr b3):=by rfl) (m3:pt b3 c3 T3 ∈ A':=by exact memA) (hc3:c3[0]? = some v3:=by rfl) (hf:Fit A' D G:=by exact fitA) (nb:∀ c ∈ D,∀ b,¬ c.bd b:=by (repeat (first | exact nb0 | refine nb1 ?_));first | done | fail) (hn:n = ⟨m,marks Ds,none⟩:=by rfl) :
  TX E n ⟨bodyPostM (FF none) 0 P fn (RetP (PR w0 A0 R')),w0,A0⟩ [] .ret fr A:=by
 subst hn
 exact mG (.inl rfl) h (fun w hw a ha=>res_cac (E:=E) ha hr ht1 hg1 h1 (ptcell hw m1 hc1) ht hg hi h2 (pt_at m2 hw) hv hl ht3 hg3 h3 (ptcell hw m3 hc3)) hm hf nb
end
theorem cmp_dg {q r:Rat} {B C:Nat} (hq:FB q B) (hr:FB r C):(dg (q - r).num.natAbs).length ≤ B + C + 1:=by
 rw [Rat.sub_def',mk_abs _ (Nat.mul_ne_zero q.den_nz r.den_nz)]
 refine (dg_len _ _).2 (Nat.lt_of_le_of_lt (Nat.div_le_self _ _) ?_)
 have h1:=(dg_len _ _).1 hq.1
 have h2:=(dg_len _ _).1 hq.2
 have h3:=(dg_len _ _).1 hr.1
 have h4:=(dg_len _ _).1 hr.2
 have h5:=Int.natAbs_sub_le (q.num * r.den) (r.num * q.den)
 rw [Int.natAbs_mul,Int.natAbs_mul,Int.natAbs_natCast,Int.natAbs_natCast] at h5
 have h6:q.num.natAbs * r.den < 18446744073709551616 ^ B * 18446744073709551616 ^ C:=Nat.mul_lt_mul'' h1 h4
 have h7:r.num.natAbs * q.den < 18446744073709551616 ^ C * 18446744073709551616 ^ B:=Nat.mul_lt_mul'' h3 h2
 rw [Nat.mul_comm (18446744073709551616 ^ C)] at h7
 rw [Nat.pow_succ,Nat.pow_add]
 omega
attribute [local irreducible] Fit pt own ro vw mpc lpt vels rels mow lrc dfr
attribute [local irreducible] lmp lme mit velg relg bnd owl dfrl gow shB grB
abbrev NoL (e:Int) (u:Value) (D:List Ch):Prop:=u = tup3 (I 0) rv0 (I e)∧D = []
def leastR (F:Nat→Rat) (q:Rat):Nat→Nat→Option Nat
 | _,0=>none
 | i,m + 1=>if (F i - q).num.sign ≤ 0 then some i else leastR F q (i + 1) m
theorem Least_range (tv:Value) (t:List Int) (k n:Nat) (q:Rat) (e1 e2:Value) (he1:e1.oneCell' = true) (he2:e2.oneCell' = true) (hz:solE t k = 0) (hk:k ≤ 1024) (hn:n ≤ 4096) (hq:FB q 1000) (h:¬ ((q - 1).num.sign < 0∧0 < q.num.sign)) :
  Tr Tryz.prog 43 [tv,I k,rv q e1 e2,I n] [vw tv (Is t),vw e1 (Us (dg q.num.natAbs)),vw e2 (Us (dg q.den))] [] (NoL 3):=by
 have hk1:=(solE_zero hz).1
 have hR:=curefuses_tr tv t k n
 rw [show ripE t k n = 0 by unfold ripE;rw [if_neg (by omega)];exact hz] at hR
 have hK:=FCheck_tr q e1 e2 he1 he2 (hq.le (by decide))
 have hone:=FPair_tr 1 1 (by decide) (by decide) (by decide)
 have hS:=ISign_tr q.num e1 he1 (Nat.le_trans hq.1 (by decide))
 have h1F:FB (mkRat ((1:Nat):Int) 1) 1000:=⟨Nat.le_trans (FB_mk1 (a:=1) (D:=1) (by decide) (by decide) (by decide)).1 (by decide),Nat.le_trans (FB_mk1 (a:=1) (D:=1) (by decide) (by decide) (by decide)).2 (by decide)⟩
 have hC:=fun v1 v2 v3 v4 g1 g2 g3 g4=>FCmp_tr q (mkRat ((1:Nat):Int) 1) v1 v2 v3 v4 g1 g2 g3 g4 (hq.le (by decide)) (h1F.le (by decide)) (Nat.le_trans (cmp_dg hq h1F) (by decide))
 rw [← mk_one 1 (by decide)] at h
 clear hz h1F
 generalize mkRat ((1:Nat):Int) 1 = q1 at *
 unfold FQ2 at hone
 generalize (q - q1).num.sign = s1 at *
 have hsg:q.num.sign ≤ 0 ↔ ¬ 0 < q.num.sign:=by omega
 generalize q.num.sign = s2 at *
 by_cases hs1:0 ≤ s1
 ·refine Tr.enter env _ Tryz.func43 (by kernel_rfl) rfl Tryz.ntmps43 rfl (by repeat (first | exact has00 | refine has01 ?_)) fun w0=>?_
  repeat' first|(refine gca ?_;first|(refine ca hR ?_;rintro _ _ ⟨rfl,rfl⟩)|(refine ca hK ?_;rintro _ _ ⟨rfl,rfl⟩)|(refine ca hone ?_;rintro _ _ ⟨o1,o2,rfl,ho1,ho2,rfl⟩)|(refine ca (hC e1 e2 o1 o2 he1 he2 ho1 ho2) ?_;rintro _ _ ⟨rfl,rfl⟩)|(refine ca hS ?_;rintro _ _ ⟨rfl,rfl⟩))|refine bx fun c0=>?_|refine al fun c=>?_|refine lda (vs:=[.bool (decide (q.num < 0)),e1,e2]) ?_|refine lda ?_|refine bdz ?_|refine srz ?_|(refine wo ?_;first|(refine ao ?_;first|refine oa ?_)|refine oa ?_|refine sr ?_|refine gn ?_|(refine gsi (fun hB=>?_) (fun hB=>?_) <;> try (exfalso;omega)))|(refine gc ?_;first|refine ct ?_|refine cf ?_)|refine sq ?_|refine rg ?_|refine xc ?_|refine nl ?_|refine sk ?_|refine rt ?_
  exact rcac (vs:=[.bool false,nS,nS]) ⟨rfl,rfl⟩
 ·have hs2:s2 ≤ 0:=by omega
  refine Tr.enter env _ Tryz.func43 (by kernel_rfl) rfl Tryz.ntmps43 rfl (by repeat (first | exact has00 | refine has01 ?_)) fun w0=>?_
  repeat' first|(refine gca ?_;first|(refine ca hR ?_;rintro _ _ ⟨rfl,rfl⟩)|(refine ca hK ?_;rintro _ _ ⟨rfl,rfl⟩)|(refine ca hone ?_;rintro _ _ ⟨o1,o2,rfl,ho1,ho2,rfl⟩)|(refine ca (hC e1 e2 o1 o2 he1 he2 ho1 ho2) ?_;rintro _ _ ⟨rfl,rfl⟩)|(refine ca hS ?_;rintro _ _ ⟨rfl,rfl⟩))|refine bx fun c0=>?_|refine al fun c=>?_|refine lda (vs:=[.bool (decide (q.num < 0)),e1,e2]) ?_|refine lda (vs:=[.bool (decide (q.num < 0)),e1]) ?_|refine lda ?_|refine bdz ?_|refine srz ?_|(refine wo ?_;first|(refine ao ?_;first|refine oa ?_)|refine oa ?_|refine sr ?_|refine gy ?_|(refine gsi (fun hB=>?_) (fun hB=>?_) <;> try (exfalso;omega)))|(refine gc ?_;first|refine cf ?_|(refine ci (fun hB=>?_) (fun hB=>?_) <;> try (exfalso;omega)))|refine sq ?_|refine rg ?_|refine xc ?_|refine nl ?_|refine sk ?_|refine rt ?_
  exact rcac (vs:=[.bool false,nS,nS]) ⟨rfl,rfl⟩
end Go.Art
namespace Go.Art
open Go Go.Proofs Go.RowKit
theorem least_some {F:Nat→Rat} {q:Rat} {i:Nat} (h:(F i - q).num.sign ≤ 0):∀ m s,s ≤ i→i < s + m→(∀ j,s ≤ j→j < i→¬ (F j - q).num.sign ≤ 0)→leastR F q s m = some i
 | 0,s,h1,h2,_=>by omega
 | m + 1,s,h1,h2,h3=>by
  unfold leastR
  by_cases e:s = i
  ·subst e;rw [if_pos h]
  ·rw [if_neg (h3 s (Nat.le_refl s) (by omega))]
   exact least_some h m (s + 1) (by omega) (by omega) fun j g1 g2=>h3 j (by omega) g2
theorem least_none {F:Nat→Rat} {q:Rat}:∀ m s,(∀ j,s ≤ j→j < s + m→¬ (F j - q).num.sign ≤ 0)→leastR F q s m = none
 | 0,_,_=>rfl
 | m + 1,s,h=>by
  unfold leastR
  rw [if_neg (h s (Nat.le_refl s) (by omega))]
  exact least_none m (s + 1) fun j g1 g2=>h j (by omega) (by omega)
def leastW (F:Nat→Rat) (q:Rat) (n:Nat):Int × Fr3 × Int:=match leastR F q 0 (n + 1) with
 | some i=>((i:Int),rqf (F i),0)
 | none=>(0,rqn,14)
theorem leastW_some {F:Nat→Rat} {q:Rat} {n i:Nat} (h:leastR F q 0 (n + 1) = some i):leastW F q n = ((i:Int),rqf (F i),0):=by unfold leastW;rw [h]
theorem leastW_none {F:Nat→Rat} {q:Rat} {n:Nat} (h:leastR F q 0 (n + 1) = none):leastW F q n = (0,rqn,14):=by unfold leastW;rw [h]
structure LsG where
 d:Bool
 x:Int
 f:Fr3
 e:Int
 v1:Value
 v2:Value
attribute [local irreducible] Fit pt own ro vw mpc lpt vels rels mow lrc dfr
attribute [local irreducible] lmp lme mit velg relg bnd owl dfrl gow shB grB
abbrev TEr':TypeId:=27
abbrev LW (r:Int × Fr3 × Int) (u:Value) (D:List Ch):Prop:=∃ v1 v2,u = tup3 (I r.1) (.agg #[.bool r.2.1.1,v1,v2]) (I r.2.2)∧v1.oneCell' = true∧v2.oneCell' = true∧D = [own T64 v1 (Us r.2.1.2.1),own T64 v2 (Us r.2.1.2.2)]
set_option maxHeartbeats 1000000 in
theorem Least_ok (tv:Value) (htv:tv.oneCell' = true) (t:List Int) (k n:Nat) (q:Rat) (e1 e2:Value) (he1:e1.oneCell' = true) (he2:e2.oneCell' = true) (hz:solE t k = 0) (hk:k ≤ 40) (hl:t.length ≤ 12) (hn:n ≤ 12) (hq:FB q 1000) (h:(q - 1).num.sign < 0∧0 < q.num.sign) :
  Tr Tryz.prog 43 [tv,I k,rv q e1 e2,I n] [vw tv (Is t),vw e1 (Us (dg q.num.natAbs)),vw e2 (Us (dg q.den))] [] (LW (leastW (failQ t k) q n)):=by
 have hk1:=(solE_zero hz).1
 have hR:=curefuses_tr tv t k n
 rw [show ripE t k n = 0 by unfold ripE;rw [if_neg (by omega)];exact hz] at hR
 have hK:=FCheck_tr q e1 e2 he1 he2 (hq.le (by decide))
 have hone:=FPair_tr 1 1 (by decide) (by decide) (by decide)
 have hS:=ISign_tr q.num e1 he1 (Nat.le_trans hq.1 (by decide))
 have h1F:FB (mkRat ((1:Nat):Int) 1) 1000:=⟨Nat.le_trans (FB_mk1 (a:=1) (D:=1) (by decide) (by decide) (by decide)).1 (by decide),Nat.le_trans (FB_mk1 (a:=1) (D:=1) (by decide) (by decide) (by decide)).2 (by decide)⟩
 have hC:=fun v1 v2 v3 v4 g1 g2 g3 g4=>FCmp_tr q (mkRat ((1:Nat):Int) 1) v1 v2 v3 v4 g1 g2 g3 g4 (hq.le (by decide)) (h1F.le (by decide)) (Nat.le_trans (cmp_dg hq h1F) (by decide))
 rw [← mk_one 1 (by decide)] at h
 have hP:=points_tr tv htv (k:Int) ((n + 1:Nat):Int)
 have hrunL:=fun p1 p2 p3=>@SeqR.run _ _ _ _ _ (points1_seq p1 p2 p3 tv htv t k (n + 1) hz hk hl (by omega))
 have hD:=fun i (hi:i < n + 1) v1 v2 v3 v4 g1 g2 g3 g4=>FCmp_tr (failQ t k i) q v1 v2 v3 v4 g1 g2 g3 g4 (failQ_FBc hz hk hl (by omega)) (hq.le (by decide)) (Nat.le_trans (cmp_dg (failQ_FBc hz hk hl (show i ≤ 12 by omega)) hq) (by decide))
 have hcl:=curL_len t k (n + 1)
 have hget:=fun i (hi:i < n + 1)=>curL_get (t:=t) (k:=k) hi
 have hn1:(n:Int) + 1 = ((n + 1:Nat):Int):=rfl
 clear hz h1F
 generalize mkRat ((1:Nat):Int) 1 = q1 at *
 unfold FQ2 at hone
 generalize (q - q1).num.sign = s1 at *
 generalize q.num.sign = s2 at *
 obtain ⟨hs1,hs2⟩:=h
 generalize curL t k (n + 1) = L at *
 generalize failQ t k = F at *
 refine Tr.enterM env _ Tryz.func43 (by kernel_rfl) rfl Tryz.ntmps43 rfl (by repeat (first | exact has00 | refine has01 ?_)) fun w0=>?_
 repeat' first|(refine gca ?_;first|(refine ca hR ?_;rintro _ _ ⟨rfl,rfl⟩)|(refine ca hK ?_;rintro _ _ ⟨rfl,rfl⟩)|(refine ca hone ?_;rintro _ _ ⟨o1,o2,rfl,ho1,ho2,rfl⟩)|(refine ca (hC e1 e2 o1 o2 he1 he2 ho1 ho2) ?_;rintro _ _ ⟨rfl,rfl⟩)|(refine ca hS ?_;rintro _ _ ⟨rfl,rfl⟩)|(refine ca hP ?_;rintro _ _ ⟨p1,p2,p3,rfl,rfl⟩))|refine bx fun c0=>?_|refine al fun c=>?_|refine lda (vs:=[.bool (decide (q.num < 0)),e1,e2]) ?_|refine lda (vs:=[.bool (decide (q.num < 0)),e1]) ?_|refine lda ?_|refine srz ?_|(refine aw (m:=(n:Int) + 1) ?_;rw [hn1])|(refine wo ?_;first|(refine ao ?_;first|refine oa ?_)|refine oa ?_|refine gy ?_|(refine gsi (fun hB=>?_) (fun hB=>?_) <;> try (exfalso;omega)))|(refine gc ?_;first|refine cf ?_|(refine ci (fun hB=>?_) (fun hB=>?_) <;> try (exfalso;omega)))|refine sq ?_|refine rg ?_|refine xc ?_|refine nl ?_|refine sk ?_|refine bk ?_
 rename_i c8 c9 c10 hs3
 refine TC.im (own_nil T64 _) (TC.im (own_nil T64 _) ?_)
 have hrun:=@hrunL p1 p2 p3
 clear hrunL hP hR hK hone hC hS
 refine TC.range [lbd [lpt c0 [.bool (decide (q.num < 0)),e1,e2] TRt,vw e1 (Us (dg q.num.natAbs)),vw e2 (Us (dg q.den))],lbd [lpt p1 [I ((n + 1:Nat):Int)] TLI,lpt p2 [tv] TLs,lpt p3 [I k] TLI,vw tv (Is t)]] [pt c8 [I 0] TLI,pt c9 [.bool false,nS,nS] TRt,pt c10 [I 0] TEr',own T64 nS (Us []),own T64 nS (Us [])] (fun l2 rec Dm pend B'=>∃ v1 v2,v1.oneCell' = true∧v2.oneCell' = true∧((∃ i,leastR F q 0 (n + 1) = some i∧pend = some .ret∧B' = [dfr Dm,pt c8 [I (i:Nat)] TLI,pt c9 (rrow (F i) (v1,v2)) TRt,pt c10 [I 0] TEr',own T64 v1 (Us (dg (F i).num.natAbs)),own T64 v2 (Us (dg (F i).den))])∨(leastR F q 0 (n + 1) = none∧pend = none∧B' = [dfr Dm,pt c8 [I 0] TLI,pt c9 [.bool false,v1,v2] TRt,pt c10 [I 0] TEr',own T64 v1 (Us []),own T64 v2 (Us [])]))) ?_ ?_ (hp:=has1 (lbd_of (has1 hasA (has1 hasA (has1 hasA has0)))) (has1 (lbd_of (has1 hasA (has1 hasA (has1 hasA (has1 hasA has0))))) has0))
 rotate_left
 ·rintro l2 rec Dm pend B' ⟨v1,v2,hv1,hv2,⟨i,hi,rfl,rfl⟩ | ⟨hi,rfl,rfl⟩⟩
  ·show TC env _ _ _ _ _ _
   refine TC.im (dfrl_nil _) ?_
   refine TC.im (dfrl_push (D:=Dm) (Ds:=[]) fitA) ?_
   rw [leastW_some hi]
   generalize F i = y at *
   repeat' first|refine rt ?_
   exact mcac (Ds:=[Dm]) (vs:=rrow y (v1,v2)) ⟨v1,v2,rfl,hv1,hv2,rfl⟩
  ·show TX env _ _ _ _ _ _
   refine TX.im (dfrl_nil _) ?_
   refine TX.im (dfrl_push (D:=Dm) (Ds:=[]) fitA) ?_
   rw [leastW_none hi]
   repeat' first|refine bdz ?_|refine srz ?_ (hj:=Nat.le_of_ble_eq_true rfl)|(refine wo ?_;first|refine sr ?_)|refine sq ?_|refine rg ?_|refine xc ?_|refine nl ?_|refine rt ?_|refine xb ?_
   refine TX.im (own_nil T64 _) (TX.im (own_nil T64 _) ?_)
   exact mcac (Ds:=[Dm]) (vs:=[.bool false,nS,nS]) ⟨nS,nS,rfl,rfl,rfl,rfl⟩
 intro rec l2 Dm hr
 refine Tr.unb (hrun (α:=LsG) (lbd [lpt c0 [.bool (decide (q.num < 0)),e1,e2] TRt,vw e1 (Us (dg q.num.natAbs)),vw e2 (Us (dg q.den))]) l2 (fun g=>bnd [lrc l2 rec (if g.d then .done else .ready) (if g.d then some .ret else none),dfr Dm,pt c8 [I g.x] TLI,pt c9 [.bool g.f.1,g.v1,g.v2] TRt,pt c10 [I 0] TEr',own T64 g.v1 (Us g.f.2.1),own T64 g.v2 (Us g.f.2.2)]) (fun g j=>g = ⟨false,0,rqn,0,nS,nS⟩∧∀ i,i < j→¬ (F i - q).num.sign ≤ 0) (fun g=>g.d = true∧g.v1.oneCell' = true∧g.v2.oneCell' = true∧∃ i,leastR F q 0 (n + 1) = some i∧g.x = (i:Nat)∧g.f = rqf (F i)) ⟨false,0,rqn,0,nS,nS⟩ ⟨rfl,fun i h=>absurd h (Nat.not_lt_zero i)⟩ (fun p=>bnd_nob (by repeat (first | exact nb0 | refine nb1 ?_))) ?_) ?_
 rotate_left
 ·rintro _ _ ⟨⟨d,x,f,e,v1,v2⟩,rfl,⟨h1,h2⟩ | ⟨h1,h2,h3,i,h4,h5,h6⟩⟩
  ·cases h1
   exact ⟨_,rfl,.ready,none,_,rfl,by decide,nS,nS,rfl,rfl,.inr ⟨least_none _ _ fun j _ g2=>h2 j (by rw [hcl];omega),rfl,rfl⟩⟩
  ·dsimp only at h1 h2 h3 h5 h6
   subst h1 h5 h6
   exact ⟨_,rfl,.done,some .ret,_,rfl,by decide,v1,v2,h2,h3,.inl ⟨i,h4,rfl,rfl⟩⟩
 clear hrun
 rintro g j x1 x2 hx1 hx2 ⟨rfl,hno⟩ hj
 rw [hcl] at hj
 have hDj:=hD j hj x1 x2 e1 e2 hx1 hx2 he1 he2
 have hL:=hget j hj
 rw [hL]
 clear hget hD hL
 refine Ty.bndL (K:=[own T64 x1 (Us (dg (F j).num.natAbs)),own T64 x2 (Us (dg (F j).den))]) (C:=[lrc l2 rec .ready none,dfr Dm,pt c8 [I 0] TLI,pt c9 [.bool false,nS,nS] TRt,pt c10 [I 0] TEr',own T64 nS (Us []),own T64 nS (Us [])]) ?_
 refine Ty.pre (pre:=[lpt c0 [.bool (decide (q.num < 0)),e1,e2] TRt,vw e1 (Us (dg q.num.natAbs)),vw e2 (Us (dg q.den))]) ?_ (has_lbds (C:=[lpt c0 [.bool (decide (q.num < 0)),e1,e2] TRt,vw e1 (Us (dg q.num.natAbs)),vw e2 (Us (dg q.den))]) (List.Mem.head _) _ (by repeat (first | exact has00 | refine has01 ?_)) fun c hc=>hc) (by repeat (first | exact has00 | refine has01 ?_))
 refine Ty.intro env hr (by repeat (first | exact has00 | refine has01 ?_)) fun w1=>?_
 by_cases hle:(F j - q).num.sign ≤ 0
 rotate_left
 ·have hno':∀ i,i < j + 1→¬ (F i - q).num.sign ≤ 0:=fun i hi=>by
   rcases Nat.lt_or_ge i j with g | g
   ·exact hno i g
   ·obtain rfl:i = j:=by omega
    exact hle
  clear hno
  generalize (F j - q).num.sign = sj at *
  generalize F j = y at *
  repeat' first|(refine gca ?_;first|(refine ca hDj ?_;rintro _ _ ⟨rfl,rfl⟩))|refine al fun c17=>?_|refine xbeg ?_|refine lda (cs:=rrow y (x1,x2)) ?_|refine ldla (vs:=rrow q (e1,e2)) ?_|refine srz ?_ (hj:=Nat.le_of_ble_eq_true rfl)|(refine wo ?_;first|(refine ao ?_;first|refine oa ?_)|refine oa ?_)|(refine gc ?_;first|(refine ci (fun hB=>?_) (fun hB=>?_) <;> try (exfalso;omega)))|refine sq ?_|refine rg ?_|refine xc ?_|refine nl ?_|refine sk ?_|refine bk ?_|refine xb ?_
  exact yn (D:=[lrc l2 rec .ready none,dfr Dm,pt c8 [I 0] TLI,pt c9 [.bool false,nS,nS] TRt,pt c10 [I 0] TEr',own T64 nS (Us []),own T64 nS (Us [])]) ⟨⟨false,0,rqn,0,nS,nS⟩,rfl,.inl ⟨rfl,rfl,hno'⟩⟩
 have hsm:leastR F q 0 (n + 1) = some j:=least_some hle (n + 1) 0 (Nat.zero_le _) (by omega) fun i _ hi=>hno i hi
 clear hno
 generalize (F j - q).num.sign = sj at *
 obtain ⟨y,hy⟩ : ∃ y,y = F j:=⟨_,rfl⟩
 rw [← hy] at hDj ⊢
 repeat' first|(refine gca ?_;first|(refine ca hDj ?_;rintro _ _ ⟨rfl,rfl⟩))|refine al fun c17=>?_|refine xbeg ?_|refine lda (cs:=rrow y (x1,x2)) ?_|refine ldla (vs:=rrow q (e1,e2)) ?_|refine srz ?_ (hj:=Nat.le_of_ble_eq_true rfl)|(refine wo ?_;first|(refine ao ?_;first|refine oa ?_)|refine oa ?_)|(refine gc ?_;first|(refine ci (fun hB=>?_) (fun hB=>?_) <;> try (exfalso;omega)))|refine sq ?_|refine rg ?_|refine xc ?_|refine nl ?_|refine bk ?_
 refine rs (fun _=>True) ?_ (fun _ _=>trivial)
 refine kra 0 ?_
 refine t2 1 2 ?_ ?_
 ·refine lda (vs:=rrow y (x1,x2)) ?_
  refine nl ?_
  refine te (fun _ _=>trivial) ?_
  refine t1 2 ?_
  refine sr ?_
  refine nl ?_
  refine te (fun _ _=>trivial) ?_
  refine t1 3 ?_
  refine srz ?_ (hj:=Nat.le_of_ble_eq_true rfl)
  refine nl ?_
  refine te (fun _ _=>trivial) ?_
  refine t1 4 ?_
  refine sr ?_
  refine nl ?_
  refine te (fun _ _=>trivial) ?_
  refine t0 ?_
  repeat' first|refine xc ?_|refine rt ?_
  exact yr (D:=[lrc l2 rec .done (some .ret),dfr Dm,pt c8 [I j] TLI,pt c9 (rrow y (x1,x2)) TRt,pt c10 [I 0] TEr',own T64 x1 (Us (dg y.num.natAbs)),own T64 x2 (Us (dg y.den))]) ⟨⟨true,j,rqf y,0,x1,x2⟩,rfl,.inr ⟨rfl,rfl,hx1,hx2,j,hsm,rfl,by rw [hy]⟩⟩
 ·refine sr ?_
  refine nl ?_
  refine te (fun _ _=>trivial) ?_
  refine t1 1 ?_
  refine lda (vs:=rrow y (x1,x2)) ?_
  refine nl ?_
  refine te (fun _ _=>trivial) ?_
  refine t1 3 ?_
  refine srz ?_ (hj:=Nat.le_of_ble_eq_true rfl)
  refine nl ?_
  refine te (fun _ _=>trivial) ?_
  refine t1 4 ?_
  refine sr ?_
  refine nl ?_
  refine te (fun _ _=>trivial) ?_
  refine t0 ?_
  repeat' first|refine xc ?_|refine rt ?_
  exact yr (D:=[lrc l2 rec .done (some .ret),dfr Dm,pt c8 [I j] TLI,pt c9 (rrow y (x1,x2)) TRt,pt c10 [I 0] TEr',own T64 x1 (Us (dg y.num.natAbs)),own T64 x2 (Us (dg y.den))]) ⟨⟨true,j,rqf y,0,x1,x2⟩,rfl,.inr ⟨rfl,rfl,hx1,hx2,j,hsm,rfl,by rw [hy]⟩⟩
end Go.Art
namespace Go.Art
open Go Go.Proofs Go.RowKit
theorem curL_one:curL [1,1] 2 (2 + 1) = [mkRat ((1:Nat):Int) 1,mkRat ((1:Nat):Int) 1,mkRat ((3:Nat):Int) 8]:=by decide +kernel
theorem least_one:leastW (failQ [1,1] 2) (mkRat ((1:Nat):Int) 2) 9 = (((2:Nat):Int),rqf (mkRat ((3:Nat):Int) 8),0):=by decide +kernel
theorem half_at:(mkRat ((1:Nat):Int) 2 - 1).num.sign < 0∧0 < (mkRat ((1:Nat):Int) 2).num.sign:=by decide +kernel
theorem solE_c1:solE [1,1] ((2:Nat):Int) = 0:=by decide
attribute [local irreducible] Fit pt own ro vw mpc lpt vels rels mow lrc dfr
attribute [local irreducible] lmp lme mit velg relg bnd owl dfrl massW setsW massD smlT solE failQ stL curL leastW
theorem is26_tr (t:Fr3) (n1 d1:Value) (x y:Nat) (hx:x < 9223372036854775808) (hy:y < 9223372036854775808) (hy0:y ≠ 0) (h:t = rqf (mkRat x y)):Tr Tryz.prog 49 [.agg #[.bool t.1,n1,d1],I x,I y] [vw n1 (Us t.2.1),vw d1 (Us t.2.2)] []
  fun v D=>v = .bool true∧D = []:=by
 subst h
 have hP:=FPair_tr x y hx hy hy0
 unfold FQ2 at hP
 generalize mkRat (x:Int) y = q at *
 refine Tr.enter env _ Tryz.func49 (by kernel_rfl) rfl Tryz.ntmps49 rfl (by repeat (first | exact has00 | refine has01 ?_)) fun w0=>?_
 repeat' first|(refine gca ?_;first|(refine ca hP ?_;rintro _ _ ⟨vn,vd,rfl,hvn,hvd,rfl⟩)|(refine ca (SameRatioT_tr (rqf q) n1 d1 vn vd) ?_;rintro _ _ ⟨rfl,rfl⟩))|refine bx fun b1=>?_|refine al fun b2=>?_|refine lda ?_|refine srz ?_|(refine wo ?_;first|(refine ao ?_;first|refine oa ?_)|refine oa ?_|refine gy ?_)|refine sq ?_|refine rg ?_|refine xc ?_|refine nl ?_|refine rt ?_
 exact r1 ⟨rfl,rfl⟩
theorem half26_tr:Tr Tryz.prog 51 [] [] [] (FQ (mkRat ((1:Nat):Int) 2)):=by
 have hP:=FPair_tr 1 2 (by decide) (by decide) (by decide)
 unfold FQ2 at hP
 unfold FQ
 generalize mkRat ((1:Nat):Int) 2 = s at *
 refine Tr.enter env _ Tryz.func51 (by kernel_rfl) rfl Tryz.ntmps51 rfl (by repeat (first | exact has00 | refine has01 ?_)) fun w0=>?_
 repeat' first|(refine gca ?_;first|(refine ca hP ?_;rintro _ _ ⟨n1,n2,rfl,hn1,hn2,rfl⟩))|refine al fun b2=>?_|refine lda ?_|refine srz ?_|(refine wo ?_;first|refine oa ?_)|refine sq ?_|refine rg ?_|refine xc ?_|refine nl ?_|refine rt ?_
 exact rca1 (cs:=[.bool (decide (s.num < 0)),n1,n2]) (vs:=[.bool (decide (s.num < 0)),n1,n2]) (T:=TRt) ⟨n1,n2,rfl,hn1,hn2,rfl⟩
theorem leasts26_tr (tv:Value) (htv:tv.oneCell' = true) (t:List Int) (k n w x y:Nat) (q:Rat) (e1 e2:Value) (he1:e1.oneCell' = true) (he2:e2.oneCell' = true) (hz:solE t k = 0) (hk:k ≤ 40) (hl:t.length ≤ 12) (hn:n ≤ 12) (hq:FB q 1000) (h:(q - 1).num.sign < 0∧0 < q.num.sign)
  (hw:leastW (failQ t k) q n = ((w:Int),rqf (mkRat (x:Int) y),0)) (hx:x < 9223372036854775808) (hy:y < 9223372036854775808) (hy0:y ≠ 0) :
  Tr Tryz.prog 50 [tv,I k,rv q e1 e2,I n,I w,I x,I y,I 0] [vw tv (Is t),vw e1 (Us (dg q.num.natAbs)),vw e2 (Us (dg q.den))] [] fun v D=>v = .bool true∧D = []:=by
 have hL:=Least_ok tv htv t k n q e1 e2 he1 he2 hz hk hl hn hq h
 have hI:=fun a b=>is26_tr (rqf (mkRat (x:Int) y)) a b x y hx hy hy0 rfl
 rw [hw] at hL
 clear hw h
 generalize mkRat (x:Int) y = p at *
 unfold LW at hL
 dsimp only at hL
 refine Tr.enter env _ Tryz.func50 (by kernel_rfl) rfl Tryz.ntmps50 rfl (by repeat (first | exact has00 | refine has01 ?_)) fun w0=>?_
 repeat' first|(refine gca ?_;first|(refine ca hL ?_;rintro _ _ ⟨n1,n2,rfl,hn1,hn2,rfl⟩)|(refine ca (hI n1 n2) ?_;rintro _ _ ⟨rfl,rfl⟩))|refine bx fun b1=>?_|refine al fun b2=>?_|refine lda (vs:=[.bool (decide (q.num < 0)),e1,e2]) ?_|refine lda ?_|refine srz ?_|(refine wo ?_;first|(refine ao ?_;first|refine oa ?_)|refine oa ?_|refine gy ?_|(refine gsi (fun hB=>?_) (fun hB=>?_) <;> try (exfalso;omega)))|(refine gc ?_;first|refine cf ?_)|refine sq ?_|refine rg ?_|refine xc ?_|refine nl ?_|refine sk ?_|refine rt ?_
 all_goals exact r1 ⟨rfl,rfl⟩
theorem cvA_tr (s:Value) (hs:s.oneCell' = true):Tr Tryz.prog 45 [s,I ((2:Nat):Int),I ((2:Nat):Int)] [vw s (Is [1,1])] [] fun w D=>∃ v h0 h1 h2,w = tup2 v (I 0)∧D = [oww TRt 3 v 3 (rcs [mkRat ((1:Nat):Int) 1,mkRat ((1:Nat):Int) 1,mkRat ((3:Nat):Int) 8] [h0,h1,h2]),ofr [h0,h1,h2] [mkRat ((1:Nat):Int) 1,mkRat ((1:Nat):Int) 1,mkRat ((3:Nat):Int) 8]]:=
 (Curve_ok s hs [1,1] 2 2 solE_c1 (by decide) (by decide) (by decide)).mono fun w D h=>by
  obtain ⟨v,hs,rfl,hv,hl,rfl⟩:=h
  obtain ⟨h0,h1,h2,rfl⟩:=len3 hl
  exact ⟨v,h0,h1,h2,rfl,by rw [curL_one]⟩
theorem awake26_tr:Tr Tryz.prog 41 [] [] [] fun v D=>v = .bool true∧D = []:=by
 have hA:=cvA_tr
 have hI1:=fun a b=>is26_tr (rqf (mkRat ((1:Nat):Int) 1)) a b 1 1 (by decide) (by decide) (by decide) rfl
 have hI3:=fun a b=>is26_tr (rqf (mkRat ((3:Nat):Int) 8)) a b 3 8 (by decide) (by decide) (by decide) rfl
 have hH:=half26_tr
 have hL:=fun s a b hs ha hb=>leasts26_tr s hs [1,1] 2 9 2 3 8 (mkRat ((1:Nat):Int) 2) a b ha hb solE_c1 (by decide) (by decide) (by decide) (FB.le (B:=1) (FB_mk1 (a:=1) (D:=2) (by decide) (by decide) (by decide)) (by decide)) half_at least_one (by decide) (by decide) (by decide)
 unfold FQ at hH
 generalize mkRat ((1:Nat):Int) 1 = q1 at *
 generalize mkRat ((3:Nat):Int) 8 = q3 at *
 generalize mkRat ((1:Nat):Int) 2 = q2 at *
 refine Tr.enter env _ Tryz.func41 (by kernel_rfl) rfl Tryz.ntmps41 rfl (by repeat (first | exact has00 | refine has01 ?_)) fun w0=>?_
 repeat' first|(refine gca ?_;first|(refine ca (hA v hv) ?_;rintro _ _ ⟨sv,a0,a1,a2,rfl,rfl⟩))|refine slz fun v hv=>?_|(refine wo ?_;first|(refine ao ?_;first|refine oa ?_)|refine oa ?_|refine gy ?_)|refine sq ?_|refine rg ?_|refine xc ?_|refine nl ?_
 have fa:=fun (F:List Ch) (h:ofr [a0,a1,a2] [q1,q1,q3] ∈ F) (i:Nat) (hi:i < 3)=>has_fr (has_ofr (hs:=[a0,a1,a2]) (qs:=[q1,q1,q3]) rfl h) rfl (i:=i) hi
 repeat' first|(refine gca ?_;first|(refine ca (hI1 a0.1 a0.2) ?_ (hp:=has1 (fa _ memA 0 (by decide)).1 (has1 (fa _ memA 0 (by decide)).2 has0));rintro _ _ ⟨rfl,rfl⟩)|(refine ca (hI1 a1.1 a1.2) ?_ (hp:=has1 (fa _ memA 1 (by decide)).1 (has1 (fa _ memA 1 (by decide)).2 has0));rintro _ _ ⟨rfl,rfl⟩)|(refine ca (hI3 a2.1 a2.2) ?_ (hp:=has1 (fa _ memA 2 (by decide)).1 (has1 (fa _ memA 2 (by decide)).2 has0));rintro _ _ ⟨rfl,rfl⟩)|(refine ca hH ?_;rintro _ _ ⟨h1,h2,rfl,hh1,hh2,rfl⟩)|(refine ca (hL v2 h1 h2 hv2 hh1 hh2) ?_;rintro _ _ ⟨rfl,rfl⟩))|refine lnw (v:=sv) ?_ (hm:=has_oww memA)|refine ixws (v:=sv) ?_ (hm:=has_oww memA)|refine ldaw (v:=sv) (m:=0) (sz:=3) (vs:=rrow q1 a0) rfl ?_ (hm:=has_oww memA)|refine ldaw (v:=sv) (m:=3) (sz:=3) (vs:=rrow q1 a1) rfl ?_ (hm:=has_oww memA)|refine ldaw (v:=sv) (m:=6) (sz:=3) (vs:=rrow q3 a2) rfl ?_ (hm:=has_oww memA)|refine slz fun v2 hv2=>?_|(refine wo ?_;first|(refine ao ?_;first|refine oa ?_)|refine oa ?_|refine gy ?_)|refine xc ?_|refine nl ?_|refine rt ?_
 exact r1 ⟨rfl,rfl⟩
end Go.Art
namespace Go.Art
open Go Go.Proofs Go.RowKit
theorem least_two:leastW (failQ [1] 2) (mkRat ((1:Nat):Int) 2) 9 = (((2:Nat):Int),rqf (mkRat ((1:Nat):Int) 2),0):=by decide +kernel
theorem least_three:leastW (failQ [1] 2) (mkRat ((1:Nat):Int) 2) 1 = (0,rqn,14):=by decide +kernel
theorem one_at:¬ ((mkRat ((1:Nat):Int) 1 - 1).num.sign < 0∧0 < (mkRat ((1:Nat):Int) 1).num.sign):=by decide +kernel
theorem nought_at:¬ ((mkRat ((0:Nat):Int) 1 - 1).num.sign < 0∧0 < (mkRat ((0:Nat):Int) 1).num.sign):=by decide +kernel
theorem curL_two:curL [1] 2 (2 + 1) = [mkRat ((1:Nat):Int) 1,mkRat ((1:Nat):Int) 1,mkRat ((1:Nat):Int) 2]:=by decide +kernel
theorem curL_three:curL [1] 1 (2 + 1) = [mkRat ((1:Nat):Int) 1,mkRat ((0:Nat):Int) 1,mkRat ((0:Nat):Int) 1]:=by decide +kernel
theorem mean_one:meanQ [1] 1 3 = mkRat ((1:Nat):Int) 1:=by decide +kernel
theorem mean_two:meanQ [1] 2 2 = mkRat ((2:Nat):Int) 1:=by decide +kernel
theorem solE_c2:solE [1] ((2:Nat):Int) = 0:=by decide
theorem solE_c3:solE [1] ((1:Nat):Int) = 0:=by decide
theorem ripE_c1:ripE [1] 0 1 = 3:=by decide
theorem ripE_c2:ripE [] 1 1 = 13:=by decide
attribute [local irreducible] Fit pt own ro vw mpc lpt vels rels mow lrc dfr
attribute [local irreducible] lmp lme mit velg relg bnd owl dfrl massW setsW massD smlT solE failQ stL curL leastW meanQ
theorem leasts26_none (tv:Value) (htv:tv.oneCell' = true) (t:List Int) (k n:Nat) (q:Rat) (e1 e2:Value) (he1:e1.oneCell' = true) (he2:e2.oneCell' = true) (hz:solE t k = 0) (hk:k ≤ 40) (hl:t.length ≤ 12) (hn:n ≤ 12) (hq:FB q 1000) (h:(q - 1).num.sign < 0∧0 < q.num.sign)
  (hw:leastW (failQ t k) q n = (0,rqn,14)) :
  Tr Tryz.prog 50 [tv,I k,rv q e1 e2,I n,I 0,I 0,I 1,I 14] [vw tv (Is t),vw e1 (Us (dg q.num.natAbs)),vw e2 (Us (dg q.den))] [] fun v D=>v = .bool true∧D = []:=by
 have hL:=Least_ok tv htv t k n q e1 e2 he1 he2 hz hk hl hn hq h
 rw [hw] at hL
 clear hw h
 unfold LW at hL
 dsimp only at hL
 refine Tr.enter env _ Tryz.func50 (by kernel_rfl) rfl Tryz.ntmps50 rfl (by repeat (first | exact has00 | refine has01 ?_)) fun w0=>?_
 repeat' first|(refine gca ?_;first|(refine ca hL ?_;rintro _ _ ⟨n1,n2,rfl,hn1,hn2,rfl⟩))|refine bx fun b1=>?_|refine al fun b2=>?_|refine lda (vs:=[.bool (decide (q.num < 0)),e1,e2]) ?_|refine lda ?_|refine srz ?_|(refine wo ?_;first|(refine ao ?_;first|refine oa ?_)|refine oa ?_|refine gy ?_)|(refine gc ?_;first|refine ct ?_)|refine sq ?_|refine rg ?_|refine xc ?_|refine nl ?_|refine rt ?_
 all_goals exact r1 ⟨rfl,rfl⟩
theorem leasts26_range (tv:Value) (t:List Int) (k n:Nat) (q:Rat) (e1 e2:Value) (he1:e1.oneCell' = true) (he2:e2.oneCell' = true) (hz:solE t k = 0) (hk:k ≤ 40) (hn:n ≤ 12) (hq:FB q 1000) (h:¬ ((q - 1).num.sign < 0∧0 < q.num.sign)) :
  Tr Tryz.prog 50 [tv,I k,rv q e1 e2,I n,I 0,I 0,I 1,I 3] [vw tv (Is t),vw e1 (Us (dg q.num.natAbs)),vw e2 (Us (dg q.den))] [] fun v D=>v = .bool true∧D = []:=by
 have hL:=Least_range tv t k n q e1 e2 he1 he2 hz (by omega) (by omega) hq h
 clear h
 refine Tr.enter env _ Tryz.func50 (by kernel_rfl) rfl Tryz.ntmps50 rfl (by repeat (first | exact has00 | refine has01 ?_)) fun w0=>?_
 repeat' first|(refine gca ?_;first|(refine ca hL ?_;rintro _ _ ⟨rfl,rfl⟩))|refine bx fun b1=>?_|refine al fun b2=>?_|refine lda (vs:=[.bool (decide (q.num < 0)),e1,e2]) ?_|refine lda ?_|refine srz ?_|(refine wo ?_;first|(refine ao ?_;first|refine oa ?_)|refine oa ?_|refine gy ?_)|(refine gc ?_;first|refine ct ?_)|refine sq ?_|refine rg ?_|refine xc ?_|refine nl ?_|refine rt ?_
 all_goals exact r1 ⟨rfl,rfl⟩
theorem cvB_tr (s:Value) (hs:s.oneCell' = true):Tr Tryz.prog 45 [s,I ((2:Nat):Int),I ((2:Nat):Int)] [vw s (Is [1])] [] fun w D=>∃ v h0 h1 h2,w = tup2 v (I 0)∧D = [oww TRt 3 v 3 (rcs [mkRat ((1:Nat):Int) 1,mkRat ((1:Nat):Int) 1,mkRat ((1:Nat):Int) 2] [h0,h1,h2]),ofr [h0,h1,h2] [mkRat ((1:Nat):Int) 1,mkRat ((1:Nat):Int) 1,mkRat ((1:Nat):Int) 2]]:=
 (Curve_ok s hs [1] 2 2 solE_c2 (by decide) (by decide) (by decide)).mono fun w D h=>by
  obtain ⟨v,hs,rfl,hv,hl,rfl⟩:=h
  obtain ⟨h0,h1,h2,rfl⟩:=len3 hl
  exact ⟨v,h0,h1,h2,rfl,by rw [curL_two]⟩
theorem cvC_tr (s:Value) (hs:s.oneCell' = true):Tr Tryz.prog 45 [s,I ((1:Nat):Int),I ((2:Nat):Int)] [vw s (Is [1])] [] fun w D=>∃ v h0 h1 h2,w = tup2 v (I 0)∧D = [oww TRt 3 v 3 (rcs [mkRat ((1:Nat):Int) 1,mkRat ((0:Nat):Int) 1,mkRat ((0:Nat):Int) 1] [h0,h1,h2]),ofr [h0,h1,h2] [mkRat ((1:Nat):Int) 1,mkRat ((0:Nat):Int) 1,mkRat ((0:Nat):Int) 1]]:=
 (Curve_ok s hs [1] 1 2 solE_c3 (by decide) (by decide) (by decide)).mono fun w D h=>by
  obtain ⟨v,hs,rfl,hv,hl,rfl⟩:=h
  obtain ⟨h0,h1,h2,rfl⟩:=len3 hl
  exact ⟨v,h0,h1,h2,rfl,by rw [curL_three]⟩
set_option maxHeartbeats 2000000 in
theorem CurveKnown_tr:Tr Tryz.prog 11 [] [] [] fun v D=>v = .bool true∧D = []:=by
 have hB:=cvB_tr
 have hC:=cvC_tr
 have hM1:=fun s hs=>Mean_ok s hs [1] 1 3 solE_c3 (by decide) (by decide) (by decide)
 have hM2:=fun s hs=>Mean_ok s hs [1] 2 2 solE_c2 (by decide) (by decide) (by decide)
 rw [mean_one] at hM1
 rw [mean_two] at hM2
 unfold FQ2 at hM1 hM2
 have hE1:=fun s=>Curve_err s [1] 0 1 (by rw [ripE_c1];decide)
 have hE2:=Curve_err nS [] 1 1 (by rw [ripE_c2];decide)
 rw [ripE_c1] at hE1
 rw [ripE_c2] at hE2
 have hP11:=FPair_tr 1 1 (by decide) (by decide) (by decide)
 have hP01:=FPair_tr 0 1 (by decide) (by decide) (by decide)
 unfold FQ2 at hP11 hP01
 have hH:=half26_tr
 unfold FQ at hH
 have f1:∀ x y:Nat,x < 3→y < 3→y ≠ 0→FB (mkRat (x:Int) y) 1000:=fun x y a b c=>FB.le (B:=1) (FB_mk1 (a:=x) (D:=y) c (by omega) (by omega)) (by decide)
 have hL1:=fun s a b hs ha hb=>leasts26_tr s hs [1] 2 9 2 1 2 (mkRat ((1:Nat):Int) 2) a b ha hb solE_c2 (by decide) (by decide) (by decide) (f1 1 2 (by decide) (by decide) (by decide)) half_at least_two (by decide) (by decide) (by decide)
 have hL2:=fun s a b hs ha hb=>leasts26_none s hs [1] 2 1 (mkRat ((1:Nat):Int) 2) a b ha hb solE_c2 (by decide) (by decide) (by decide) (f1 1 2 (by decide) (by decide) (by decide)) half_at least_three
 have hL3:=fun s a b ha hb=>leasts26_range s [1] 2 9 (mkRat ((1:Nat):Int) 1) a b ha hb solE_c2 (by decide) (by decide) (f1 1 1 (by decide) (by decide) (by decide)) one_at
 have hL4:=fun s a b ha hb=>leasts26_range s [1] 2 9 (mkRat ((0:Nat):Int) 1) a b ha hb solE_c2 (by decide) (by decide) (f1 0 1 (by decide) (by decide) (by decide)) nought_at
 clear f1
 have hI11:=fun a b=>is26_tr (rqf (mkRat ((1:Nat):Int) 1)) a b 1 1 (by decide) (by decide) (by decide) rfl
 have hI01:=fun a b=>is26_tr (rqf (mkRat ((0:Nat):Int) 1)) a b 0 1 (by decide) (by decide) (by decide) rfl
 have hI12:=fun a b=>is26_tr (rqf (mkRat ((1:Nat):Int) 2)) a b 1 2 (by decide) (by decide) (by decide) rfl
 have hI21:=fun a b=>is26_tr (rqf (mkRat ((2:Nat):Int) 1)) a b 2 1 (by decide) (by decide) (by decide) rfl
 generalize mkRat ((1:Nat):Int) 1 = q11 at *
 generalize mkRat ((0:Nat):Int) 1 = q01 at *
 generalize mkRat ((1:Nat):Int) 2 = q12 at *
 generalize mkRat ((2:Nat):Int) 1 = q21 at *
 refine Tr.enter env _ Tryz.func11 (by kernel_rfl) rfl Tryz.ntmps11 rfl (by repeat (first | exact has00 | refine has01 ?_)) fun w0=>?_
 repeat' first|refine slz fun v hv=>?_|(refine wo ?_;first|refine oa ?_)|refine sq ?_|refine rg ?_|refine xc ?_|refine nl ?_
 rename_i vo hvo
 repeat' first|(refine gca ?_;first|(refine ca (hB v hv) ?_;rintro _ _ ⟨bv,b0,b1,b2,rfl,rfl⟩)|(refine ca (hC vo hvo) ?_;rintro _ _ ⟨cv,c0,c1,c2,rfl,rfl⟩)|(refine ca (hM1 vo hvo) ?_;rintro _ _ ⟨m1,m2,rfl,hm1,hm2,rfl⟩)|(refine ca (hM2 v hv) ?_;rintro _ _ ⟨m3,m4,rfl,hm3,hm4,rfl⟩))|refine al fun c=>?_|refine srz ?_|(refine wo ?_;first|(refine ao ?_;first|refine oa ?_)|refine oa ?_|refine gy ?_)|refine sq ?_|refine rg ?_|refine xc ?_|refine nl ?_
 have fb:=fun (F:List Ch) (h:ofr [b0,b1,b2] [q11,q11,q12] ∈ F) (i:Nat) (hi:i < 3)=>has_fr (has_ofr (hs:=[b0,b1,b2]) (qs:=[q11,q11,q12]) rfl h) rfl (i:=i) hi
 have fc:=fun (F:List Ch) (h:ofr [c0,c1,c2] [q11,q01,q01] ∈ F) (i:Nat) (hi:i < 3)=>has_fr (has_ofr (hs:=[c0,c1,c2]) (qs:=[q11,q01,q01]) rfl h) rfl (i:=i) hi
 repeat' first|(refine gca ?_;first|(refine ca (hI12 b2.1 b2.2) ?_ (hp:=has1 (fb _ memA 2 (by decide)).1 (has1 (fb _ memA 2 (by decide)).2 has0));rintro _ _ ⟨rfl,rfl⟩)|(refine ca (hI11 c0.1 c0.2) ?_ (hp:=has1 (fc _ memA 0 (by decide)).1 (has1 (fc _ memA 0 (by decide)).2 has0));rintro _ _ ⟨rfl,rfl⟩)|(refine ca (hI01 c1.1 c1.2) ?_ (hp:=has1 (fc _ memA 1 (by decide)).1 (has1 (fc _ memA 1 (by decide)).2 has0));rintro _ _ ⟨rfl,rfl⟩)|(refine ca (hI01 c2.1 c2.2) ?_ (hp:=has1 (fc _ memA 2 (by decide)).1 (has1 (fc _ memA 2 (by decide)).2 has0));rintro _ _ ⟨rfl,rfl⟩)|(refine ca (hI11 m1 m2) ?_;rintro _ _ ⟨rfl,rfl⟩)|(refine ca (hI21 m3 m4) ?_;rintro _ _ ⟨rfl,rfl⟩))|refine lnw (v:=bv) ?_ (hm:=has_oww memA)|refine ixws (v:=bv) ?_ (hm:=has_oww memA)|refine lnw (v:=cv) ?_ (hm:=has_oww memA)|refine ixws (v:=cv) ?_ (hm:=has_oww memA)|refine ldaw (v:=bv) (m:=6) (sz:=3) (vs:=rrow q12 b2) rfl ?_ (hm:=has_oww memA)|refine ldaw (v:=cv) (m:=0) (sz:=3) (vs:=rrow q11 c0) rfl ?_ (hm:=has_oww memA)|refine ldaw (v:=cv) (m:=3) (sz:=3) (vs:=rrow q01 c1) rfl ?_ (hm:=has_oww memA)|refine ldaw (v:=cv) (m:=6) (sz:=3) (vs:=rrow q01 c2) rfl ?_ (hm:=has_oww memA)|refine lda (vs:=rrow q11 (m1,m2)) ?_|refine lda (vs:=rrow q21 (m3,m4)) ?_|(refine wo ?_;first|(refine ao ?_;first|refine oa ?_)|refine oa ?_|refine gy ?_)|(refine gc ?_;first|refine cf ?_)|refine sq ?_|refine rg ?_|refine xc ?_|refine nl ?_|refine sk ?_
 refine TO.im (own_nil TLI _) ?_
 repeat' first|(refine gca ?_;first|(refine ca hP11 ?_;rintro _ _ ⟨p1,p2,rfl,hp1,hp2,rfl⟩)|(refine ca hP01 ?_;rintro _ _ ⟨p3,p4,rfl,hp3,hp4,rfl⟩)|(refine ca (hE1 vo) ?_;rintro _ _ ⟨rfl,rfl⟩)|(refine ca hE2 ?_;rintro _ _ ⟨rfl,rfl⟩)|(refine ca awake26_tr ?_;rintro _ _ ⟨rfl,rfl⟩)|(refine ca hH ?_;rintro _ _ ⟨h1,h2,rfl,hh1,hh2,rfl⟩)|(refine ca (hL1 v h1 h2 hv hh1 hh2) ?_;rintro _ _ ⟨rfl,rfl⟩)|(refine ca (hL2 v h1 h2 hv hh1 hh2) ?_;rintro _ _ ⟨rfl,rfl⟩)|(refine ca (hL3 v p1 p2 hp1 hp2) ?_;rintro _ _ ⟨rfl,rfl⟩)|(refine ca (hL4 v p3 p4 hp3 hp4) ?_;rintro _ _ ⟨rfl,rfl⟩))|refine al fun c=>?_|refine lda (vs:=rrow q11 (p1,p2)) ?_|refine lda (vs:=rrow q01 (p3,p4)) ?_|refine srz ?_|(refine wo ?_;first|(refine ao ?_;first|refine oa ?_)|refine oa ?_|refine gy ?_)|refine sq ?_|refine rg ?_|refine xc ?_|refine nl ?_|refine rt ?_
 exact r1 ⟨rfl,rfl⟩
end Go.Art
namespace Go.Art
open Go Go.Proofs Go.RowKit
attribute [local irreducible] Fit pt own ro vw mpc lpt vels rels mow lrc dfr
attribute [local irreducible] lmp lme mit velg relg bnd owl dfrl massW setsW massD smlT solE failQ stL curL leastW meanQ
theorem small26_tr (tv:Value) (tbl:List Int) (kk:Int) (k:Nat) (hk:1 + pick kk 5 = k):Tr Tryz.prog 52 [tv,I kk] [vw tv (Is tbl)] [] fun u D=>∃ o,u = tup2 o (I k)∧o.oneCell' = true∧D = [own TLI o (Is (smlT 10 tbl k))]:=by
 have hpk:=pickM_in (x:=kk) (m:=5) (by decide)
 have hPk:=Pick_tr kk 5 (by decide)
 refine Tr.enter env _ Tryz.func52 (by kernel_rfl) rfl Tryz.ntmps52 rfl (by repeat (first | exact has00 | refine has01 ?_)) fun w0=>?_
 refine TC.leni (v:=tv) (l:=tbl) fun htl=>?_
 refine TC.im (own_nil TLI _) ?_
 repeat' first|(refine gca ?_;first|(refine ca hPk ?_;rintro _ _ ⟨rfl,rfl⟩))|(refine aw (m:=1 + pick kk 5) ?_;rw [hk])|(refine wo ?_;first|refine oa ?_)|refine sq ?_|refine rg ?_|refine xc ?_|refine nl ?_|refine bk ?_
 refine TC.loop (ι:=Nat × Value) (fun g=>[(7,I g.1),(6,g.2)]) (fun g=>[own TLI g.2 (Is (smlT 10 tbl g.1))]) (fun g=>g.1 ≤ k∧g.1 ≤ tbl.length∧g.2.oneCell' = true) (fun g=>k - g.1) (0,nS) [0,1] ⟨Nat.zero_le _,Nat.zero_le _,rfl⟩ ?_ (hf:=by dsimp only;rw [smlT_zero 10 tbl];exact fitA)
 rintro ⟨i,o⟩ ⟨h1,h2,ho⟩
 dsimp only at h1 h2 ho ⊢
 by_cases hlt:i < k∧i < tbl.length
 ·have hms:=smlT_succ (m:=10) hlt.2
  have hml:=smlT_len 10 tbl i
  generalize hy:tbl.getD i 0 = y at *
  repeat' first|(refine gca ?_;first|(refine ca (Pick_tr y 10 (by decide)) ?_;rintro _ _ ⟨rfl,rfl⟩))|refine lie hy ?_|refine slii [pick y 10] fun v1=>?_|(refine api (l:=smlT 10 tbl i) (news:=[pick y 10]) (fun o2=>?_) (hl:=by simp only [List.length_cons,List.length_nil];omega);refine TO.one (v:=o2) (xs:=Is (smlT 10 tbl i ++ [pick y 10])) fun ho2=>?_)|(refine wo ?_;first|(refine ao ?_;first|refine aw ?_|refine oa ?_)|refine oa ?_|refine lnm ?_|refine ixmn ?_|refine gy ?_|(refine gsi (fun hB=>?_) (fun hB=>?_) <;> try (exfalso;omega)))|(refine gc ?_;first|(refine ci (fun hB=>?_) (fun hB=>?_) <;> try (exfalso;omega)))|refine sq ?_|refine rg ?_|refine xc ?_|refine nl ?_|refine sk ?_|refine bk ?_|refine xb ?_
  exact lp (i + 1,o2) ⟨hlt.1,hlt.2,ho2⟩ (hf:=by dsimp only;rw [hms];exact fitA)
 ·have hmi:smlT 10 tbl i = smlT 10 tbl k:=by rw [← smlT_min 10 tbl k];congr 1;omega
  rw [hmi]
  repeat' first|(refine wo ?_;first|(refine ao ?_;first|refine oa ?_)|refine oa ?_|refine lnm ?_|refine gy ?_|refine gn ?_|(refine gsi (fun hB=>?_) (fun hB=>?_) <;> try (exfalso;omega)))|(refine gc ?_;first|refine cf ?_|(refine ci (fun hB=>?_) (fun hB=>?_) <;> try (exfalso;omega)))|refine sq ?_|refine rg ?_|refine xc ?_|refine nl ?_|refine xe ?_|refine rt ?_
  all_goals exact r2 ⟨o,rfl,ho,rfl⟩
end Go.Art
namespace Go.Art
open Go Go.Proofs Go.RowKit
theorem foldl_sR2:∀ (l:List Rat) (a:Rat),l.foldl (fun a q=>q + a) a = a + sR id l
 | [],a=>(Rat.add_zero a).symm
 | x :: l,a=>by rw [List.foldl_cons,foldl_sR2 l];show x + a + sR id l = a + (x + sR id l);grind
theorem mean_sR (t:List Int) (k e:Nat):meanQ t k e = sR (fun i=>failQ t k i) (List.range e):=by
 unfold meanQ curL
 rw [foldl_sR2,Rat.zero_add,sR_map]
 rfl
open Go Go.Proofs Go.RowKit
section
variable {β:Type}
def tkR (W:List β→Bool) (L:List (β × Rat)):Nat→List β→Rat
 | 0,b=>(b.length:Rat)
 | r + 1,b=>if W b = true then sR (fun s=>s.2 * tkR W L r (b ++ [s.1])) L else (b.length:Rat)
abbrev wantG (W:List β→Bool) (L:List (β × Rat)) (b:List β) (j:Nat):Rat:=tG L j fun l=>if W (b ++ l) = true then 1 else 0
theorem want_down {W:List β→Bool} (hW:∀ b s,W (b ++ [s]) = true→W b = true):∀ (l b:List β),W (b ++ l) = true→W b = true
 | [],b,h=>by rwa [List.append_nil] at h
 | s :: l,b,h=>hW b s (want_down hW l (b ++ [s]) (by rwa [List.append_assoc]))
theorem tkR_eq {W:List β→Bool} {L:List (β × Rat)} (hW:∀ b s,W (b ++ [s]) = true→W b = true) (h1:sR (·.2) L = 1):∀ (r:Nat) (b:List β),tkR W L r b = (b.length:Rat) + sR (fun j=>wantG W L b j) (List.range r)
 | 0,b=>(Rat.add_zero _).symm
 | r + 1,b=>by
  unfold tkR
  by_cases hb:W b = true
  ·rw [if_pos hb,sR_shift]
   have e0:wantG W L b 0 = 1:=by unfold wantG;simp only [tG,List.append_nil];rw [if_pos hb]
   rw [e0]
   have e1:sR (fun s=>s.2 * tkR W L r (b ++ [s.1])) L = ((b.length:Rat) + 1) * sR (·.2) L + sR (fun s=>s.2 * sR (fun j=>wantG W L (b ++ [s.1]) j) (List.range r)) L:=by
    rw [← sR_mul,← sR_add]
    refine sR_congr fun s _=>?_
    rw [tkR_eq hW h1 r (b ++ [s.1]),List.length_append,List.length_singleton]
    push_cast
    grind
   have e2:sR (fun s=>s.2 * sR (fun j=>wantG W L (b ++ [s.1]) j) (List.range r)) L = sR (fun j=>wantG W L b (j + 1)) (List.range r):=by
    rw [sR_congr (f:=fun s:β × Rat=>s.2 * sR (fun j=>wantG W L (b ++ [s.1]) j) (List.range r)) (g:=fun s:β × Rat=>sR (fun j=>s.2 * wantG W L (b ++ [s.1]) j) (List.range r)) fun s _=>(sR_mul _ _ _).symm,sR_comm]
    refine sR_congr fun j _=>?_
    unfold wantG
    simp only [tG,List.append_assoc,List.singleton_append]
   rw [e1,e2,h1]
   grind
  ·rw [if_neg hb,sR_congr (g:=fun _=>0) fun j _=>?_,sR_zero,Rat.add_zero]
   unfold wantG
   rw [tG_congr (G:=fun _=>0) fun l _ _=>by rw [if_neg fun h=>hb (want_down hW l b h)],tG_zero]
theorem tkR_bd {O:Nat} {W:List β→Bool} {L:List (β × Rat)} (hL:Chn O L) (hO:O ≠ 0):∀ (r:Nat) (b:List β),FrQ (O ^ r) (tkR W L r b)∧tkR W L r b ≤ ((b.length + r:Nat):Rat)
 | 0,b=>⟨by rw [Nat.pow_zero];exact FrQ.nat _,by unfold tkR;rw [Nat.add_zero];exact Rat.le_refl⟩
 | r + 1,b=>by
  unfold tkR
  by_cases hb:W b = true
  ·rw [if_pos hb]
   refine ⟨FrQ.sum fun s hs=>?_,?_⟩
   ·rw [Nat.pow_succ,Nat.mul_comm];exact (hL.fr s hs).mul (tkR_bd hL hO r _).1
   ·refine Rat.le_trans (sR_le (g:=fun s=>((b.length + (r + 1):Nat):Rat) * s.2) fun s hs=>?_) ?_
    ·have h1:=(tkR_bd (W:=W) hL hO r (b ++ [s.1])).2
     rw [List.length_append,List.length_singleton,show b.length + 1 + r = b.length + (r + 1) by omega] at h1
     have h2:=Rat.mul_le_mul_of_nonneg_left h1 (hL.pos s hs)
     rwa [Rat.mul_comm s.2 ((b.length + (r + 1):Nat):Rat)] at h2
    ·rw [sR_mul]
     have h3:=Rat.mul_le_mul_of_nonneg_left hL.one (FrQ.nat (b.length + (r + 1))).nonneg
     rwa [Rat.mul_one] at h3
  ·rw [if_neg hb]
   refine ⟨?_,?_⟩
   ·have:=(FrQ.nat b.length).up (O ^ (r + 1)) (Nat.ne_of_gt (Nat.pow_pos (Nat.pos_of_ne_zero hO)))
    rwa [Nat.one_mul] at this
   ·have:=(FrQ.nat (r + 1)).nonneg
    push_cast at this ⊢
    grind
theorem tkR_part {O:Nat} {W:List β→Bool} {L:List (β × Rat)} (hL:Chn O L) (hO:O ≠ 0) (r:Nat) (b:List β) (i:Nat):FrQ (O ^ (r + 1)) (sR (fun s=>s.2 * tkR W L r (b ++ [s.1])) (L.take i))∧sR (fun s=>s.2 * tkR W L r (b ++ [s.1])) (L.take i) ≤ ((b.length + (r + 1):Nat):Rat):=by
 refine ⟨FrQ.sum fun s hs=>?_,?_⟩
 ·rw [Nat.pow_succ,Nat.mul_comm];exact (hL.fr s (List.mem_of_mem_take hs)).mul (tkR_bd hL hO r _).1
 ·refine Rat.le_trans (sR_take_le (fun s hs=>Rat.mul_nonneg (hL.pos s hs) (tkR_bd hL hO r _).1.nonneg) i) ?_
  refine Rat.le_trans (sR_le (g:=fun s=>((b.length + (r + 1):Nat):Rat) * s.2) fun s hs=>?_) ?_
  ·have h1:=(tkR_bd (W:=W) hL hO r (b ++ [s.1])).2
   rw [List.length_append,List.length_singleton,show b.length + 1 + r = b.length + (r + 1) by omega] at h1
   have h2:=Rat.mul_le_mul_of_nonneg_left h1 (hL.pos s hs)
   rwa [Rat.mul_comm s.2 ((b.length + (r + 1):Nat):Rat)] at h2
  ·rw [sR_mul]
   have h3:=Rat.mul_le_mul_of_nonneg_left hL.one (FrQ.nat (b.length + (r + 1))).nonneg
   rwa [Rat.mul_one] at h3
end
theorem FB_leN {E B M:Nat} {q:Rat} (h:FrQ E q) (hE:E ≠ 0) (h1:q ≤ (M:Rat)) (hM:1 ≤ M) (hB:M * E < 18446744073709551616 ^ B):FB q B:=by
 obtain ⟨a,rfl⟩:=h
 have h0:=nz hE
 have h2:(a:Rat) ≤ ((M * E:Nat):Rat):=by
  have hp:0 ≤ (E:Rat):=by have:=(FrQ.nat E).nonneg;exact this
  have:=Rat.mul_le_mul_of_nonneg_right h1 hp
  rw [Rat.div_mul_cancel h0] at this
  push_cast
  exact this
 have h3:a ≤ M * E:=Rat.natCast_le_natCast.1 h2
 exact FB_nat hE (Nat.lt_of_le_of_lt h3 hB) (Nat.lt_of_le_of_lt (Nat.le_mul_of_pos_left E hM) hB)
theorem want_fail {t:List Int} {k:Nat} (hz:solE t k = 0) (j:Nat):wantG (failW k) (chnS t k) [] j = failQ t k j:=by
 have h2:=natG_tG (failW k) (itemS t k) (oneS_pos hz) j [] 1
 rw [failQ_eq hz,Rat.mkRat_eq_div]
 have h0:=nz (Nat.ne_of_gt (Nat.pow_pos (n:=j) (Nat.pos_of_ne_zero (oneS_pos hz))))
 have e:(((natG (failW k) (itemS t k) j [] 1:Nat):Int):Rat) = ((natG (failW k) (itemS t k) j [] 1:Nat):Rat):=by push_cast;rfl
 rw [e,h2]
 unfold wantG
 push_cast at h0 ⊢
 rw [Rat.one_mul]
 generalize (tG (chnS t k) j fun l=>if failW k ([] ++ l) = true then (1:Rat) else 0) = z
 rw [Rat.div_def,Rat.mul_comm _ z,Rat.mul_assoc,Rat.mul_inv_cancel _ h0,Rat.mul_one]
theorem chnS_one {t:List Int} {k:Nat} (hz:solE t k = 0):sR (·.2) (chnS t k) = 1:=by
 have h1:=item_ev t k fun _=>1
 rw [sR_congr (f:=fun s:List Int × Rat=>s.2 * 1) (l:=tabX t k) (g:=(·.2)) fun s _=>Rat.mul_one _,tabX_one hz,sR_congr (f:=fun s:List Int × Rat=>s.2 * 1) (l:=chnS t k) (g:=(·.2)) fun s _=>Rat.mul_one _] at h1
 exact h1
theorem tk_mean {t:List Int} {k:Nat} (hz:solE t k = 0) (n:Nat):tkR (failW k) (chnS t k) n [] = meanQ t k n:=by
 rw [tkR_eq (fun b s h=>failW_more k b s h) (chnS_one hz),mean_sR,sR_congr fun j _=>want_fail hz j]
 show ((0:Nat):Rat) + _ = _
 rw [show ((0:Nat):Rat) = 0 from rfl,Rat.zero_add]
end Go.Art
namespace Go.Art
open Go Go.Proofs Go.RowKit
structure CnG where
 i:Nat
 hs:List HV
theorem has_velg_sn {g:Int→Value} {F:List Ch} {v:Value} {l:List Int}:∀ {hs:List Value} {ls:List (List Int)},hs.length = ls.length→Has F (velg g hs ls)→Has F (vw v (l.map g))→Has F (velg g (hs ++ [v]) (ls ++ [l]))
 | [],[],_,_,h=>has_velg_cons h has_velg_nil
 | a :: hs,b :: ls,hl,k,h=>by
  have hk:Has F (velg g hs ls):=⟨fun w hw=>by
   obtain ⟨k1,k2⟩:=(k.P w hw:elgP g (a :: hs) (b :: ls) w)
   exact ⟨by simpa using k1,fun i hi=>by have:=k2 (i + 1) (by simpa using hi);simpa using this⟩,fun _ h=>h,fun _ h=>h,fun b' hb=>k.ft b' (by
    rcases hb with hb | hb | ⟨i,hi,h1,h2⟩
    ·exact hb.elim
    ·exact hb.elim
    ·exact .inr (.inr ⟨i + 1,by simpa using hi,by simpa using h1,by simpa using h2⟩))⟩
  exact has_velg_cons (has_elg k (i:=0) (by simp)) (has_velg_sn (by simpa using hl) hk h)
 | [],b :: ls,hl,_,_=>by simp at hl
 | a :: hs,[],hl,_,_=>by simp at hl
theorem elg_onesL {g:Int→Value} {F:List Ch} {ss:List Value} {ls:List (List Int)} (h:Has F (velg g ss ls)) (hl:ss.length = ls.length) (w:World) (hw:Sat F w):∀ c ∈ ss,c.oneCell' = true:=fun c hc=>by
 obtain ⟨i,hi,rfl⟩:=List.mem_iff_getElem.1 hc
 have:=elg_one h (i:=i) (by omega) w hw
 rwa [List.getD_eq_getElem?_getD,List.getElem?_eq_getElem hi] at this
theorem oneS_pow {t:List Int} {k d:Nat} (hz:solE t k = 0) (hk:k ≤ 40) (hl:t.length ≤ 12) (hd:d ≤ 12):oneS t k ^ d ≠ 0∧oneS t k ^ d < 18446744073709551616 ^ 121:=by
 have h0:=oneS_pos hz
 refine ⟨Nat.ne_of_gt (Nat.pow_pos (Nat.pos_of_ne_zero h0)),?_⟩
 refine Nat.lt_of_le_of_lt (Nat.pow_le_pow_left (Nat.le_of_lt (oneS_lt hz hk hl)) d) ?_
 rw [← Nat.pow_mul]
 exact Nat.pow_lt_pow_right (by decide) (by omega)
attribute [local irreducible] Fit pt own ro vw mpc lpt vels rels mow lrc dfr
attribute [local irreducible] lmp lme mit velg relg bnd owl dfrl massW setsW massD smlT solE failV failQ stL setP oneS ctR ctF
end Go.Art
namespace Go.Art
open Go Go.Proofs Go.RowKit
theorem mk_nat (m:Nat):mkRat (m:Int) 1 = (m:Rat):=by rw [Rat.mkRat_eq_div];rw [show ((1:Nat):Rat) = 1 from rfl];push_cast;grind
attribute [local irreducible] Fit pt own ro vw mpc lpt vels rels mow lrc dfr
attribute [local irreducible] lmp lme mit velg relg bnd owl dfrl massW setsW massD smlT solE failQ stL curL leastW meanQ
end Go.Art
namespace Go.Art
open Go Go.Proofs Go.RowKit
attribute [local irreducible] Fit pt own ro vw mpc lpt vels rels mow lrc dfr
attribute [local irreducible] lmp lme mit velg relg bnd owl dfrl massW setsW massD smlT solE failQ stL curL leastW meanQ
end Go.Art
namespace Go.Art
open Go Go.Proofs Go.RowKit
theorem chs_step5:∀ k:Nat,k < 6→∀ i:Nat,i < k→(chs k i:Int) * ((k:Int) - (i:Int)) / ((i:Int) + 1) = (chs k (i + 1):Int)∧chs k i ≤ 10∧chs k (i + 1) ≤ 10:=by decide +kernel
theorem setP_sum (t:List Int) (k:Nat):∀ n,(setP t k n).length ≤ ((List.range n).map fun i=>chs k (i + 1)).sum
 | 0=>by simp [setP]
 | n + 1=>by
  rw [setP_succ,List.length_append,szL_len,List.range_succ,List.map_append,List.sum_append]
  have h1:=setP_sum t k n
  simp only [List.map_cons,List.map_nil,List.sum_cons,List.sum_nil]
  split <;> omega
theorem few_sets:∀ k:Nat,k < 4→∀ n:Nat,n < k + 1→((List.range n).map fun i=>chs k (i + 1)).sum ≤ 7:=by decide
theorem mass_at {t:List Int} {k i:Nat} (hz:solE t k = 0) (hk:k ≤ 3) (hi:i ≤ 3):massW (failW k) t k i = (rqf (failQ t k i),0):=by
 obtain ⟨z1,z2,z3,z4⟩:=solE_zero hz
 have h7:(setP t k t.length).length ≤ 7:=Nat.le_trans (setP_sum t k t.length) (few_sets k (by omega) t.length (by omega))
 have hp:(itemS t k).length ^ i ≤ 4096:=by
  rw [itemS_len]
  have h1:=itemS_pos hz
  rw [itemS_len] at h1
  exact Nat.le_trans (Nat.pow_le_pow_right h1 hi) (Nat.le_trans (Nat.pow_le_pow_left h7 3) (by decide))
 have hE:refE t k i = 0:=by unfold refE;rw [if_pos hz,if_neg (by omega)]
 have h0:(massW (failW k) t k i).2 = 0:=by
  unfold massW
  rw [if_pos hE,if_pos (by unfold setsW;rw [if_pos hz,Int.toNat_natCast,if_neg (by omega)])]
  unfold sumW
  rw [Int.toNat_natCast,Int.toNat_natCast,if_pos ⟨by rw [itemS_len];omega,hp⟩]
 rw [(massW_val h0).1,failQ_eq hz]
structure TkG where
 i:Nat
 vn:Value
 vd:Value
structure TkC where
 c:Nat
 n:Value
 d:Value
theorem tk_bd {t:List Int} {k r:Nat} (hz:solE t k = 0) (hk:k ≤ 40) (hl:t.length ≤ 12) {q:Rat} {m:Nat} (hr:r ≤ 12) (hm:m ≤ 100) (h:FrQ (oneS t k ^ r) q) (h1:q ≤ (m:Rat)):FB q 8589934592:=by
 obtain ⟨E0,E1⟩:=oneS_pow hz hk hl hr
 refine (FB_leN (M:=100) (B:=122) h E0 (Rat.le_trans h1 (Rat.natCast_le_natCast.2 hm)) (by decide) ?_).le (by decide)
 rw [show (122:Nat) = 121 + 1 from rfl,Nat.pow_succ]
 omega
attribute [local irreducible] Fit pt own ro vw mpc lpt vels rels mow lrc dfr
attribute [local irreducible] lmp lme mit velg relg bnd owl dfrl massW setsW massD smlT solE failV failQ stL setP oneS tkR curL leastW meanQ
abbrev FQT (q:Rat) (u:Value) (D:List Ch):Prop:=∃ vn vd,u = tup2 (rv q vn vd) (.bool true)∧vn.oneCell' = true∧vd.oneCell' = true∧D = [own T64 vn (Us (dg q.num.natAbs)),own T64 vd (Us (dg q.den))]
theorem chanceOf_tr (tv v:Value) (t row:List Int) (k:Nat) (hz:solE t k = 0) (hk:k ≤ 5) (h1:1 ≤ row.length) (h2:row.length ≤ t.length) :
  Tr Tryz.prog 104 [tv,I k,v] [vw tv (Is t),vw v (Is row)] [] (FQT (mkRat (t.getD (row.length - 1) 0) (chs k row.length * t.sum.toNat))):=by
 obtain ⟨z1,z2,z3,z4⟩:=solE_zero hz
 have hs:=sum_posT z3 z4
 have hsb:=(sum_wOk z3).2
 have hTot:=SoTotal_tr tv t (by omega) z3
 obtain ⟨T,hT⟩ : ∃ T:Nat,t.sum = T:=⟨t.sum.toNat,by omega⟩
 have hTb:T ≤ 268435456:=by
  have:(16777215:Int) * t.length ≤ 16777215 * 12:=by omega
  omega
 obtain ⟨j,hj⟩ : ∃ j,row.length = j + 1:=⟨row.length - 1,by omega⟩
 have hm:t.getD j 0 ∈ t:=by rw [List.getD_eq_getElem?_getD,List.getElem?_eq_getElem (by omega)];exact List.getElem_mem (by omega)
 obtain ⟨w,hw⟩ : ∃ w:Nat,t.getD j 0 = w:=⟨(t.getD j 0).toNat,by have:=(z3 _ hm).1;omega⟩
 have hwb:=(z3 _ hm).2
 rw [hw] at hwb
 have hstep:=fun i (hi:i < k)=>chs_step5 k (by omega) i hi
 have hc:=(hstep j (by omega)).2.2
 have hp0:chs k (j + 1) ≠ 0:=chs_pos (by omega)
 rw [hj,Nat.add_sub_cancel,hw,hT,Int.toNat_natCast]
 rw [hT] at hTot
 have hTc:chs k (j + 1) * T ≤ 10 * 268435456:=Nat.mul_le_mul hc hTb
 have hT0:T ≠ 0:=by omega
 have hTm:(T:Int) * (chs k (j + 1):Int) = ((chs k (j + 1) * T:Nat):Int):=by push_cast;exact Int.mul_comm _ _
 have hP:=FPair_tr w (chs k (j + 1) * T) (by omega) (by omega) (Nat.mul_ne_zero hp0 hT0)
 have hc0:((chs k 0:Nat):Int) = 1:=by rw [chs_zero];rfl
 unfold FQ2 at hP
 generalize hM:chs k (j + 1) * T = M at *
 generalize mkRat (w:Int) M = q at *
 have hix:((j + 1:Nat):Int) - 1 = (j:Int):=by omega
 have hwc:(Is t)[j]? = some (I w):=by rw [← hw];simp [Is,List.getD_eq_getElem?_getD,show j < t.length by omega]
 clear hz z4 hs
 refine Tr.enter env _ Tryz.func104 (by kernel_rfl) rfl Tryz.ntmps104 rfl (by repeat (first | exact has00 | refine has01 ?_)) fun w0=>?_
 refine TC.leni (v:=v) (l:=row) fun hrl=>?_
 repeat' first|refine al fun c6=>?_|(refine wo ?_;first|(refine ao ?_;first|refine oa ?_)|refine oa ?_|refine lnm ?_|refine gy ?_|(refine gsi (fun hB=>?_) (fun hB=>?_) <;> try (exfalso;omega)))|(refine gc ?_;first|(refine ci (fun hB=>?_) (fun hB=>?_) <;> try (exfalso;omega)))|refine sq ?_|refine rg ?_|refine xc ?_|refine nl ?_|refine sk ?_|refine bk ?_
 rw [hj]
 refine TC.loop (ι:=Nat) (fun i=>[(10,I i),(9,I (chs k i))]) (fun _=>[]) (fun i=>i ≤ j + 1) (fun i=>j + 1 - i) 0 [0,1,2,6,8] (Nat.zero_le _) ?_ (hs:=by rw [hc0];(repeat (refine Sub.cons rfl (by first | rfl | go_num) ?_));exact Sub.nil)
 rintro i hi
 by_cases hlt:i < j + 1
 ·obtain ⟨g1,g2,g3⟩:=hstep i (by omega)
  have h10:(chs k i:Int) * ((k:Int) - (i:Int)) ≤ 10 * 5:=Int.mul_le_mul (by omega) (by omega) (by omega) (by omega)
  have h11:0 ≤ (chs k i:Int) * ((k:Int) - (i:Int)):=Int.mul_nonneg (by omega) (by omega)
  obtain ⟨pr,hpr⟩ : ∃ pr,(chs k i:Int) * ((k:Int) - (i:Int)) = pr:=⟨_,rfl⟩
  rw [hpr] at g1 h10 h11
  have hki:0 ≤ (k:Int) - (i:Int)∧(k:Int) - (i:Int) ≤ 5:=by omega
  clear hstep
  repeat' first|(refine aw (m:=pr) ?_ (h:=by rw [← hpr];rfl))|(refine adive g1 ?_)|(refine wo ?_;first|(refine ao ?_;first|refine aw ?_|refine oa ?_)|refine oa ?_)|(refine gc ?_;first|(refine ci (fun hB=>?_) (fun hB=>?_) <;> try (exfalso;omega)))|refine sq ?_|refine rg ?_|refine xc ?_|refine nl ?_|refine sk ?_|refine bk ?_|refine xb ?_
  exact lp (i + 1) hlt
 ·obtain rfl:i = j + 1:=by omega
  clear hstep
  repeat' first|(refine wo ?_;first|(refine ao ?_;first|refine oa ?_)|refine oa ?_)|(refine gc ?_;first|(refine ci (fun hB=>?_) (fun hB=>?_) <;> try (exfalso;omega)))|refine sq ?_|refine rg ?_|refine xc ?_|refine nl ?_|refine xe ?_
  refine rs (fun w=>Sl w tv (Is t)) ?_ (fun w hw=>has_sl (xs:=Is t) hw hasA)
  refine tka 0 ?_
  refine tka 1 ?_
  refine tkw 2 (j:Int) ?_
  refine tk 3 (v:=.pointer (some (addrAt tv j))) (fun w h=>R_idx (E:=env) (i:=(j:Int)) rfl rfl rfl rfl h ⟨by omega,by rw [Is_len];omega⟩) ?_
  refine tk 4 (v:=I w) (fun w' h=>R_load (E:=env) rfl rfl rfl (h.cell hwc)) ?_
  refine tka 5 ?_
  refine tka 7 ?_
  refine t2 6 13 ?_ ?_
  ·refine ca hTot ?_
   rintro _ _ ⟨rfl,rfl⟩
   refine nl ?_
   refine te (fun w hw=>has_sl (xs:=Is t) hw hasA) ?_
   refine tkw 8 (M:Int) ?_
   refine t2 9 13 ?_ ?_
   ·refine ca hP ?_
    rintro _ _ ⟨vn,vd,rfl,hvn,hvd,rfl⟩
    refine nl ?_
    refine te (fun w hw=>has_sl (xs:=Is t) hw hasA) ?_
    refine tka 10 ?_
    refine tka 11 ?_
    refine tka 12 ?_
    refine t1 13 ?_
    refine al fun c11=>?_
    refine nl ?_
    refine te (fun w hw=>has_sl (xs:=Is t) hw hasA) ?_
    refine t1 14 ?_
    refine srz ?_
    refine nl ?_
    refine te (fun w hw=>has_sl (xs:=Is t) hw hasA) ?_
    refine tka 15 ?_
    refine t0 ?_
    repeat' first|refine lda ?_|refine srz ?_|(refine wo ?_;first|(refine ao ?_;first|refine oa ?_)|refine oa ?_)|refine sq ?_|refine rg ?_|refine xc ?_|refine nl ?_|refine rt ?_
    exact rca (cs:=[.bool (decide (q.num < 0)),vn,vd]) (vs:=[.bool (decide (q.num < 0)),vn,vd]) (T:=TRt) ⟨vn,vd,rfl,hvn,hvd,rfl⟩
   ·refine al fun c11=>?_
    refine nl ?_
    refine te (fun w hw=>has_sl (xs:=Is t) hw hasA) ?_
    refine t1 9 ?_
    refine ca hP ?_
    rintro _ _ ⟨vn,vd,rfl,hvn,hvd,rfl⟩
    refine nl ?_
    refine te (fun w hw=>has_sl (xs:=Is t) hw hasA) ?_
    refine tka 10 ?_
    refine tka 11 ?_
    refine tka 12 ?_
    refine t1 14 ?_
    refine srz ?_
    refine nl ?_
    refine te (fun w hw=>has_sl (xs:=Is t) hw hasA) ?_
    refine tka 15 ?_
    refine t0 ?_
    repeat' first|refine lda ?_|refine srz ?_|(refine wo ?_;first|(refine ao ?_;first|refine oa ?_)|refine oa ?_)|refine sq ?_|refine rg ?_|refine xc ?_|refine nl ?_|refine rt ?_
    exact rca (cs:=[.bool (decide (q.num < 0)),vn,vd]) (vs:=[.bool (decide (q.num < 0)),vn,vd]) (T:=TRt) ⟨vn,vd,rfl,hvn,hvd,rfl⟩
  ·refine al fun c11=>?_
   refine nl ?_
   refine te (fun w hw=>has_sl (xs:=Is t) hw hasA) ?_
   refine t1 6 ?_
   refine ca hTot ?_
   rintro _ _ ⟨rfl,rfl⟩
   refine nl ?_
   refine te (fun w hw=>has_sl (xs:=Is t) hw hasA) ?_
   refine tkw 8 (M:Int) ?_
   refine t1 9 ?_
   refine ca hP ?_
   rintro _ _ ⟨vn,vd,rfl,hvn,hvd,rfl⟩
   refine nl ?_
   refine te (fun w hw=>has_sl (xs:=Is t) hw hasA) ?_
   refine tka 10 ?_
   refine tka 11 ?_
   refine tka 12 ?_
   refine t1 14 ?_
   refine srz ?_
   refine nl ?_
   refine te (fun w hw=>has_sl (xs:=Is t) hw hasA) ?_
   refine tka 15 ?_
   refine t0 ?_
   repeat' first|refine lda ?_|refine srz ?_|(refine wo ?_;first|(refine ao ?_;first|refine oa ?_)|refine oa ?_)|refine sq ?_|refine rg ?_|refine xc ?_|refine nl ?_|refine rt ?_
   exact rca (cs:=[.bool (decide (q.num < 0)),vn,vd]) (vs:=[.bool (decide (q.num < 0)),vn,vd]) (T:=TRt) ⟨vn,vd,rfl,hvn,hvd,rfl⟩
set_option maxHeartbeats 2000000 in
theorem taken_tr (tv sv:Value) (t:List Int) (k most:Nat) (ss:List Value) (hz:solE t k = 0) (hk:k ≤ 5) (hm:most ≤ 8) (hss:ss.length = (setP t k t.length).length) (hSb:(setP t k t.length).length ≤ 4096) :
  ∀ (r:Nat) (bv:Value) (bs:List Value) (bl:List (List Int)),bs.length = bl.length→stopE k bl = 0→bl.length + r = most →
   Tr Tryz.prog 55 [tv,I k,sv,bv,I most] [vw tv (Is t),vw sv ss,velg I ss (setP t k t.length),vw bv bs,velg I bs bl] [] (FQT (tkR (failW k) (chnS t k) r bl))
 | 0,bv,bs,bl,hbl,hst,hbr=>by
  have hF:=Fails_tr k bv bs bl (by omega)
  rw [hst] at hF
  have hP:=FPair_tr bs.length 1 (by omega) (by decide) (by decide)
  have hq:tkR (failW k) (chnS t k) 0 bl = mkRat (bs.length:Int) 1:=by rw [mk_nat,hbl];unfold tkR;rfl
  rw [hq]
  unfold FQ2 at hP
  generalize mkRat (bs.length:Int) 1 = q at *
  generalize decide (0 < (largeR k bl).length) = fb at *
  clear hz
  cases fb with
  | true=>
   refine Tr.enter env _ Tryz.func55 (by kernel_rfl) rfl Tryz.ntmps55 rfl (by repeat (first | exact has00 | refine has01 ?_)) fun w0=>?_
   repeat' first|(refine gca ?_;first|(refine ca hF ?_ (hp:=has1 hasA (has1 (has_velsI (has_velg memA)) has0));rintro _ _ ⟨rfl,rfl⟩)|(refine ca hP ?_;rintro _ _ ⟨p1,p2,rfl,hp1,hp2,rfl⟩))|refine al fun c=>?_|refine srz ?_|refine lda ?_|(refine wo ?_;first|(refine ao ?_;first|refine oa ?_)|refine oa ?_|refine ln ?_|refine gy ?_)|(refine gc ?_;first|(refine ci (fun hB=>?_) (fun hB=>?_) <;> try (exfalso;omega)))|refine sq ?_|refine rg ?_|refine xc ?_|refine nl ?_|refine rt ?_
   exact rca (cs:=[.bool (decide (q.num < 0)),p1,p2]) (vs:=[.bool (decide (q.num < 0)),p1,p2]) (T:=TRt) ⟨p1,p2,rfl,hp1,hp2,rfl⟩
  | false=>
   refine Tr.enter env _ Tryz.func55 (by kernel_rfl) rfl Tryz.ntmps55 rfl (by repeat (first | exact has00 | refine has01 ?_)) fun w0=>?_
   repeat' first|(refine gca ?_;first|(refine ca hF ?_ (hp:=has1 hasA (has1 (has_velsI (has_velg memA)) has0));rintro _ _ ⟨rfl,rfl⟩)|(refine ca hP ?_;rintro _ _ ⟨p1,p2,rfl,hp1,hp2,rfl⟩))|refine al fun c=>?_|refine srz ?_|refine lda ?_|(refine wo ?_;first|(refine ao ?_;first|refine oa ?_)|refine oa ?_|refine ln ?_|refine gy ?_|refine gn ?_)|(refine gc ?_;first|refine ct ?_)|refine sq ?_|refine rg ?_|refine xc ?_|refine nl ?_|refine rt ?_
   exact rca (cs:=[.bool (decide (q.num < 0)),p1,p2]) (vs:=[.bool (decide (q.num < 0)),p1,p2]) (T:=TRt) ⟨p1,p2,rfl,hp1,hp2,rfl⟩
 | r + 1,bv,bs,bl,hbl,hst,hbr=>by
  have hF:=Fails_tr k bv bs bl (by omega)
  rw [hst] at hF
  cases hW:failW k bl with
  | false=>
   have hP:=FPair_tr bs.length 1 (by omega) (by decide) (by decide)
   have hq:tkR (failW k) (chnS t k) (r + 1) bl = mkRat (bs.length:Int) 1:=by rw [mk_nat,hbl];unfold tkR;rw [if_neg (by rw [hW];decide)]
   rw [hq]
   unfold failW at hW
   rw [hW] at hF
   unfold FQ2 at hP
   generalize mkRat (bs.length:Int) 1 = q at *
   clear hz
   refine Tr.enter env _ Tryz.func55 (by kernel_rfl) rfl Tryz.ntmps55 rfl (by repeat (first | exact has00 | refine has01 ?_)) fun w0=>?_
   repeat' first|(refine gca ?_;first|(refine ca hF ?_ (hp:=has1 hasA (has1 (has_velsI (has_velg memA)) has0));rintro _ _ ⟨rfl,rfl⟩)|(refine ca hP ?_;rintro _ _ ⟨p1,p2,rfl,hp1,hp2,rfl⟩))|refine al fun c=>?_|refine srz ?_|refine lda ?_|(refine wo ?_;first|(refine ao ?_;first|refine oa ?_)|refine oa ?_|refine ln ?_|refine gy ?_|refine gn ?_)|(refine gc ?_;first|refine ct ?_)|refine sq ?_|refine rg ?_|refine xc ?_|refine nl ?_|refine rt ?_
   exact rca (cs:=[.bool (decide (q.num < 0)),p1,p2]) (vs:=[.bool (decide (q.num < 0)),p1,p2]) (T:=TRt) ⟨p1,p2,rfl,hp1,hp2,rfl⟩
  | true=>
   obtain ⟨z1,z2,z3,z4⟩:=solE_zero hz
   have hl:t.length ≤ 12:=by omega
   have hO:=chnS_ok hz
   have hO0:=oneS_pos hz
   have hrec:=fun bv' bs' bl'=>taken_tr tv sv t k most ss hz hk hm hss hSb r bv' bs' bl'
   have hLen:=chnS_len t k
   have hget:=fun i (hi:i < (setP t k t.length).length)=>chnS_get hz hi
   obtain ⟨PF,hPF⟩ : ∃ PF:Nat→Rat,PF = fun i=>sR (fun s=>s.2 * tkR (failW k) (chnS t k) r (bl ++ [s.1])) ((chnS t k).take i):=⟨_,rfl⟩
   have hP0:PF 0 = 0:=by rw [hPF];rfl
   have hPN:tkR (failW k) (chnS t k) (r + 1) bl = PF (setP t k t.length).length:=by
    rw [hPF,← hLen]
    show _ = sR _ ((chnS t k).take (chnS t k).length)
    rw [List.take_length]
    conv=>lhs;unfold tkR
    rw [if_pos hW]
   have hPb:∀ i,FrQ (oneS t k ^ (r + 1)) (PF i)∧PF i ≤ ((bl.length + (r + 1):Nat):Rat):=fun i=>by rw [hPF];exact tkR_part hO hO0 r bl i
   have hPs:∀ i,i < (chnS t k).length→PF (i + 1) = PF i + tkR (failW k) (chnS t k) r (bl ++ [((chnS t k).getD i ([],0)).1]) * ((chnS t k).getD i ([],0)).2:=fun i hi=>by
    rw [hPF]
    show sR _ ((chnS t k).take (i + 1)) = _
    rw [takeS hi ([],0),sR_app]
    congr 1
    show _ + 0 = _
    rw [Rat.add_zero,Rat.mul_comm]
   have hFP:∀ i,FB (PF i) 8589934592:=fun i=>tk_bd hz (by omega) hl (r:=r + 1) (by omega) (m:=bl.length + (r + 1)) (by omega) (hPb i).1 (hPb i).2
   have hxb:∀ l,FB (tkR (failW k) (chnS t k) r l) 8589934592∨¬ l.length = bl.length + 1:=fun l=>by
    by_cases e:l.length = bl.length + 1
    ·have:=tkR_bd (W:=failW (k:Int)) hO hO0 r l
     exact .inl (tk_bd hz (by omega) hl (r:=r) (by omega) (m:=l.length + r) (by omega) this.1 this.2)
    ·exact .inr e
   have hfb:=fun i (hi:i < (chnS t k).length)=>(chnS_FB hz (by omega) hl hi).le (C:=8589934592) (by decide)
   have hfr:=fun l i (hi:i < (chnS t k).length)=>by
    have:=(tkR_bd (W:=failW (k:Int)) hO hO0 r l).1.mul (chnS_fr hz hi)
    rwa [← Nat.pow_succ] at this
   have hpb2:∀ i,i < (chnS t k).length→FB (tkR (failW k) (chnS t k) r (bl ++ [((chnS t k).getD i ([],0)).1]) * ((chnS t k).getD i ([],0)).2) 8589934592:=fun i hi=>by
    refine tk_bd hz (by omega) hl (r:=r + 1) (by omega) (m:=bl.length + (r + 1)) (by omega) (hfr _ i hi) ?_
    have h1:=(hPb (i + 1)).2
    have h2:=(hPb i).1.nonneg
    have h3:=hPs i hi
    grind
   have hCh:=fun v row h1 h2=>chanceOf_tr tv v t row k hz hk h1 h2
   have hsn:=fun i (hi:i < (setP t k t.length).length)=>stopE_snoc (k:=(k:Int)) (b:=bl) hst (setP_isSet hi)
   have hmem:∀ i,i < (setP t k t.length).length→1 ≤ ((setP t k t.length).getD i []).length∧((setP t k t.length).getD i []).length ≤ t.length:=fun i hi=>by
    have hm:(setP t k t.length).getD i [] ∈ setP t k t.length:=by rw [List.getD_eq_getElem?_getD,List.getElem?_eq_getElem hi];exact List.getElem_mem hi
    obtain ⟨p1,p2,_,_⟩:=setP_mem hm
    exact ⟨p1,p2⟩
   have hZ:=FPair_tr 0 1 (by decide) (by decide) (by decide)
   rw [zero_mk,← hP0] at hZ
   rw [hPN]
   have hWW:=hW
   unfold failW at hWW
   rw [hWW] at hF
   clear hPN hPF hfr hPb hz hO hO0 z3 z4 hW hWW
   generalize tkR (failW k) (chnS t k) r = TR at *
   generalize setP t k t.length = S at *
   have hb8:bs.length ≤ 8:=by omega
   unfold FQ2 at hZ
   refine Tr.enter env _ Tryz.func55 (by kernel_rfl) rfl Tryz.ntmps55 rfl (by repeat (first | exact has00 | refine has01 ?_)) fun w0=>?_
   refine TC.fact (elg_onesL (g:=I) (ss:=bs) (ls:=bl) (has_velg memA) hbl) fun hbo=>?_
   repeat' first|(refine gca ?_;first|(refine ca hF ?_ (hp:=has1 hasA (has1 (has_velsI (has_velg memA)) has0));rintro _ _ ⟨rfl,rfl⟩)|(refine ca hZ ?_;rintro _ _ ⟨p1,p2,rfl,hp1,hp2,rfl⟩))|refine al fun c=>?_|refine srz ?_|refine lda ?_|(refine wo ?_;first|(refine ao ?_;first|refine oa ?_)|refine oa ?_|refine ln ?_|refine gy ?_)|(refine gc ?_;first|refine cf ?_|(refine ci (fun hB=>?_) (fun hB=>?_) <;> try (exfalso;omega)))|refine sq ?_|refine rg ?_|refine xc ?_|refine nl ?_|refine sk ?_|refine bk ?_
   rename_i c10
   refine TC.loop (ι:=TkG) (fun g=>[(18,I g.i)]) (fun g=>[pt c (rrow (PF g.i) (g.vn,g.vd)) TRt,own T64 g.vn (Us (dg (PF g.i).num.natAbs)),own T64 g.vd (Us (dg (PF g.i).den))]) (fun g=>g.i ≤ S.length∧g.vn.oneCell' = true∧g.vd.oneCell' = true) (fun g=>S.length - g.i) ⟨0,p1,p2⟩ [0,1,2,3,4,10,16] ⟨Nat.zero_le _,hp1,hp2⟩ ?_
   rintro ⟨i,vn,vd⟩ ⟨hi,hvn,hvd⟩
   dsimp only at hi hvn hvd ⊢
   by_cases hlt:i < S.length
   rotate_left
   ·obtain rfl:i = S.length:=by omega
    generalize PF S.length = q at *
    repeat' first|refine lda ?_|refine srz ?_|(refine wo ?_;first|(refine ao ?_;first|refine oa ?_)|refine oa ?_|refine ln ?_)|(refine gc ?_;first|(refine ci (fun hB=>?_) (fun hB=>?_) <;> try (exfalso;omega)))|refine sq ?_|refine rg ?_|refine xc ?_|refine nl ?_|refine xe ?_|refine rt ?_
    exact rca (cs:=[.bool (decide (q.num < 0)),vn,vd]) (vs:=[.bool (decide (q.num < 0)),vn,vd]) (T:=TRt) ⟨vn,vd,rfl,hvn,hvd,rfl⟩
   have hg:=hget i hlt
   have hPs:=hPs i (by omega)
   have hfb:=hfb i (by omega)
   have hpb2:=hpb2 i (by omega)
   have hsn1:=hsn i hlt
   obtain ⟨m1,m2⟩:=hmem i hlt
   have hs1:ss[i]? = some (ss.getD i nS):=by rw [List.getD_eq_getElem?_getD,List.getElem?_eq_getElem (by omega)];rfl
   have hH1:∀ F,velg I ss S ∈ F→Has F (vw (ss.getD i nS) (Is (S.getD i []))):=fun F h=>has_elg (g:=I) (has_velg h) (i:=i) hlt
   rw [hg] at hPs hfb hpb2
   refine TC.fact (elg_one (g:=I) (ss:=ss) (ls:=S) (has_velg memA) (i:=i) hlt) fun hs1o=>?_
   dsimp only at hPs hfb hpb2
   have hFi:=hFP i
   clear hg hget hsn hmem hFP
   generalize S.getD i [] = row at *
   have hCh:=fun v=>hCh v row m1 m2
   generalize mkRat (t.getD (row.length - 1) 0) (chs k row.length * t.sum.toNat) = c' at *
   have hxF:=(hxb (bl ++ [row])).resolve_right (by simp)
   have hRec:=fun bv'=>hrec bv' (bs ++ [ss.getD i nS]) (bl ++ [row]) (by simp [hbl]) hsn1 (by simp;omega)
   have hMul:=fun lv v1 v2 v3 v4=>FMul2_tr (TR (bl ++ [row])) c' lv v1 v2 v3 v4 hxF hfb
   have hAdd:=fun lv v1 v2 v3 v4=>FAdd2_tr (PF i) (TR (bl ++ [row]) * c') lv v1 v2 v3 v4 hFi hpb2
   rw [← hPs] at hAdd
   clear hPs hpb2 hfb hxF hxb hrec hFi hsn1
   generalize hm':TR (bl ++ [row]) * c' = m' at *
   generalize TR (bl ++ [row]) = x at *
   generalize hpn:PF (i + 1) = pn at *
   generalize PF i = p at *
   generalize ss.getD i nS = s1 at *
   unfold FQ2 at hMul hAdd
   repeat' first|(refine wo ?_;first|(refine ao ?_;first|refine oa ?_)|refine oa ?_|refine ln ?_)|(refine gc ?_;first|(refine ci (fun hB=>?_) (fun hB=>?_) <;> try (exfalso;omega)))|refine sq ?_|refine rg ?_|refine xc ?_|refine nl ?_|refine sk ?_|refine bk ?_
   refine cutY (ι:=TkC) (fun g=>g.n.oneCell' = true∧g.d.oneCell' = true) (fun g=>[(18,I i),(0,tv),(1,I k),(2,sv),(3,bv),(4,I most),(10,ptr c10),(16,ptr c),(19,ptr g.c),(20,.bool true)]) (fun g=>[pt g.c (rrow x (g.n,g.d)) TRt,own T64 g.n (Us (dg x.num.natAbs)),own T64 g.d (Us (dg x.den)),pt c10 [.bool false,nS,nS] TRt,pt c (rrow p (vn,vd)) TRt,own T64 vn (Us (dg p.num.natAbs)),own T64 vd (Us (dg p.den)),vw tv (Is t),vw sv ss,velg I ss S,vw bv bs,velg I bs bl]) ?_ ?_
   ·rintro ⟨c19,xn,xd⟩ ⟨hxn,hxd⟩
    dsimp only at hxn hxd ⊢
    repeat' first|(refine gca ?_;first|(refine ca (hCh s1) ?_ (hp:=has1 hasA (has1 (hH1 _ memA) has0));rintro _ _ ⟨cn,cd,rfl,hcn,hcd,rfl⟩)|(refine ca (hMul _ xn xd cn cd) ?_ (hp:=has1 (has_oww memA) (has1 hasA (has1 hasA (has1 hasA (has1 hasA has0)))));rintro _ _ ⟨mn,md,rfl,hmn,hmd,rfl⟩)|(refine ca (hAdd _ vn vd mn md) ?_ (hp:=has1 (has_oww memA) (has1 hasA (has1 hasA (has1 hasA (has1 hasA has0)))));rintro _ _ ⟨an,ad,rfl,han,had,rfl⟩))|refine le (xs:=ss) ?_ (hj:=hs1)|refine al fun c2=>?_|refine srz ?_|refine srz ?_ (hj:=Nat.le_of_ble_eq_true rfl)|refine lda ?_|refine slws (sz:=3) (xs:=rrow x (xn,xd) ++ rrow c' (cn,cd)) fun g2=>?_|refine slws (sz:=3) (xs:=rrow p (vn,vd) ++ rrow m' (mn,md)) fun g3=>?_|(refine wo ?_;first|(refine ao ?_;first|refine aw ?_|refine oa ?_)|refine oa ?_|refine ixn ?_|refine gy ?_)|(refine gc ?_;first|refine cf ?_)|refine sq ?_|refine rg ?_|refine xc ?_|refine nl ?_|refine sk ?_|refine xb ?_
    exact lp ⟨i + 1,an,ad⟩ ⟨hlt,han,had⟩ (hf:=by dsimp only;rw [hpn];exact fitA)
   ·intro b' kb
    refine rs (fun w=>Sl w sv ss) ?_ (fun w hw=>has_sl (xs:=ss) hw hasA)
    refine tka 0 ?_
    refine tka 1 ?_
    refine tka 2 ?_
    refine tka 4 ?_
    refine tka 6 ?_
    refine tka 7 ?_
    refine tk 8 (v:=.pointer (some (addrAt sv i))) (fun w h=>R_idx (E:=env) (i:=(i:Int)) rfl rfl rfl rfl h ⟨by omega,by omega⟩) ?_
    refine tk 9 (v:=s1) (fun w h=>R_load (E:=env) rfl rfl rfl (h.cell hs1)) ?_
    refine tka 12 ?_
    refine t3 3 10 17 ?_ ?_ ?_
    ·refine sl0 fun q0=>?_
     refine nl ?_
     refine te (fun w hw=>has_sl (xs:=ss) hw hasA) ?_
     refine t3 5 10 17 ?_ ?_ ?_
     ·refine ap (xs:=[]) (news:=bs) (fun o2=>?_) (h1:=hbo)
      refine nl ?_
      refine te (fun w hw=>has_sl (xs:=ss) hw hasA) ?_
      refine t2 10 17 ?_ ?_
      ·refine sli (vs:=[s1]) (fun q1=>?_) (h1:=one_cons hs1o one_nil)
       refine nl ?_
       refine te (fun w hw=>has_sl (xs:=ss) hw hasA) ?_
       refine t2 11 17 ?_ ?_
       ·refine ap (xs:=[] ++ bs) (news:=[s1]) (fun o3=>?_) (h1:=one_cons hs1o one_nil)
        refine TO.one (v:=o3) (xs:=([] ++ bs) ++ [s1]) fun ho3=>?_
        refine nl ?_
        refine te (fun w hw=>has_sl (xs:=ss) hw hasA) ?_
        refine t2 13 17 ?_ ?_
        ·refine ca (hRec o3) ?_ (hp:=has1 hasA (has1 hasA (has1 (has_velg memA) (has1 hasA (has1 (has_velg_sn hbl (has_velg memA) (hH1 _ memA)) has0)))))
         rintro _ _ ⟨xn,xd,rfl,hxn,hxd,rfl⟩
         refine nl ?_
         refine te (fun w hw=>has_sl (xs:=ss) hw hasA) ?_
         refine tka 14 ?_
         refine tka 15 ?_
         refine tka 16 ?_
         refine t1 17 ?_
         refine al fun c19=>?_
         refine nl ?_
         refine te (fun w hw=>has_sl (xs:=ss) hw hasA) ?_
         refine t1 18 ?_
         refine srz ?_
         refine nl ?_
         refine te (fun w hw=>has_sl (xs:=ss) hw hasA) ?_
         refine tka 19 ?_
         refine t0 ?_
         repeat' first|refine xc ?_
         exact kb ⟨c19,xn,xd⟩ ⟨hxn,hxd⟩ _ _ (by (repeat (refine Sub.cons rfl (by first | rfl | go_num) ?_));exact Sub.nil) fitA
        ·refine al fun c19=>?_
         refine nl ?_
         refine te (fun w hw=>has_sl (xs:=ss) hw hasA) ?_
         refine t1 13 ?_
         refine ca (hRec o3) ?_ (hp:=has1 hasA (has1 hasA (has1 (has_velg memA) (has1 hasA (has1 (has_velg_sn hbl (has_velg memA) (hH1 _ memA)) has0)))))
         rintro _ _ ⟨xn,xd,rfl,hxn,hxd,rfl⟩
         refine nl ?_
         refine te (fun w hw=>has_sl (xs:=ss) hw hasA) ?_
         refine tka 14 ?_
         refine tka 15 ?_
         refine tka 16 ?_
         refine t1 18 ?_
         refine srz ?_
         refine nl ?_
         refine te (fun w hw=>has_sl (xs:=ss) hw hasA) ?_
         refine tka 19 ?_
         refine t0 ?_
         repeat' first|refine xc ?_
         exact kb ⟨c19,xn,xd⟩ ⟨hxn,hxd⟩ _ _ (by (repeat (refine Sub.cons rfl (by first | rfl | go_num) ?_));exact Sub.nil) fitA
       ·refine al fun c19=>?_
        refine nl ?_
        refine te (fun w hw=>has_sl (xs:=ss) hw hasA) ?_
        refine t1 11 ?_
        refine ap (xs:=[] ++ bs) (news:=[s1]) (fun o3=>?_) (h1:=one_cons hs1o one_nil)
        refine TO.one (v:=o3) (xs:=([] ++ bs) ++ [s1]) fun ho3=>?_
        refine nl ?_
        refine te (fun w hw=>has_sl (xs:=ss) hw hasA) ?_
        refine t1 13 ?_
        refine ca (hRec o3) ?_ (hp:=has1 hasA (has1 hasA (has1 (has_velg memA) (has1 hasA (has1 (has_velg_sn hbl (has_velg memA) (hH1 _ memA)) has0)))))
        rintro _ _ ⟨xn,xd,rfl,hxn,hxd,rfl⟩
        refine nl ?_
        refine te (fun w hw=>has_sl (xs:=ss) hw hasA) ?_
        refine tka 14 ?_
        refine tka 15 ?_
        refine tka 16 ?_
        refine t1 18 ?_
        refine srz ?_
        refine nl ?_
        refine te (fun w hw=>has_sl (xs:=ss) hw hasA) ?_
        refine tka 19 ?_
        refine t0 ?_
        repeat' first|refine xc ?_
        exact kb ⟨c19,xn,xd⟩ ⟨hxn,hxd⟩ _ _ (by (repeat (refine Sub.cons rfl (by first | rfl | go_num) ?_));exact Sub.nil) fitA
      ·refine al fun c19=>?_
       refine nl ?_
       refine te (fun w hw=>has_sl (xs:=ss) hw hasA) ?_
       refine t1 10 ?_
       refine sli (vs:=[s1]) (fun q1=>?_) (h1:=one_cons hs1o one_nil)
       refine nl ?_
       refine te (fun w hw=>has_sl (xs:=ss) hw hasA) ?_
       refine t1 11 ?_
       refine ap (xs:=[] ++ bs) (news:=[s1]) (fun o3=>?_) (h1:=one_cons hs1o one_nil)
       refine TO.one (v:=o3) (xs:=([] ++ bs) ++ [s1]) fun ho3=>?_
       refine nl ?_
       refine te (fun w hw=>has_sl (xs:=ss) hw hasA) ?_
       refine t1 13 ?_
       refine ca (hRec o3) ?_ (hp:=has1 hasA (has1 hasA (has1 (has_velg memA) (has1 hasA (has1 (has_velg_sn hbl (has_velg memA) (hH1 _ memA)) has0)))))
       rintro _ _ ⟨xn,xd,rfl,hxn,hxd,rfl⟩
       refine nl ?_
       refine te (fun w hw=>has_sl (xs:=ss) hw hasA) ?_
       refine tka 14 ?_
       refine tka 15 ?_
       refine tka 16 ?_
       refine t1 18 ?_
       refine srz ?_
       refine nl ?_
       refine te (fun w hw=>has_sl (xs:=ss) hw hasA) ?_
       refine tka 19 ?_
       refine t0 ?_
       repeat' first|refine xc ?_
       exact kb ⟨c19,xn,xd⟩ ⟨hxn,hxd⟩ _ _ (by (repeat (refine Sub.cons rfl (by first | rfl | go_num) ?_));exact Sub.nil) fitA
     ·refine sli (vs:=[s1]) (fun q1=>?_) (h1:=one_cons hs1o one_nil)
      refine nl ?_
      refine te (fun w hw=>has_sl (xs:=ss) hw hasA) ?_
      refine t2 5 17 ?_ ?_
      ·refine ap (xs:=[]) (news:=bs) (fun o2=>?_) (h1:=hbo)
       refine nl ?_
       refine te (fun w hw=>has_sl (xs:=ss) hw hasA) ?_
       refine t2 11 17 ?_ ?_
       ·refine ap (xs:=[] ++ bs) (news:=[s1]) (fun o3=>?_) (h1:=one_cons hs1o one_nil)
        refine TO.one (v:=o3) (xs:=([] ++ bs) ++ [s1]) fun ho3=>?_
        refine nl ?_
        refine te (fun w hw=>has_sl (xs:=ss) hw hasA) ?_
        refine t2 13 17 ?_ ?_
        ·refine ca (hRec o3) ?_ (hp:=has1 hasA (has1 hasA (has1 (has_velg memA) (has1 hasA (has1 (has_velg_sn hbl (has_velg memA) (hH1 _ memA)) has0)))))
         rintro _ _ ⟨xn,xd,rfl,hxn,hxd,rfl⟩
         refine nl ?_
         refine te (fun w hw=>has_sl (xs:=ss) hw hasA) ?_
         refine tka 14 ?_
         refine tka 15 ?_
         refine tka 16 ?_
         refine t1 17 ?_
         refine al fun c19=>?_
         refine nl ?_
         refine te (fun w hw=>has_sl (xs:=ss) hw hasA) ?_
         refine t1 18 ?_
         refine srz ?_
         refine nl ?_
         refine te (fun w hw=>has_sl (xs:=ss) hw hasA) ?_
         refine tka 19 ?_
         refine t0 ?_
         repeat' first|refine xc ?_
         exact kb ⟨c19,xn,xd⟩ ⟨hxn,hxd⟩ _ _ (by (repeat (refine Sub.cons rfl (by first | rfl | go_num) ?_));exact Sub.nil) fitA
        ·refine al fun c19=>?_
         refine nl ?_
         refine te (fun w hw=>has_sl (xs:=ss) hw hasA) ?_
         refine t1 13 ?_
         refine ca (hRec o3) ?_ (hp:=has1 hasA (has1 hasA (has1 (has_velg memA) (has1 hasA (has1 (has_velg_sn hbl (has_velg memA) (hH1 _ memA)) has0)))))
         rintro _ _ ⟨xn,xd,rfl,hxn,hxd,rfl⟩
         refine nl ?_
         refine te (fun w hw=>has_sl (xs:=ss) hw hasA) ?_
         refine tka 14 ?_
         refine tka 15 ?_
         refine tka 16 ?_
         refine t1 18 ?_
         refine srz ?_
         refine nl ?_
         refine te (fun w hw=>has_sl (xs:=ss) hw hasA) ?_
         refine tka 19 ?_
         refine t0 ?_
         repeat' first|refine xc ?_
         exact kb ⟨c19,xn,xd⟩ ⟨hxn,hxd⟩ _ _ (by (repeat (refine Sub.cons rfl (by first | rfl | go_num) ?_));exact Sub.nil) fitA
       ·refine al fun c19=>?_
        refine nl ?_
        refine te (fun w hw=>has_sl (xs:=ss) hw hasA) ?_
        refine t1 11 ?_
        refine ap (xs:=[] ++ bs) (news:=[s1]) (fun o3=>?_) (h1:=one_cons hs1o one_nil)
        refine TO.one (v:=o3) (xs:=([] ++ bs) ++ [s1]) fun ho3=>?_
        refine nl ?_
        refine te (fun w hw=>has_sl (xs:=ss) hw hasA) ?_
        refine t1 13 ?_
        refine ca (hRec o3) ?_ (hp:=has1 hasA (has1 hasA (has1 (has_velg memA) (has1 hasA (has1 (has_velg_sn hbl (has_velg memA) (hH1 _ memA)) has0)))))
        rintro _ _ ⟨xn,xd,rfl,hxn,hxd,rfl⟩
        refine nl ?_
        refine te (fun w hw=>has_sl (xs:=ss) hw hasA) ?_
        refine tka 14 ?_
        refine tka 15 ?_
        refine tka 16 ?_
        refine t1 18 ?_
        refine srz ?_
        refine nl ?_
        refine te (fun w hw=>has_sl (xs:=ss) hw hasA) ?_
        refine tka 19 ?_
        refine t0 ?_
        repeat' first|refine xc ?_
        exact kb ⟨c19,xn,xd⟩ ⟨hxn,hxd⟩ _ _ (by (repeat (refine Sub.cons rfl (by first | rfl | go_num) ?_));exact Sub.nil) fitA
      ·refine al fun c19=>?_
       refine nl ?_
       refine te (fun w hw=>has_sl (xs:=ss) hw hasA) ?_
       refine t1 5 ?_
       refine ap (xs:=[]) (news:=bs) (fun o2=>?_) (h1:=hbo)
       refine nl ?_
       refine te (fun w hw=>has_sl (xs:=ss) hw hasA) ?_
       refine t1 11 ?_
       refine ap (xs:=[] ++ bs) (news:=[s1]) (fun o3=>?_) (h1:=one_cons hs1o one_nil)
       refine TO.one (v:=o3) (xs:=([] ++ bs) ++ [s1]) fun ho3=>?_
       refine nl ?_
       refine te (fun w hw=>has_sl (xs:=ss) hw hasA) ?_
       refine t1 13 ?_
       refine ca (hRec o3) ?_ (hp:=has1 hasA (has1 hasA (has1 (has_velg memA) (has1 hasA (has1 (has_velg_sn hbl (has_velg memA) (hH1 _ memA)) has0)))))
       rintro _ _ ⟨xn,xd,rfl,hxn,hxd,rfl⟩
       refine nl ?_
       refine te (fun w hw=>has_sl (xs:=ss) hw hasA) ?_
       refine tka 14 ?_
       refine tka 15 ?_
       refine tka 16 ?_
       refine t1 18 ?_
       refine srz ?_
       refine nl ?_
       refine te (fun w hw=>has_sl (xs:=ss) hw hasA) ?_
       refine tka 19 ?_
       refine t0 ?_
       repeat' first|refine xc ?_
       exact kb ⟨c19,xn,xd⟩ ⟨hxn,hxd⟩ _ _ (by (repeat (refine Sub.cons rfl (by first | rfl | go_num) ?_));exact Sub.nil) fitA
     ·refine al fun c19=>?_
      refine nl ?_
      refine te (fun w hw=>has_sl (xs:=ss) hw hasA) ?_
      refine t2 5 10 ?_ ?_
      ·refine ap (xs:=[]) (news:=bs) (fun o2=>?_) (h1:=hbo)
       refine nl ?_
       refine te (fun w hw=>has_sl (xs:=ss) hw hasA) ?_
       refine t1 10 ?_
       refine sli (vs:=[s1]) (fun q1=>?_) (h1:=one_cons hs1o one_nil)
       refine nl ?_
       refine te (fun w hw=>has_sl (xs:=ss) hw hasA) ?_
       refine t1 11 ?_
       refine ap (xs:=[] ++ bs) (news:=[s1]) (fun o3=>?_) (h1:=one_cons hs1o one_nil)
       refine TO.one (v:=o3) (xs:=([] ++ bs) ++ [s1]) fun ho3=>?_
       refine nl ?_
       refine te (fun w hw=>has_sl (xs:=ss) hw hasA) ?_
       refine t1 13 ?_
       refine ca (hRec o3) ?_ (hp:=has1 hasA (has1 hasA (has1 (has_velg memA) (has1 hasA (has1 (has_velg_sn hbl (has_velg memA) (hH1 _ memA)) has0)))))
       rintro _ _ ⟨xn,xd,rfl,hxn,hxd,rfl⟩
       refine nl ?_
       refine te (fun w hw=>has_sl (xs:=ss) hw hasA) ?_
       refine tka 14 ?_
       refine tka 15 ?_
       refine tka 16 ?_
       refine t1 18 ?_
       refine srz ?_
       refine nl ?_
       refine te (fun w hw=>has_sl (xs:=ss) hw hasA) ?_
       refine tka 19 ?_
       refine t0 ?_
       repeat' first|refine xc ?_
       exact kb ⟨c19,xn,xd⟩ ⟨hxn,hxd⟩ _ _ (by (repeat (refine Sub.cons rfl (by first | rfl | go_num) ?_));exact Sub.nil) fitA
      ·refine sli (vs:=[s1]) (fun q1=>?_) (h1:=one_cons hs1o one_nil)
       refine nl ?_
       refine te (fun w hw=>has_sl (xs:=ss) hw hasA) ?_
       refine t1 5 ?_
       refine ap (xs:=[]) (news:=bs) (fun o2=>?_) (h1:=hbo)
       refine nl ?_
       refine te (fun w hw=>has_sl (xs:=ss) hw hasA) ?_
       refine t1 11 ?_
       refine ap (xs:=[] ++ bs) (news:=[s1]) (fun o3=>?_) (h1:=one_cons hs1o one_nil)
       refine TO.one (v:=o3) (xs:=([] ++ bs) ++ [s1]) fun ho3=>?_
       refine nl ?_
       refine te (fun w hw=>has_sl (xs:=ss) hw hasA) ?_
       refine t1 13 ?_
       refine ca (hRec o3) ?_ (hp:=has1 hasA (has1 hasA (has1 (has_velg memA) (has1 hasA (has1 (has_velg_sn hbl (has_velg memA) (hH1 _ memA)) has0)))))
       rintro _ _ ⟨xn,xd,rfl,hxn,hxd,rfl⟩
       refine nl ?_
       refine te (fun w hw=>has_sl (xs:=ss) hw hasA) ?_
       refine tka 14 ?_
       refine tka 15 ?_
       refine tka 16 ?_
       refine t1 18 ?_
       refine srz ?_
       refine nl ?_
       refine te (fun w hw=>has_sl (xs:=ss) hw hasA) ?_
       refine tka 19 ?_
       refine t0 ?_
       repeat' first|refine xc ?_
       exact kb ⟨c19,xn,xd⟩ ⟨hxn,hxd⟩ _ _ (by (repeat (refine Sub.cons rfl (by first | rfl | go_num) ?_));exact Sub.nil) fitA
    ·refine sli (vs:=[s1]) (fun q1=>?_) (h1:=one_cons hs1o one_nil)
     refine nl ?_
     refine te (fun w hw=>has_sl (xs:=ss) hw hasA) ?_
     refine t2 3 17 ?_ ?_
     ·refine sl0 fun q0=>?_
      refine nl ?_
      refine te (fun w hw=>has_sl (xs:=ss) hw hasA) ?_
      refine t2 5 17 ?_ ?_
      ·refine ap (xs:=[]) (news:=bs) (fun o2=>?_) (h1:=hbo)
       refine nl ?_
       refine te (fun w hw=>has_sl (xs:=ss) hw hasA) ?_
       refine t2 11 17 ?_ ?_
       ·refine ap (xs:=[] ++ bs) (news:=[s1]) (fun o3=>?_) (h1:=one_cons hs1o one_nil)
        refine TO.one (v:=o3) (xs:=([] ++ bs) ++ [s1]) fun ho3=>?_
        refine nl ?_
        refine te (fun w hw=>has_sl (xs:=ss) hw hasA) ?_
        refine t2 13 17 ?_ ?_
        ·refine ca (hRec o3) ?_ (hp:=has1 hasA (has1 hasA (has1 (has_velg memA) (has1 hasA (has1 (has_velg_sn hbl (has_velg memA) (hH1 _ memA)) has0)))))
         rintro _ _ ⟨xn,xd,rfl,hxn,hxd,rfl⟩
         refine nl ?_
         refine te (fun w hw=>has_sl (xs:=ss) hw hasA) ?_
         refine tka 14 ?_
         refine tka 15 ?_
         refine tka 16 ?_
         refine t1 17 ?_
         refine al fun c19=>?_
         refine nl ?_
         refine te (fun w hw=>has_sl (xs:=ss) hw hasA) ?_
         refine t1 18 ?_
         refine srz ?_
         refine nl ?_
         refine te (fun w hw=>has_sl (xs:=ss) hw hasA) ?_
         refine tka 19 ?_
         refine t0 ?_
         repeat' first|refine xc ?_
         exact kb ⟨c19,xn,xd⟩ ⟨hxn,hxd⟩ _ _ (by (repeat (refine Sub.cons rfl (by first | rfl | go_num) ?_));exact Sub.nil) fitA
        ·refine al fun c19=>?_
         refine nl ?_
         refine te (fun w hw=>has_sl (xs:=ss) hw hasA) ?_
         refine t1 13 ?_
         refine ca (hRec o3) ?_ (hp:=has1 hasA (has1 hasA (has1 (has_velg memA) (has1 hasA (has1 (has_velg_sn hbl (has_velg memA) (hH1 _ memA)) has0)))))
         rintro _ _ ⟨xn,xd,rfl,hxn,hxd,rfl⟩
         refine nl ?_
         refine te (fun w hw=>has_sl (xs:=ss) hw hasA) ?_
         refine tka 14 ?_
         refine tka 15 ?_
         refine tka 16 ?_
         refine t1 18 ?_
         refine srz ?_
         refine nl ?_
         refine te (fun w hw=>has_sl (xs:=ss) hw hasA) ?_
         refine tka 19 ?_
         refine t0 ?_
         repeat' first|refine xc ?_
         exact kb ⟨c19,xn,xd⟩ ⟨hxn,hxd⟩ _ _ (by (repeat (refine Sub.cons rfl (by first | rfl | go_num) ?_));exact Sub.nil) fitA
       ·refine al fun c19=>?_
        refine nl ?_
        refine te (fun w hw=>has_sl (xs:=ss) hw hasA) ?_
        refine t1 11 ?_
        refine ap (xs:=[] ++ bs) (news:=[s1]) (fun o3=>?_) (h1:=one_cons hs1o one_nil)
        refine TO.one (v:=o3) (xs:=([] ++ bs) ++ [s1]) fun ho3=>?_
        refine nl ?_
        refine te (fun w hw=>has_sl (xs:=ss) hw hasA) ?_
        refine t1 13 ?_
        refine ca (hRec o3) ?_ (hp:=has1 hasA (has1 hasA (has1 (has_velg memA) (has1 hasA (has1 (has_velg_sn hbl (has_velg memA) (hH1 _ memA)) has0)))))
        rintro _ _ ⟨xn,xd,rfl,hxn,hxd,rfl⟩
        refine nl ?_
        refine te (fun w hw=>has_sl (xs:=ss) hw hasA) ?_
        refine tka 14 ?_
        refine tka 15 ?_
        refine tka 16 ?_
        refine t1 18 ?_
        refine srz ?_
        refine nl ?_
        refine te (fun w hw=>has_sl (xs:=ss) hw hasA) ?_
        refine tka 19 ?_
        refine t0 ?_
        repeat' first|refine xc ?_
        exact kb ⟨c19,xn,xd⟩ ⟨hxn,hxd⟩ _ _ (by (repeat (refine Sub.cons rfl (by first | rfl | go_num) ?_));exact Sub.nil) fitA
      ·refine al fun c19=>?_
       refine nl ?_
       refine te (fun w hw=>has_sl (xs:=ss) hw hasA) ?_
       refine t1 5 ?_
       refine ap (xs:=[]) (news:=bs) (fun o2=>?_) (h1:=hbo)
       refine nl ?_
       refine te (fun w hw=>has_sl (xs:=ss) hw hasA) ?_
       refine t1 11 ?_
       refine ap (xs:=[] ++ bs) (news:=[s1]) (fun o3=>?_) (h1:=one_cons hs1o one_nil)
       refine TO.one (v:=o3) (xs:=([] ++ bs) ++ [s1]) fun ho3=>?_
       refine nl ?_
       refine te (fun w hw=>has_sl (xs:=ss) hw hasA) ?_
       refine t1 13 ?_
       refine ca (hRec o3) ?_ (hp:=has1 hasA (has1 hasA (has1 (has_velg memA) (has1 hasA (has1 (has_velg_sn hbl (has_velg memA) (hH1 _ memA)) has0)))))
       rintro _ _ ⟨xn,xd,rfl,hxn,hxd,rfl⟩
       refine nl ?_
       refine te (fun w hw=>has_sl (xs:=ss) hw hasA) ?_
       refine tka 14 ?_
       refine tka 15 ?_
       refine tka 16 ?_
       refine t1 18 ?_
       refine srz ?_
       refine nl ?_
       refine te (fun w hw=>has_sl (xs:=ss) hw hasA) ?_
       refine tka 19 ?_
       refine t0 ?_
       repeat' first|refine xc ?_
       exact kb ⟨c19,xn,xd⟩ ⟨hxn,hxd⟩ _ _ (by (repeat (refine Sub.cons rfl (by first | rfl | go_num) ?_));exact Sub.nil) fitA
     ·refine al fun c19=>?_
      refine nl ?_
      refine te (fun w hw=>has_sl (xs:=ss) hw hasA) ?_
      refine t1 3 ?_
      refine sl0 fun q0=>?_
      refine nl ?_
      refine te (fun w hw=>has_sl (xs:=ss) hw hasA) ?_
      refine t1 5 ?_
      refine ap (xs:=[]) (news:=bs) (fun o2=>?_) (h1:=hbo)
      refine nl ?_
      refine te (fun w hw=>has_sl (xs:=ss) hw hasA) ?_
      refine t1 11 ?_
      refine ap (xs:=[] ++ bs) (news:=[s1]) (fun o3=>?_) (h1:=one_cons hs1o one_nil)
      refine TO.one (v:=o3) (xs:=([] ++ bs) ++ [s1]) fun ho3=>?_
      refine nl ?_
      refine te (fun w hw=>has_sl (xs:=ss) hw hasA) ?_
      refine t1 13 ?_
      refine ca (hRec o3) ?_ (hp:=has1 hasA (has1 hasA (has1 (has_velg memA) (has1 hasA (has1 (has_velg_sn hbl (has_velg memA) (hH1 _ memA)) has0)))))
      rintro _ _ ⟨xn,xd,rfl,hxn,hxd,rfl⟩
      refine nl ?_
      refine te (fun w hw=>has_sl (xs:=ss) hw hasA) ?_
      refine tka 14 ?_
      refine tka 15 ?_
      refine tka 16 ?_
      refine t1 18 ?_
      refine srz ?_
      refine nl ?_
      refine te (fun w hw=>has_sl (xs:=ss) hw hasA) ?_
      refine tka 19 ?_
      refine t0 ?_
      repeat' first|refine xc ?_
      exact kb ⟨c19,xn,xd⟩ ⟨hxn,hxd⟩ _ _ (by (repeat (refine Sub.cons rfl (by first | rfl | go_num) ?_));exact Sub.nil) fitA
    ·refine al fun c19=>?_
     refine nl ?_
     refine te (fun w hw=>has_sl (xs:=ss) hw hasA) ?_
     refine t2 3 10 ?_ ?_
     ·refine sl0 fun q0=>?_
      refine nl ?_
      refine te (fun w hw=>has_sl (xs:=ss) hw hasA) ?_
      refine t2 5 10 ?_ ?_
      ·refine ap (xs:=[]) (news:=bs) (fun o2=>?_) (h1:=hbo)
       refine nl ?_
       refine te (fun w hw=>has_sl (xs:=ss) hw hasA) ?_
       refine t1 10 ?_
       refine sli (vs:=[s1]) (fun q1=>?_) (h1:=one_cons hs1o one_nil)
       refine nl ?_
       refine te (fun w hw=>has_sl (xs:=ss) hw hasA) ?_
       refine t1 11 ?_
       refine ap (xs:=[] ++ bs) (news:=[s1]) (fun o3=>?_) (h1:=one_cons hs1o one_nil)
       refine TO.one (v:=o3) (xs:=([] ++ bs) ++ [s1]) fun ho3=>?_
       refine nl ?_
       refine te (fun w hw=>has_sl (xs:=ss) hw hasA) ?_
       refine t1 13 ?_
       refine ca (hRec o3) ?_ (hp:=has1 hasA (has1 hasA (has1 (has_velg memA) (has1 hasA (has1 (has_velg_sn hbl (has_velg memA) (hH1 _ memA)) has0)))))
       rintro _ _ ⟨xn,xd,rfl,hxn,hxd,rfl⟩
       refine nl ?_
       refine te (fun w hw=>has_sl (xs:=ss) hw hasA) ?_
       refine tka 14 ?_
       refine tka 15 ?_
       refine tka 16 ?_
       refine t1 18 ?_
       refine srz ?_
       refine nl ?_
       refine te (fun w hw=>has_sl (xs:=ss) hw hasA) ?_
       refine tka 19 ?_
       refine t0 ?_
       repeat' first|refine xc ?_
       exact kb ⟨c19,xn,xd⟩ ⟨hxn,hxd⟩ _ _ (by (repeat (refine Sub.cons rfl (by first | rfl | go_num) ?_));exact Sub.nil) fitA
      ·refine sli (vs:=[s1]) (fun q1=>?_) (h1:=one_cons hs1o one_nil)
       refine nl ?_
       refine te (fun w hw=>has_sl (xs:=ss) hw hasA) ?_
       refine t1 5 ?_
       refine ap (xs:=[]) (news:=bs) (fun o2=>?_) (h1:=hbo)
       refine nl ?_
       refine te (fun w hw=>has_sl (xs:=ss) hw hasA) ?_
       refine t1 11 ?_
       refine ap (xs:=[] ++ bs) (news:=[s1]) (fun o3=>?_) (h1:=one_cons hs1o one_nil)
       refine TO.one (v:=o3) (xs:=([] ++ bs) ++ [s1]) fun ho3=>?_
       refine nl ?_
       refine te (fun w hw=>has_sl (xs:=ss) hw hasA) ?_
       refine t1 13 ?_
       refine ca (hRec o3) ?_ (hp:=has1 hasA (has1 hasA (has1 (has_velg memA) (has1 hasA (has1 (has_velg_sn hbl (has_velg memA) (hH1 _ memA)) has0)))))
       rintro _ _ ⟨xn,xd,rfl,hxn,hxd,rfl⟩
       refine nl ?_
       refine te (fun w hw=>has_sl (xs:=ss) hw hasA) ?_
       refine tka 14 ?_
       refine tka 15 ?_
       refine tka 16 ?_
       refine t1 18 ?_
       refine srz ?_
       refine nl ?_
       refine te (fun w hw=>has_sl (xs:=ss) hw hasA) ?_
       refine tka 19 ?_
       refine t0 ?_
       repeat' first|refine xc ?_
       exact kb ⟨c19,xn,xd⟩ ⟨hxn,hxd⟩ _ _ (by (repeat (refine Sub.cons rfl (by first | rfl | go_num) ?_));exact Sub.nil) fitA
     ·refine sli (vs:=[s1]) (fun q1=>?_) (h1:=one_cons hs1o one_nil)
      refine nl ?_
      refine te (fun w hw=>has_sl (xs:=ss) hw hasA) ?_
      refine t1 3 ?_
      refine sl0 fun q0=>?_
      refine nl ?_
      refine te (fun w hw=>has_sl (xs:=ss) hw hasA) ?_
      refine t1 5 ?_
      refine ap (xs:=[]) (news:=bs) (fun o2=>?_) (h1:=hbo)
      refine nl ?_
      refine te (fun w hw=>has_sl (xs:=ss) hw hasA) ?_
      refine t1 11 ?_
      refine ap (xs:=[] ++ bs) (news:=[s1]) (fun o3=>?_) (h1:=one_cons hs1o one_nil)
      refine TO.one (v:=o3) (xs:=([] ++ bs) ++ [s1]) fun ho3=>?_
      refine nl ?_
      refine te (fun w hw=>has_sl (xs:=ss) hw hasA) ?_
      refine t1 13 ?_
      refine ca (hRec o3) ?_ (hp:=has1 hasA (has1 hasA (has1 (has_velg memA) (has1 hasA (has1 (has_velg_sn hbl (has_velg memA) (hH1 _ memA)) has0)))))
      rintro _ _ ⟨xn,xd,rfl,hxn,hxd,rfl⟩
      refine nl ?_
      refine te (fun w hw=>has_sl (xs:=ss) hw hasA) ?_
      refine tka 14 ?_
      refine tka 15 ?_
      refine tka 16 ?_
      refine t1 18 ?_
      refine srz ?_
      refine nl ?_
      refine te (fun w hw=>has_sl (xs:=ss) hw hasA) ?_
      refine tka 19 ?_
      refine t0 ?_
      repeat' first|refine xc ?_
      exact kb ⟨c19,xn,xd⟩ ⟨hxn,hxd⟩ _ _ (by (repeat (refine Sub.cons rfl (by first | rfl | go_num) ?_));exact Sub.nil) fitA
set_option maxHeartbeats 2000000 in
theorem CurveTruth_tr (tv:Value) (tbl:List Int) (kk nn:Int):Tr Tryz.prog 14 [tv,I kk,I nn] [vw tv (Is tbl)] [] fun v D=>v = .bool true∧D = []:=by
 have hpk:=pickM_in (x:=kk) (m:=3) (by decide)
 have hpn:=pickM_in (x:=nn) (m:=4) (by decide)
 have hpp:pick (pick kk 3) 5 = pick kk 3:=by
  rw [show pick (pick kk 3) 5 = (pick kk 3) % 5 from if_neg (by decide)];omega
 obtain ⟨k,hk⟩ : ∃ k:Nat,1 + pick (pick kk 3) 5 = k:=⟨(1 + pick (pick kk 3) 5).toNat,by omega⟩
 obtain ⟨n,hn⟩ : ∃ n:Nat,pick nn 4 = n:=⟨(pick nn 4).toNat,by omega⟩
 have hT:=small26_tr tv tbl (pick kk 3) k hk
 have hlen:=smlT_len 10 tbl k
 generalize smlT 10 tbl k = t at *
 have hC:=fun o=>SoCheck_tr o t k
 have h13:=@solE_13 t k
 by_cases hz:solE t k = 0
 rotate_left
 ·rw [h13 hz] at hC
  refine Tr.enter env _ Tryz.func14 (by kernel_rfl) rfl Tryz.ntmps14 rfl (by repeat (first | exact has00 | refine has01 ?_)) fun w0=>?_
  repeat' first|(refine gca ?_;first|(refine ca CurveKnown_tr ?_;rintro _ _ ⟨rfl,rfl⟩)|(refine ca (Pick_tr kk 3 (by decide)) ?_;rintro _ _ ⟨rfl,rfl⟩)|(refine ca (Pick_tr nn 4 (by decide)) ?_;rintro _ _ ⟨rfl,rfl⟩;rw [hn])|(refine ca hT ?_;rintro _ _ ⟨o,rfl,ho,rfl⟩)|(refine ca (hC o) ?_;rintro _ _ ⟨rfl,rfl⟩))|(refine wo ?_;first|(refine ao ?_;first|refine oa ?_)|refine oa ?_)|(refine gc ?_;first|refine ct ?_)|refine sq ?_|refine rg ?_|refine xc ?_|refine nl ?_|refine rt ?_
  exact r1 ⟨rfl,rfl⟩
 rw [hz] at hC
 have hk3:k ≤ 3:=by omega
 have hCv:=fun o ho=>Curve_ok o ho t k n hz (by omega) (by omega) (by omega)
 have hM:=fun o ho=>Mean_ok o ho t k n hz (by omega) (by omega) (by omega)
 have hcl:=curL_len t k (n + 1)
 have hget:=fun i (hi:i < n + 1)=>curL_get (t:=t) (k:=k) hi
 have hMF:=fun o (i:Nat) (hi:i < n + 1)=>MFail_tr o t k i (by omega) (by omega) (by omega)
 have hMv:=fun (i:Nat) (hi:i < n + 1)=>mass_at (t:=t) (k:=k) (i:=i) hz hk3 (by omega)
 have hSb:(setP t k t.length).length ≤ 4096:=by
  have h1:=setP_sum t k t.length
  have h2:=few_sets k (by omega) t.length (by omega)
  omega
 have hS:=fun o=>MSets_tr o t k
 rw [show setsW t k = (setP t k t.length,0) by unfold setsW;rw [if_pos hz,Int.toNat_natCast,if_neg (by omega)]] at hS
 have hTk:=fun o sv ss hss=>taken_tr o sv t k n ss hz (by omega) (by omega) hss hSb n nS [] [] rfl (by unfold stopE;rw [if_neg (by omega),if_neg (by simp)]) (by simp)
 rw [tk_mean hz n] at hTk
 have hSRm:=fun a b c d=>SameRatioT_tr (rqf (meanQ t k n)) a b c d
 unfold rqf at hSRm
 dsimp only at hS hSRm
 clear hz h13
 generalize setP t k t.length = S at *
 generalize meanQ t k n = mq at *
 unfold FQ2 at hM
 generalize curL t k (n + 1) = L at *
 generalize failQ t k = F at *
 have hn1:(n:Int) + 1 = ((n + 1:Nat):Int):=rfl
 refine Tr.enter env _ Tryz.func14 (by kernel_rfl) rfl Tryz.ntmps14 rfl (by repeat (first | exact has00 | refine has01 ?_)) fun w0=>?_
 repeat' first|(refine gca ?_;first|(refine ca CurveKnown_tr ?_;rintro _ _ ⟨rfl,rfl⟩)|(refine ca (Pick_tr kk 3 (by decide)) ?_;rintro _ _ ⟨rfl,rfl⟩)|(refine ca (Pick_tr nn 4 (by decide)) ?_;rintro _ _ ⟨rfl,rfl⟩;rw [hn])|(refine ca hT ?_;rintro _ _ ⟨o,rfl,ho,rfl⟩)|(refine ca (hC o) ?_;rintro _ _ ⟨rfl,rfl⟩)|(refine ca (hCv o ho) ?_;rintro _ _ ⟨lv,lh,rfl,hlv,hlh,rfl⟩))|refine lnw (v:=lv) (N:=n + 1) ?_ (hm:=has_oww memA)|(refine wo ?_;first|(refine ao ?_;first|refine aw ?_|refine oa ?_)|refine oa ?_|refine gy ?_)|(refine gc ?_;first|refine cf ?_|(refine cn (fun hB=>?_) (fun hB=>?_) <;> try (exfalso;omega)))|refine sq ?_|refine rg ?_|refine xc ?_|refine nl ?_|refine sk ?_|refine bk ?_
 refine TC.loop (ι:=Nat) (fun i=>[(10,I i)]) (fun _=>[]) (fun i=>i ≤ n + 1) (fun i=>n + 1 - i) 0 [0,1,2,7,8] (Nat.zero_le _) ?_
 rintro i hi
 by_cases hlt:i < n + 1
 ·have hr:=rcs_row (hs:=lh) (qs:=L) (by omega) (i:=i) (by omega)
  have hg:=fun (A:List Ch) (h:ofr lh L ∈ A)=>has_fr (has_ofr (hs:=lh) (qs:=L) (by omega) h) (by omega) (i:=i) (by omega)
  have hF1:=hMF o i hlt
  rw [hMv i hlt] at hF1
  rw [hget i hlt] at hr hg
  have hSR:=fun a b c d=>SameRatioT_tr (rqf (F i)) a b c d
  unfold rqf at hSR
  unfold FW at hF1
  dsimp only at hSR hF1
  clear hMF hMv hget hCv hM hTk hSRm hT
  generalize lh.getD i nS2 = hh at *
  generalize F i = q at *
  generalize rcs L lh = xs at *
  repeat' first|(refine gca ?_;first|(refine ca hF1 ?_;rintro _ _ ⟨m1,m2,rfl,hm1,hm2,rfl⟩))|refine al fun c=>?_|refine srz ?_|refine qlda ?_|refine qixws (v:=lv) (N:=n + 1) (xs:=xs) ?_ (hm:=has_oww memA)|refine qldaw (v:=lv) (m:=3 * i) (sz:=3) hr ?_ (hm:=has_oww memA)|(refine qca (v:=.bool true) (hSR m1 m2 hh.1 hh.2) (fun u D h=>h) ?_ (hp:=has1 hasA (has1 hasA (has1 (hg _ memA).1 (has1 (hg _ memA).2 has0)))))|(refine wo ?_;first|(refine ao ?_;first|refine aw ?_|refine oa ?_)|refine oa ?_)|(refine gc ?_;first|refine cf ?_|(refine ci (fun hB=>?_) (fun hB=>?_) <;> try (exfalso;omega)))|refine sq ?_|refine rg ?_|refine xc ?_|refine nl ?_|refine sk ?_|refine bk ?_|refine xb ?_|refine rq ?_|refine nq ?_|(refine wq ?_;first|(refine qao ?_;first|refine qa ?_)|refine qa ?_|refine qgy ?_)
  exact lp (i + 1) (by omega)
 ·obtain rfl:i = n + 1:=by omega
  clear hMF hMv hget hCv
  repeat' first|(refine gca ?_;first|(refine ca (hS o) ?_;rintro _ _ ⟨sv,ss,rfl,hsv,hss,rfl⟩)|(refine ca (hM o ho) ?_;rintro _ _ ⟨m1,m2,rfl,hm1,hm2,rfl⟩)|(refine ca (hTk o sv ss hss) ?_ (hp:=has1 hasA (has1 hasA (has1 (has_owl hss memA) (has1 hasA (has1 has_velg_nil has0)))));rintro _ _ ⟨k1,k2,rfl,hk1,hk2,rfl⟩)|(refine ca (hSRm m1 m2 k1 k2) ?_;rintro _ _ ⟨rfl,rfl⟩))|refine al fun c=>?_|refine srz ?_|refine lda ?_|(refine wo ?_;first|(refine ao ?_;first|refine oa ?_)|refine oa ?_|refine gy ?_)|(refine gc ?_;first|(refine ci (fun hB=>?_) (fun hB=>?_) <;> try (exfalso;omega)))|refine sq ?_|refine rg ?_|refine xc ?_|refine nl ?_|refine xe ?_|refine rt ?_
  exact r1 ⟨rfl,rfl⟩
end Go.Art
