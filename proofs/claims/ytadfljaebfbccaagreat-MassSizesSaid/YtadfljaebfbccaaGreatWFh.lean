/- Texts put together: Vj Vk Gp Ga Vl Rr Zj Vn Vq Rk Vu. Conditions: none. -/
import Derived.Test.YtadfljaebfbccaaGreatWFg
set_option linter.unusedSimpArgs false
set_option linter.unusedVariables false
namespace Go.Art
open Go Go.Proofs Go.RowKit
abbrev wts (L:List (List Int × Nat)):List (List Int):=L.map fun s=>Zs (dg s.2)
structure MsG where
 i:Nat
 o:Value
attribute [local irreducible] Fit pt own ro vw mpc lpt vels rels mow lrc dfr
attribute [local irreducible] lmp lme mit velg relg bnd owl natG
end Go.Art
namespace Go.Art
open Go Go.Proofs Go.RowKit
structure CoG where
 i:Nat
 ov:Value
 hs:List Value
 ls:List (List Int)
structure CiG where
 q:Nat
 hs:List Value
 ls:List (List Int)
structure CwG where
 i:Nat
 v:Value
attribute [local irreducible] Fit pt own ro vw mpc lpt vels rels mow lrc dfr
attribute [local irreducible] lmp lme mit velg relg bnd owl natG setP szL solE risR
end Go.Art
namespace Go.Art
open Go
structure RaI (t:List Int) (all:Int) (u:AlS) (dn:List Bool):Prop where
 ld:dn.length = t.length
 dr:∀ c:Nat,c < t.length→dn.getD c false = true→u.rest.getD c 0 < all
 B:∀ c:Nat,c < t.length→((c:Int) ∈ u.B ↔ dn.getD c false = false∧u.rest.getD c 0 < all)
 A:∀ c:Nat,c < t.length→((c:Int) ∈ u.A ↔ all < u.rest.getD c 0)
 sB:u.B.Pairwise (· ≤ ·)
 sA:u.A.Pairwise (· ≤ ·)
open Go Go.Proofs Go.RowKit
section
variable {P:Program} {E:Env P} {n:Sh} {X:Cx} {s:List K} {fr:Fr} {A A':List Ch} {ops:Array Oper} {rest:List Oper} {d:Nat} {ty t el:TypeId} {pos:String} {after:Array Edge} {v z:Value} {x y:Operand} {by_:Nat}
end
attribute [local irreducible] Fit pt own ro vw mpc lpt vels rels mow lrc dfr
attribute [local irreducible] lmp lme mit velg relg
structure RmG where
 u:AlS
 dn:List Bool
 i:Nat
end Go.Art
namespace Go.Art
open Go Go.Proofs Go.RowKit
structure RvG where
 i:Nat
 v1:Value
 v2:Value
 ss:List Value
 gs:List Value
attribute [local irreducible] Fit pt own ro vw mpc lpt vels rels mow lrc dfr
attribute [local irreducible] lmp lme mit velg relg bnd owl natG setP szL solE risR
end Go.Art
namespace Go.Art
open Go Go.Proofs Go.RowKit
attribute [local irreducible] Fit pt own ro vw mpc lpt vels rels mow lrc dfr
attribute [local irreducible] lmp lme mit velg relg bnd owl dfrl
theorem SameRowsT_tr (v u:Value) (hs hs2:List Value) (ls:List (List Int)) (hl:hs.length = ls.length) (hl2:hs2.length = ls.length):Tr Tryz.prog 14 [v,u] [vw v hs,velg I hs ls,vw u hs2,velg I hs2 ls] [] fun w D=>w = .bool true∧D = []:=by
 refine Tr.enter env _ Tryz.func14 (by kernel_rfl) rfl Tryz.ntmps14 rfl (by repeat (first | exact has00 | refine has01 ?_)) fun w0=>?_
 refine TC.fact (fun w hw=>vw_len (has_vw (F:=[vw v hs,velg I hs ls,vw u hs2,velg I hs2 ls] ++ []) (v:=v) (xs:=hs) memA) w hw) fun hll=>?_
 repeat' first|(refine wo ?_;first|(refine ao ?_;first|refine oa ?_)|refine oa ?_|refine ln ?_)|refine sq ?_|refine rg ?_|refine xc ?_|refine nl ?_|refine bk ?_
 refine TC.loop (ι:=Nat) (fun i=>[(6,I i),(5,.bool true)]) (fun _=>[]) (fun i=>i ≤ ls.length) (fun i=>ls.length - i) 0 [0,1] (Nat.zero_le _) ?_ (hs:=by rw [hl,hl2,show decide ((ls.length:Int) = ls.length) = true from decide_eq_true rfl];(repeat (refine Sub.cons rfl (by first | rfl | go_num) ?_));exact Sub.nil)
 rintro i hi
 by_cases hlt:i < ls.length
 ·have hg1:hs[i]? = some (hs.getD i nS):=by rw [List.getD_eq_getElem?_getD,List.getElem?_eq_getElem (by omega)];rfl
  have hg2:hs2[i]? = some (hs2.getD i nS):=by rw [List.getD_eq_getElem?_getD,List.getElem?_eq_getElem (by omega)];rfl
  have hS:=SameIntsT_tr (hs.getD i nS) (hs2.getD i nS) (ls.getD i [])
  repeat' first|refine qle (xs:=hs) ?_ (hj:=hg1)|refine qle (xs:=hs2) ?_ (hj:=hg2)|refine qca hS (v:=.bool true) (fun _ _ h=>h) ?_ (hp:=has1 (has_elg (g:=I) (hs:=hs) (ls:=ls) hasA hlt) (has1 (has_elg (g:=I) (hs:=hs2) (ls:=ls) hasA hlt) has0))|(refine wo ?_;first|(refine ao ?_;first|refine aw ?_|refine oa ?_)|refine oa ?_|refine ln ?_|refine gy ?_)|(refine gc ?_;first|(refine ci (fun hB=>?_) (fun hB=>?_) <;> try (exfalso;omega)))|refine sq ?_|refine rg ?_|refine xc ?_|refine nl ?_|refine sk ?_|refine bk ?_|refine xb ?_|refine rq ?_|refine nq ?_|(refine wq ?_;first|refine qa ?_|refine qixn ?_)
  exact lp (i + 1) hlt
 ·obtain rfl:i = ls.length:=by omega
  repeat' first|(refine wo ?_;first|(refine ao ?_;first|refine oa ?_)|refine oa ?_|refine ln ?_|refine gy ?_)|(refine gc ?_;first|(refine ci (fun hB=>?_) (fun hB=>?_) <;> try (exfalso;omega)))|refine sq ?_|refine rg ?_|refine xc ?_|refine nl ?_|refine xe ?_|refine rt ?_
  exact r1 ⟨rfl,rfl⟩
end Go.Art
namespace Go.Art
open Go Go.Proofs Go.RowKit
attribute [local irreducible] Fit pt own ro vw mpc lpt vels rels mow lrc dfr
attribute [local irreducible] lmp lme mit velg relg
end Go.Art
namespace Go.Art
open Go Go.Proofs Go.RowKit
theorem mass2:massW (failW 1) [1] 1 0 = (rqf (mkRat 1 1),0):=by rw [failW_fun];exact massW_ok (by decide) (by decide) (by decide) (by decide)
theorem sets1:setsW [1,3] 3 = ([[0],[1],[2],[0,1],[0,2],[1,2]],0):=by decide
attribute [local irreducible] Fit pt own ro vw mpc lpt vels rels mow lrc dfr
attribute [local irreducible] lmp lme mit velg relg bnd owl dfrl massW setsW massD
theorem is23_tr (t:Fr3) (e:Int) (n1 d1:Value) (x y:Nat) (hx:x < 9223372036854775808) (hy:y < 9223372036854775808) (hy0:y ≠ 0):Tr Tryz.prog 24 [.agg #[.bool t.1,n1,d1],I e,I x,I y] [vw n1 (Us t.2.1),vw d1 (Us t.2.2)] []
  fun v D=>v = .bool (decide (e = 0∧t = rqf (mkRat x y)))∧D = []:=by
 have hP:=FPair_tr x y hx hy hy0
 unfold FQ2 at hP
 have hl:0 < (dg (mkRat (x:Int) y).den).length:=by have:=dg_len_pos (mkRat (x:Int) y).den_nz;omega
 generalize mkRat (x:Int) y = q at *
 refine Tr.enter env _ Tryz.func24 (by kernel_rfl) rfl Tryz.ntmps24 rfl (by repeat (first | exact has00 | refine has01 ?_)) fun w0=>?_
 repeat' first|(refine gca ?_;first|(refine ca hP ?_;rintro _ _ ⟨vn,vd,rfl,hvn,hvd,rfl⟩)|(refine ca (SameRatio_tr t (rqf q) n1 d1 vn vd) ?_;rintro _ _ ⟨rfl,rfl⟩))|refine bx fun b1=>?_|refine al fun b2=>?_|refine lda ?_|refine srz ?_|(refine wo ?_;first|(refine ao ?_;first|refine oa ?_)|refine oa ?_|refine ld ?_|refine lnm ?_|refine gy ?_|refine gn ?_|(refine gsi (fun hB=>?_) (fun hB=>?_) <;> try (exfalso;omega)))|refine sq ?_|refine rg ?_|refine xc ?_|refine nl ?_|refine rt ?_
 ·refine r1 ⟨?_,rfl⟩
  congr 1;exact decide_eq_decide.2 ⟨fun h=>⟨by assumption,h⟩,fun h=>h.2⟩
 ·refine r1 ⟨?_,rfl⟩
  rw [decide_eq_false fun h=>absurd h.1 (by assumption)]
theorem fails23_tr (tv:Value) (t:List Int) (k n:Int) (x y:Nat) (hx:x < 9223372036854775808) (hy:y < 9223372036854775808) (hy0:y ≠ 0) (hl:t.length ≤ 12) (hk:k ≤ 40∨65536 < k) (hn:n ≤ 12∨4096 < n) (h:massW (failW k) t k n = (rqf (mkRat x y),0)) :
  Tr Tryz.prog 31 [tv,I k,I n,I x,I y] [vw tv (Is t)] [] fun v D=>v = .bool true∧D = []:=by
 have hF:=MFail_tr tv t k n hl hk hn
 rw [h] at hF
 have hI:=fun a b=>is23_tr (rqf (mkRat x y)) 0 a b x y hx hy hy0
 simp only [and_self,decide_true] at hI
 unfold FW at hF
 dsimp only at hF
 generalize mkRat (x:Int) y = q at *
 refine Tr.enter env _ Tryz.func31 (by kernel_rfl) rfl Tryz.ntmps31 rfl (by repeat (first | exact has00 | refine has01 ?_)) fun w0=>?_
 repeat' first|(refine gca ?_;first|(refine ca hF ?_;rintro _ _ ⟨vn,vd,rfl,hvn,hvd,rfl⟩)|(refine ca (hI vn vd) ?_;rintro _ _ ⟨rfl,rfl⟩))|refine al fun c=>?_|refine srz ?_|refine lda ?_|(refine wo ?_;first|refine oa ?_)|refine sq ?_|refine rg ?_|refine xc ?_|refine nl ?_|refine rt ?_
 exact r1 ⟨rfl,rfl⟩
theorem awake23_tr:Tr Tryz.prog 10 [] [] [] fun v D=>v = .bool true∧D = []:=by
 have hS:=fun s=>MSets_tr s [1,3] 3
 rw [sets1] at hS
 dsimp only at hS
 have hF1:=fun s=>fails23_tr s [1,1] 2 2 3 8 (by decide) (by decide) (by decide) (by decide) (by decide) (by decide) mass1
 have hF2:=fun s=>fails23_tr s [1] 1 0 1 1 (by decide) (by decide) (by decide) (by decide) (by decide) (by decide) mass2
 have hR:=fun v u hs v1 v2 v3 v4 v5 v6 hl=>SameRowsT_tr v u hs [v1,v2,v3,v4,v5,v6] [[0],[1],[2],[0,1],[0,2],[1,2]] hl rfl
 refine Tr.enter env _ Tryz.func10 (by kernel_rfl) rfl Tryz.ntmps10 rfl (by repeat (first | exact has00 | refine has01 ?_)) fun w0=>?_
 repeat' first|(refine gca ?_;first|(refine ca (hS _) ?_;rintro _ _ ⟨sv,ss,rfl,hsv,hsl,rfl⟩)|(refine ca (hF1 _) ?_;rintro _ _ ⟨rfl,rfl⟩)|(refine ca (hF2 _) ?_;rintro _ _ ⟨rfl,rfl⟩)|(refine ca (hR _ _ ss _ _ _ _ _ _ hsl) ?_ (hp:=has1 hasA (has1 (has_owl (e:=TLI) hsl memA) (has1 hasA (has1 (has_elg_cons hasA (has_elg_cons hasA (has_elg_cons hasA (has_elg_cons hasA (has_elg_cons hasA (has_elg_cons hasA has_elg_nil)))))) has0))));rintro _ _ ⟨rfl,rfl⟩))|refine slz fun v hv=>?_|refine slw fun v hv=>?_|(refine wo ?_;first|(refine ao ?_;first|refine oa ?_)|refine oa ?_|refine gy ?_)|refine sq ?_|refine rg ?_|refine xc ?_|refine nl ?_|refine rt ?_
 exact r1 ⟨rfl,rfl⟩
end Go.Art
namespace Go.Art
open Go Go.Proofs Go.RowKit
def smlT (m:Int) (tbl:List Int) (k:Nat):List Int:=(tbl.take k).map fun x=>pick x m
theorem smlT_zero (m:Int) (tbl:List Int):smlT m tbl 0 = []:=rfl
theorem smlT_succ {m:Int} {tbl:List Int} {i:Nat} (h:i < tbl.length):smlT m tbl (i + 1) = smlT m tbl i ++ [pick (tbl.getD i 0) m]:=by
 unfold smlT;rw [take_succ' h 0,List.map_append];rfl
theorem smlT_len (m:Int) (tbl:List Int) (k:Nat):(smlT m tbl k).length = min k tbl.length:=by unfold smlT;simp
theorem smlT_min (m:Int) (tbl:List Int) (k:Nat):smlT m tbl (min k tbl.length) = smlT m tbl k:=by
 unfold smlT
 congr 1
 rcases Nat.le_total k tbl.length with h | h
 ·rw [Nat.min_eq_left h]
 ·rw [Nat.min_eq_right h,List.take_length,List.take_of_length_le h]
theorem pickM_in {x m:Int} (h:1 ≤ m):0 ≤ pick x m∧pick x m < m:=by
 unfold pick
 rw [if_neg (by omega)]
 exact ⟨Int.emod_nonneg _ (by omega),Int.emod_lt_of_pos _ (by omega)⟩
attribute [local irreducible] Fit pt own ro vw mpc lpt vels rels mow lrc dfr
attribute [local irreducible] lmp lme mit velg relg bnd owl dfrl massW setsW massD smlT solE
theorem small23_tr (tv:Value) (tbl:List Int) (k:Nat) (hk:k ≤ 100):Tr Tryz.prog 18 [tv,I k] [vw tv (Is tbl)] [] fun u D=>∃ o,u = tup2 o (.bool (decide (solE (smlT 4 tbl k) k = 0)))∧o.oneCell' = true∧D = [own TLI o (Is (smlT 4 tbl k))]:=by
 have hC:=fun s=>SoCheck_tr s (smlT 4 tbl k) k
 refine Tr.enter env _ Tryz.func18 (by kernel_rfl) rfl Tryz.ntmps18 rfl (by repeat (first | exact has00 | refine has01 ?_)) fun w0=>?_
 refine TC.leni (v:=tv) (l:=tbl) fun htl=>?_
 refine TC.im (own_nil TLI _) ?_
 repeat' first|(refine wo ?_;first|(refine ao ?_;first|refine aw ?_|refine aw6 ?_|refine oa ?_|refine adiv ?_|refine amod ?_|refine shr1 ?_|refine shr ?_|refine umod ?_|refine isl ?_|refine ipe ?_|refine ipn ?_|refine ibe ?_)|refine acw ?_|refine ucv ?_|refine anw ?_|refine oa ?_|refine ld ?_|refine ldl ?_|refine lnm ?_|refine ixmn ?_|refine ixm ?_|refine li ?_|refine lb ?_|refine lv ?_|refine ln ?_|refine ixn ?_|refine ix ?_|refine le ?_|refine sr ?_|refine soi ?_|refine sob ?_|refine scm ?_|refine sclm ?_|refine schm ?_|refine gy ?_|refine gn ?_|refine gnn ?_|refine gu ?_|(refine gsi (fun hB=>?_) (fun hB=>?_) <;> try (exfalso;omega))|(refine gsn (fun hB=>?_) (fun hB=>?_) <;> try (exfalso;omega))|(refine gs (fun hB=>?_) (fun hB=>?_) <;> try (exfalso;omega)))|(refine gc ?_;first|refine ct ?_|refine cf ?_|(refine ci (fun hB=>?_) (fun hB=>?_) <;> try (exfalso;omega))|(refine cn (fun hB=>?_) (fun hB=>?_) <;> try (exfalso;omega))|(refine cb (fun hB=>?_) (fun hB=>?_) <;> try (exfalso;omega)))|refine sq ?_|refine rg ?_|refine xc ?_|refine nl ?_|refine sk ?_|refine bk ?_|refine xe ?_|refine rt ?_|refine xb ?_
 refine TC.loop (ι:=Nat × Value) (fun g=>[(7,I g.1),(6,g.2)]) (fun g=>[own TLI g.2 (Is (smlT 4 tbl g.1))]) (fun g=>g.1 ≤ k∧g.1 ≤ tbl.length∧g.2.oneCell' = true) (fun g=>k - g.1) (0,nS) [0,1] ⟨Nat.zero_le _,Nat.zero_le _,rfl⟩ ?_ (hf:=by dsimp only;rw [smlT_zero 4 tbl];exact fitA)
 rintro ⟨i,o⟩ ⟨h1,h2,ho⟩
 dsimp only at h1 h2 ho ⊢
 by_cases hlt:i < k∧i < tbl.length
 ·have hms:=smlT_succ (m:=4) hlt.2
  have hml:=smlT_len 4 tbl i
  clear hC
  generalize hy:tbl.getD i 0 = y at *
  repeat' first|(refine gca ?_;first|(refine ca (Pick_tr y 4 (by decide)) ?_;rintro _ _ ⟨rfl,rfl⟩))|refine lie hy ?_|refine slii [pick y 4] fun v1=>?_|(refine api (l:=smlT 4 tbl i) (news:=[pick y 4]) (fun o2=>?_) (hl:=by simp only [List.length_cons,List.length_nil];omega);refine TO.one (v:=o2) (xs:=Is (smlT 4 tbl i ++ [pick y 4])) fun ho2=>?_)|(refine wo ?_;first|(refine ao ?_;first|refine aw ?_|refine aw6 ?_|refine oa ?_|refine adiv ?_|refine amod ?_|refine shr1 ?_|refine shr ?_|refine umod ?_|refine isl ?_|refine ipe ?_|refine ipn ?_|refine ibe ?_)|refine acw ?_|refine ucv ?_|refine anw ?_|refine oa ?_|refine ld ?_|refine ldl ?_|refine lnm ?_|refine ixmn ?_|refine ixm ?_|refine li ?_|refine lb ?_|refine lv ?_|refine ln ?_|refine ixn ?_|refine ix ?_|refine le ?_|refine sr ?_|refine soi ?_|refine sob ?_|refine scm ?_|refine sclm ?_|refine schm ?_|refine gy ?_|refine gn ?_|refine gnn ?_|refine gu ?_|(refine gsi (fun hB=>?_) (fun hB=>?_) <;> try (exfalso;omega))|(refine gsn (fun hB=>?_) (fun hB=>?_) <;> try (exfalso;omega))|(refine gs (fun hB=>?_) (fun hB=>?_) <;> try (exfalso;omega)))|(refine gc ?_;first|refine ct ?_|refine cf ?_|(refine ci (fun hB=>?_) (fun hB=>?_) <;> try (exfalso;omega))|(refine cn (fun hB=>?_) (fun hB=>?_) <;> try (exfalso;omega))|(refine cb (fun hB=>?_) (fun hB=>?_) <;> try (exfalso;omega)))|refine sq ?_|refine rg ?_|refine xc ?_|refine nl ?_|refine sk ?_|refine bk ?_|refine xe ?_|refine rt ?_|refine xb ?_
  exact lp (i + 1,o2) ⟨hlt.1,hlt.2,ho2⟩ (hf:=by dsimp only;rw [hms];exact fitA)
 ·have hmi:smlT 4 tbl i = smlT 4 tbl k:=by rw [← smlT_min 4 tbl k];congr 1;omega
  rw [hmi]
  have hC1:=hC o
  generalize solE (smlT 4 tbl k) k = e at *
  repeat' first|(refine gca ?_;first|(refine ca hC1 ?_;rintro _ _ ⟨rfl,rfl⟩))|(refine wo ?_;first|(refine ao ?_;first|refine aw ?_|refine aw6 ?_|refine oa ?_|refine adiv ?_|refine amod ?_|refine shr1 ?_|refine shr ?_|refine umod ?_|refine isl ?_|refine ipe ?_|refine ipn ?_|refine ibe ?_)|refine acw ?_|refine ucv ?_|refine anw ?_|refine oa ?_|refine ld ?_|refine ldl ?_|refine lnm ?_|refine ixmn ?_|refine ixm ?_|refine li ?_|refine lb ?_|refine lv ?_|refine ln ?_|refine ixn ?_|refine ix ?_|refine le ?_|refine sr ?_|refine soi ?_|refine sob ?_|refine scm ?_|refine sclm ?_|refine schm ?_|refine gy ?_|refine gn ?_|refine gnn ?_|refine gu ?_|(refine gsi (fun hB=>?_) (fun hB=>?_) <;> try (exfalso;omega))|(refine gsn (fun hB=>?_) (fun hB=>?_) <;> try (exfalso;omega))|(refine gs (fun hB=>?_) (fun hB=>?_) <;> try (exfalso;omega)))|(refine gc ?_;first|refine ct ?_|refine cf ?_|(refine ci (fun hB=>?_) (fun hB=>?_) <;> try (exfalso;omega))|(refine cn (fun hB=>?_) (fun hB=>?_) <;> try (exfalso;omega))|(refine cb (fun hB=>?_) (fun hB=>?_) <;> try (exfalso;omega)))|refine sq ?_|refine rg ?_|refine xc ?_|refine nl ?_|refine sk ?_|refine bk ?_|refine xe ?_|refine rt ?_|refine xb ?_
  all_goals exact r2 ⟨o,rfl,ho,rfl⟩
end Go.Art
namespace Go.Art
open Go Go.Proofs Go.RowKit
theorem msk_take {l:List Int} {j:Nat} (h:j < l.length):msk (l.take (j + 1)) = msk (l.take j) + 2 ^ (l.getD j 0).toNat:=by
 unfold msk;rw [take_succ' h 0,List.map_append,List.sum_append];simp
theorem msk_zero (l:List Int):msk (l.take 0) = 0:=rfl
theorem msk_le (l:List Int) (j:Nat):msk (l.take j) ≤ msk l:=by
 conv=>rhs;rw [← List.take_append_drop j l]
 unfold msk;rw [List.map_append,List.sum_append];omega
theorem popK_succ (j a:Nat):popK (j + 1) a = popK j a + a / 2 ^ j % 2:=by
 unfold popK;rw [List.range_succ,List.map_append,List.sum_append];simp
theorem popK_zero (a:Nat):popK 0 a = 0:=rfl
theorem popK_le (a:Nat):∀ j,popK j a ≤ j
 | 0=>Nat.le_refl _
 | j + 1=>by rw [popK_succ];have:=popK_le a j;have:=Nat.mod_lt (a / 2 ^ j) (show 0 < 2 by decide);omega
def accL (k D:Nat) (L:List (List Int)) (i:Nat):List Rat:=(List.range (2 ^ k)).map fun a=>mkRat ((((L.take i).map (wtA k a)).sum:Nat):Int) D
structure ChG where
 i:Nat
 hs:List (Value × Value)
attribute [local irreducible] Fit pt own ro vw mpc lpt vels rels mow lrc dfr
attribute [local irreducible] lmp lme mit velg relg bnd owl madeT msk popK accL zrs
end Go.Art
namespace Go.Art
open Go Go.Proofs Go.RowKit
theorem ahead23_tr (v w:Value) (a b:List Int):Tr Tryz.prog 19 [v,w] [vw v (Is a),vw w (Is b)] [] fun u D=>u = .bool (aheadF a b)∧D = []:=by
 refine Tr.enter env _ Tryz.func19 (by kernel_rfl) rfl Tryz.ntmps19 rfl (by repeat (first | exact has00 | refine has01 ?_)) fun w0=>?_
 refine TC.leni (v:=v) (l:=a) fun hla=>?_
 refine TC.leni (v:=w) (l:=b) fun hlb=>?_
 by_cases hab:a.length = b.length
 rotate_left
 ·have hF:aheadF a b = decide ((a.length:Int) < b.length):=by
   unfold aheadF;rw [if_pos hab];exact decide_eq_decide.2 (by omega)
  repeat' first|(refine wo ?_;first|(refine ao ?_;first|refine aw ?_|refine aw6 ?_|refine oa ?_|refine adiv ?_|refine amod ?_|refine shr1 ?_|refine shr ?_|refine umod ?_|refine isl ?_|refine ipe ?_|refine ipn ?_|refine ibe ?_)|refine acw ?_|refine ucv ?_|refine anw ?_|refine oa ?_|refine ld ?_|refine ldl ?_|refine lnm ?_|refine ixmn ?_|refine ixm ?_|refine li ?_|refine lb ?_|refine lv ?_|refine ln ?_|refine ixn ?_|refine ix ?_|refine le ?_|refine sr ?_|refine soi ?_|refine sob ?_|refine scm ?_|refine sclm ?_|refine schm ?_|refine gy ?_|refine gn ?_|refine gnn ?_|refine gu ?_|(refine gsi (fun hB=>?_) (fun hB=>?_) <;> try (exfalso;omega))|(refine gsn (fun hB=>?_) (fun hB=>?_) <;> try (exfalso;omega))|(refine gs (fun hB=>?_) (fun hB=>?_) <;> try (exfalso;omega)))|(refine gc ?_;first|refine ct ?_|refine cf ?_|(refine ci (fun hB=>?_) (fun hB=>?_) <;> try (exfalso;omega))|(refine cn (fun hB=>?_) (fun hB=>?_) <;> try (exfalso;omega))|(refine cb (fun hB=>?_) (fun hB=>?_) <;> try (exfalso;omega)))|refine sq ?_|refine rg ?_|refine xc ?_|refine nl ?_|refine sk ?_|refine bk ?_|refine xe ?_|refine rt ?_|refine xb ?_
  exact r1 ⟨by rw [hF],rfl⟩
 have hF:aheadF a b = lexF a b:=by unfold aheadF;rw [if_neg (by omega)]
 rw [hF]
 clear hF
 repeat' first|(refine wo ?_;first|(refine ao ?_;first|refine aw ?_|refine aw6 ?_|refine oa ?_|refine adiv ?_|refine amod ?_|refine shr1 ?_|refine shr ?_|refine umod ?_|refine isl ?_|refine ipe ?_|refine ipn ?_|refine ibe ?_)|refine acw ?_|refine ucv ?_|refine anw ?_|refine oa ?_|refine ld ?_|refine ldl ?_|refine lnm ?_|refine ixmn ?_|refine ixm ?_|refine li ?_|refine lb ?_|refine lv ?_|refine ln ?_|refine ixn ?_|refine ix ?_|refine le ?_|refine sr ?_|refine soi ?_|refine sob ?_|refine scm ?_|refine sclm ?_|refine schm ?_|refine gy ?_|refine gn ?_|refine gnn ?_|refine gu ?_|(refine gsi (fun hB=>?_) (fun hB=>?_) <;> try (exfalso;omega))|(refine gsn (fun hB=>?_) (fun hB=>?_) <;> try (exfalso;omega))|(refine gs (fun hB=>?_) (fun hB=>?_) <;> try (exfalso;omega)))|(refine gc ?_;first|refine ct ?_|refine cf ?_|(refine ci (fun hB=>?_) (fun hB=>?_) <;> try (exfalso;omega))|(refine cn (fun hB=>?_) (fun hB=>?_) <;> try (exfalso;omega))|(refine cb (fun hB=>?_) (fun hB=>?_) <;> try (exfalso;omega)))|refine sq ?_|refine rg ?_|refine xc ?_|refine nl ?_|refine sk ?_|refine bk ?_|refine xe ?_|refine rt ?_|refine xb ?_
 refine TC.loop (ι:=Nat) (fun i=>[(5,I i)]) (fun _=>[]) (fun i=>i ≤ a.length∧lexF a b = lexF (a.drop i) (b.drop i)) (fun i=>a.length - i) 0 [0,1] ⟨Nat.zero_le _,rfl⟩ ?_
 rintro i ⟨hi,he⟩
 by_cases hlt:i < a.length
 ·rw [drop_getD hlt 0,drop_getD (l:=b) (by omega) 0] at he
  simp only [lexF] at he
  generalize hx:a.getD i 0 = x at *
  generalize hy:b.getD i 0 = y at *
  by_cases hxy:x = y
  ·rw [if_neg (by simpa using hxy)] at he
   repeat' first|refine qlie hx ?_|refine qlie hy ?_|(refine wo ?_;first|(refine ao ?_;first|refine aw ?_|refine aw6 ?_|refine oa ?_|refine adiv ?_|refine amod ?_|refine shr1 ?_|refine shr ?_|refine umod ?_|refine isl ?_|refine ipe ?_|refine ipn ?_|refine ibe ?_)|refine acw ?_|refine ucv ?_|refine anw ?_|refine oa ?_|refine ld ?_|refine ldl ?_|refine lnm ?_|refine ixmn ?_|refine ixm ?_|refine li ?_|refine lb ?_|refine lv ?_|refine ln ?_|refine ixn ?_|refine ix ?_|refine le ?_|refine sr ?_|refine soi ?_|refine sob ?_|refine scm ?_|refine sclm ?_|refine schm ?_|refine gy ?_|refine gn ?_|refine gnn ?_|refine gu ?_|(refine gsi (fun hB=>?_) (fun hB=>?_) <;> try (exfalso;omega))|(refine gsn (fun hB=>?_) (fun hB=>?_) <;> try (exfalso;omega))|(refine gs (fun hB=>?_) (fun hB=>?_) <;> try (exfalso;omega)))|(refine gc ?_;first|refine ct ?_|refine cf ?_|(refine ci (fun hB=>?_) (fun hB=>?_) <;> try (exfalso;omega))|(refine cn (fun hB=>?_) (fun hB=>?_) <;> try (exfalso;omega))|(refine cb (fun hB=>?_) (fun hB=>?_) <;> try (exfalso;omega)))|refine sq ?_|refine rg ?_|refine xc ?_|refine nl ?_|refine sk ?_|refine bk ?_|refine xe ?_|refine rt ?_|refine xb ?_|refine rq ?_|refine nq ?_|(refine wq ?_;first|(refine qao ?_;first|refine qaw ?_|refine qa ?_|refine qibe ?_)|refine qacw ?_|refine qa ?_|refine qld ?_|refine qldl ?_|refine qlnm ?_|refine qixmn ?_|refine qixm ?_|refine qli ?_|refine qlb ?_|refine qlv ?_|refine qln ?_|refine qixn ?_|refine qix ?_|refine qle ?_|refine qgy ?_|refine qgn ?_|refine qgu ?_|(refine qgsi (fun hB=>?_) (fun hB=>?_) <;> try (exfalso;omega))|(refine qgsn (fun hB=>?_) (fun hB=>?_) <;> try (exfalso;omega))|(refine qgs (fun hB=>?_) (fun hB=>?_) <;> try (exfalso;omega)))
   exact lp (i + 1) ⟨hlt,he⟩
  ·rw [if_pos hxy] at he
   repeat' first|refine qlie hx ?_|refine qlie hy ?_|(refine wo ?_;first|(refine ao ?_;first|refine aw ?_|refine aw6 ?_|refine oa ?_|refine adiv ?_|refine amod ?_|refine shr1 ?_|refine shr ?_|refine umod ?_|refine isl ?_|refine ipe ?_|refine ipn ?_|refine ibe ?_)|refine acw ?_|refine ucv ?_|refine anw ?_|refine oa ?_|refine ld ?_|refine ldl ?_|refine lnm ?_|refine ixmn ?_|refine ixm ?_|refine li ?_|refine lb ?_|refine lv ?_|refine ln ?_|refine ixn ?_|refine ix ?_|refine le ?_|refine sr ?_|refine soi ?_|refine sob ?_|refine scm ?_|refine sclm ?_|refine schm ?_|refine gy ?_|refine gn ?_|refine gnn ?_|refine gu ?_|(refine gsi (fun hB=>?_) (fun hB=>?_) <;> try (exfalso;omega))|(refine gsn (fun hB=>?_) (fun hB=>?_) <;> try (exfalso;omega))|(refine gs (fun hB=>?_) (fun hB=>?_) <;> try (exfalso;omega)))|(refine gc ?_;first|refine ct ?_|refine cf ?_|(refine ci (fun hB=>?_) (fun hB=>?_) <;> try (exfalso;omega))|(refine cn (fun hB=>?_) (fun hB=>?_) <;> try (exfalso;omega))|(refine cb (fun hB=>?_) (fun hB=>?_) <;> try (exfalso;omega)))|refine sq ?_|refine rg ?_|refine xc ?_|refine nl ?_|refine sk ?_|refine bk ?_|refine xe ?_|refine rt ?_|refine xb ?_|refine rq ?_|refine nq ?_|(refine wq ?_;first|(refine qao ?_;first|refine qaw ?_|refine qa ?_|refine qibe ?_)|refine qacw ?_|refine qa ?_|refine qld ?_|refine qldl ?_|refine qlnm ?_|refine qixmn ?_|refine qixm ?_|refine qli ?_|refine qlb ?_|refine qlv ?_|refine qln ?_|refine qixn ?_|refine qix ?_|refine qle ?_|refine qgy ?_|refine qgn ?_|refine qgu ?_|(refine qgsi (fun hB=>?_) (fun hB=>?_) <;> try (exfalso;omega))|(refine qgsn (fun hB=>?_) (fun hB=>?_) <;> try (exfalso;omega))|(refine qgs (fun hB=>?_) (fun hB=>?_) <;> try (exfalso;omega)))
   exact r1 ⟨by rw [he],rfl⟩
 ·obtain rfl:i = a.length:=by omega
  rw [List.drop_length] at he
  have he:lexF a b = false:=he
  repeat' first|(refine wo ?_;first|(refine ao ?_;first|refine aw ?_|refine aw6 ?_|refine oa ?_|refine adiv ?_|refine amod ?_|refine shr1 ?_|refine shr ?_|refine umod ?_|refine isl ?_|refine ipe ?_|refine ipn ?_|refine ibe ?_)|refine acw ?_|refine ucv ?_|refine anw ?_|refine oa ?_|refine ld ?_|refine ldl ?_|refine lnm ?_|refine ixmn ?_|refine ixm ?_|refine li ?_|refine lb ?_|refine lv ?_|refine ln ?_|refine ixn ?_|refine ix ?_|refine le ?_|refine sr ?_|refine soi ?_|refine sob ?_|refine scm ?_|refine sclm ?_|refine schm ?_|refine gy ?_|refine gn ?_|refine gnn ?_|refine gu ?_|(refine gsi (fun hB=>?_) (fun hB=>?_) <;> try (exfalso;omega))|(refine gsn (fun hB=>?_) (fun hB=>?_) <;> try (exfalso;omega))|(refine gs (fun hB=>?_) (fun hB=>?_) <;> try (exfalso;omega)))|(refine gc ?_;first|refine ct ?_|refine cf ?_|(refine ci (fun hB=>?_) (fun hB=>?_) <;> try (exfalso;omega))|(refine cn (fun hB=>?_) (fun hB=>?_) <;> try (exfalso;omega))|(refine cb (fun hB=>?_) (fun hB=>?_) <;> try (exfalso;omega)))|refine sq ?_|refine rg ?_|refine xc ?_|refine nl ?_|refine sk ?_|refine bk ?_|refine xe ?_|refine rt ?_|refine xb ?_
  exact r1 ⟨by rw [he],rfl⟩
section
variable {P:Program} {E:Env P} {n:Sh} {X:Cx} {s:List K} {fr:Fr} {A:List Ch} {ops:Array Oper} {rest:List Oper} {d:Nat} {o:Op} {ty t t':TypeId} {pos:String} {after:Array Edge} {x y:Operand} {p q m:Int}
theorem qdy {p:Prop} [Decidable p] (hp:p) (k:TQ E n X s ops rest ((d,.bool true) :: fr) A) (h:evOp E fr o = some (.bool (decide p)):=by rfl) (hd:Nat.blt d n.n = true:=by rfl):TQ E n X s ops (⟨some d,o,ty,pos,after,none⟩ :: rest) fr A:=qa k (by rw [h,decide_eq_true hp]) hd
theorem qdn {p:Prop} [Decidable p] (hp:¬ p) (k:TQ E n X s ops rest ((d,.bool false) :: fr) A) (h:evOp E fr o = some (.bool (decide p)):=by rfl) (hd:Nat.blt d n.n = true:=by rfl):TQ E n X s ops (⟨some d,o,ty,pos,after,none⟩ :: rest) fr A:=qa k (by rw [h,decide_eq_false hp]) hd
theorem qmx (e:max p q = m) (k:TQ E n X s ops rest ((d,I m) :: fr) A) (hx:ev fr x = some (I p):=by rfl) (hy:ev fr y = some (I q):=by rfl) (hd:Nat.blt d n.n = true:=by rfl):TQ E n X s ops (⟨some d,.call ⟨.builtin .max,#[x,y],#[t,t']⟩,ty,pos,after,none⟩ :: rest) fr A:=TQ.val (fun w _=>⟨fun a ha _ _ _ _=>by
 have e:(if q > p then q else p) = m:=by rw [← e];split <;> omega
 simp only [execOp,resolve]
 simp [ha.ev hx,ha.ev hy,invoke,builtin,Builtin.max_,Builtin.max2,← e]⟩) k hd
end
def seenL (N:Nat) (L:List (List Int)) (i:Nat):List Bool:=(List.range N).map fun a=>seenB (L.take i) a
theorem seenL_len (N:Nat) (L:List (List Int)) (i:Nat):(seenL N L i).length = N:=by simp [seenL]
theorem seenL_get {N:Nat} {L:List (List Int)} {i a:Nat} (h:a < N):(seenL N L i).getD a false = seenB (L.take i) a:=by
 simp [seenL,List.getD_eq_getElem?_getD,List.getElem?_range h]
theorem seenL_zero (N:Nat) (L:List (List Int)):seenL N L 0 = List.replicate N false:=by
 refine List.eq_replicate_iff.2 ⟨by simp [seenL],fun b hb=>?_⟩
 obtain ⟨a,_,rfl⟩:=List.mem_map.1 hb
 rfl
theorem seenL_step {N:Nat} {L:List (List Int)} {i:Nat} (hi:i < L.length):(seenL N L i).set (msk (L.getD i [])) true = seenL N L (i + 1):=by
 refine List.ext_getElem (by simp [seenL]) fun a h1 h2=>?_
 have ha:a < N:=by simpa [seenL] using h2
 have e2:(seenL N L (i + 1))[a] = (seenB (L.take i) a || Nat.beq (msk (L.getD i [])) a):=by
  have:(seenL N L (i + 1))[a] = seenB (L.take (i + 1)) a:=by simp [seenL]
  rw [this,take_succ' hi []]
  simp [seenB]
 rw [e2,List.getElem_set]
 by_cases e:msk (L.getD i []) = a
 ·rw [if_pos e,e,Nat.beq_refl,Bool.or_true]
 ·rw [if_neg e,show Nat.beq (msk (L.getD i [])) a = false from by
   cases hb:Nat.beq (msk (L.getD i [])) a with
   | false=>rfl
   | true=>exact absurd (Nat.eq_of_beq_eq_true hb) e,Bool.or_false]
  simp [seenL]
theorem pop_pos {k a:Nat} (hk:k ≤ 10) (ha:a < 2 ^ k) (h:1 ≤ a):1 ≤ popK k a:=by
 obtain ⟨g1,g2⟩:=setA_ok hk ha
 refine Nat.pos_of_ne_zero fun e=>?_
 rw [e] at g1
 rw [List.eq_nil_of_length_eq_zero g1] at g2
 have:msk [] = 0:=rfl
 omega
attribute [local irreducible] Fit pt own ro vw mpc lpt vels rels mow lrc dfr
attribute [local irreducible] lmp lme mit velg relg bnd owl setP msk popK seenB seenL smlT
set_option maxHeartbeats 2000000 in
theorem MassSizes_tr (tv:Value) (tbl:List Int) (kk:Int):Tr Tryz.prog 4 [tv,I kk] [vw tv (Is tbl)] [] fun v D=>v = .bool true∧D = []:=by
 have hpk:=pickM_in (x:=kk) (m:=10) (by decide)
 obtain ⟨k,hk⟩ : ∃ k:Nat,1 + pick kk 10 = k:=⟨(1 + pick kk 10).toNat,by omega⟩
 have hT:=small23_tr tv tbl k (by omega)
 have hlen:=smlT_len 4 tbl k
 generalize smlT 4 tbl k = t at *
 by_cases hz:solE t k = 0
 rotate_left
 ·rw [decide_eq_false hz] at hT
  refine Tr.enter env _ Tryz.func4 (by kernel_rfl) rfl Tryz.ntmps4 rfl (by repeat (first | exact has00 | refine has01 ?_)) fun w0=>?_
  repeat' first|(refine gca ?_;first|(refine ca awake23_tr ?_;rintro _ _ ⟨rfl,rfl⟩)|(refine ca (Pick_tr kk 10 (by decide)) ?_;rintro _ _ ⟨rfl,rfl⟩)|(refine ca hT ?_;rintro _ _ ⟨o,rfl,ho,rfl⟩))|(refine aw (m:=1 + pick kk 10) ?_;rw [hk])|(refine wo ?_;first|(refine ao ?_;first|refine aw ?_|refine aw6 ?_|refine oa ?_|refine adiv ?_|refine amod ?_|refine shr1 ?_|refine shr ?_|refine umod ?_|refine isl ?_|refine ipe ?_|refine ipn ?_|refine ibe ?_)|refine acw ?_|refine ucv ?_|refine anw ?_|refine oa ?_|refine ld ?_|refine ldl ?_|refine lnm ?_|refine ixmn ?_|refine ixm ?_|refine li ?_|refine lb ?_|refine lv ?_|refine ln ?_|refine ixn ?_|refine ix ?_|refine le ?_|refine sr ?_|refine soi ?_|refine sob ?_|refine scm ?_|refine sclm ?_|refine schm ?_|refine gy ?_|refine gn ?_|refine gnn ?_|refine gu ?_|(refine gsi (fun hB=>?_) (fun hB=>?_) <;> try (exfalso;omega))|(refine gsn (fun hB=>?_) (fun hB=>?_) <;> try (exfalso;omega))|(refine gs (fun hB=>?_) (fun hB=>?_) <;> try (exfalso;omega)))|(refine gc ?_;first|refine ct ?_|refine cf ?_|(refine ci (fun hB=>?_) (fun hB=>?_) <;> try (exfalso;omega))|(refine cn (fun hB=>?_) (fun hB=>?_) <;> try (exfalso;omega))|(refine cb (fun hB=>?_) (fun hB=>?_) <;> try (exfalso;omega)))|refine sq ?_|refine rg ?_|refine xc ?_|refine nl ?_|refine sk ?_|refine bk ?_|refine xe ?_|refine rt ?_|refine xb ?_
  exact r1 ⟨rfl,rfl⟩
 rw [decide_eq_true hz] at hT
 obtain ⟨z1,z2,z3,z4⟩:=solE_zero hz
 have hk10:k ≤ 10:=by omega
 have htk:t.length ≤ k:=by omega
 have hS:=fun o=>MSets_tr o t k
 have hLL:=setP_len hk10 htk
 have hSW:setsW t k = (setP t k t.length,0):=by
  unfold setsW;rw [if_pos hz,Int.toNat_natCast,if_neg (by omega)]
 simp only [hSW] at hS
 have hrow:∀ i,i < (setP t k t.length).length→(1 ≤ ((setP t k t.length).getD i []).length∧((setP t k t.length).getD i []).length ≤ t.length)∧t.getD (((setP t k t.length).getD i []).length - 1) 0 ≠ 0∧(∀ x ∈ (setP t k t.length).getD i [],0 ≤ x∧x < k)∧((setP t k t.length).getD i []).Pairwise (· < ·)∧msk ((setP t k t.length).getD i []) < 2 ^ k∧seenB ((setP t k t.length).take i) (msk ((setP t k t.length).getD i [])) = false:=fun i hi=>by
  have hm:(setP t k t.length).getD i [] ∈ setP t k t.length:=by rw [List.getD_eq_getElem?_getD,List.getElem?_eq_getElem hi];exact List.getElem_mem hi
  obtain ⟨p1,p2,p3,p4⟩:=setP_mem hm
  exact ⟨⟨p1,p2⟩,p3,fun x hx=>by have:=(risR_mem _ _ _ _ p4).2 x hx;omega,ris_sorted _ _ _ _ p4,(ris_set hk10 (by omega) p4).1,seen_no hk10 htk hi⟩
 have hah:∀ i,i + 1 < (setP t k t.length).length→aheadF ((setP t k t.length).getD i []) ((setP t k t.length).getD (i + 1) []) = true:=fun i hi=>by
  have h1:=List.pairwise_iff_getElem.1 (setP_ahead t k t.length) i (i + 1) (by omega) hi (by omega)
  rw [List.getD_eq_getElem?_getD,List.getD_eq_getElem?_getD,List.getElem?_eq_getElem hi,List.getElem?_eq_getElem (show i < (setP t k t.length).length by omega)]
  exact h1
 have hall:∀ a,1 ≤ a→a < 2 ^ k→seenB (setP t k t.length) a = decide (popK k a ≤ t.length∧0 < t.getD (popK k a - 1) 0):=fun a h1 h2=>seen_all hk10 htk (fun x hx=>(z3 x hx).1) h2 (pop_pos hk10 h2 h1)
 have hpp:=fun a h1 (h2:a < 2 ^ k)=>pop_pos hk10 h2 h1
 generalize setP t k t.length = L at *
 have hN:2 ^ k ≤ 1024:=Nat.le_trans (Nat.pow_le_pow_right (by decide) hk10) (by decide)
 have hN1:2 ≤ 2 ^ k:=Nat.le_trans (by decide) (Nat.pow_le_pow_right (by decide) (show 1 ≤ k by omega))
 obtain ⟨N,hNN⟩ : ∃ N,N = 2 ^ k:=⟨_,rfl⟩
 simp only [← hNN] at hrow hall hpp hN hN1
 clear hSW hz z1 z3 z4 hpk
 have hrep:List.replicate ((N:Nat):Int).toNat (Value.bool false) = Bs (seenL N L 0):=by
  rw [seenL_zero,Int.toNat_natCast];show _ = (List.replicate N false).map Value.bool;rw [List.map_replicate]
 refine Tr.enter env _ Tryz.func4 (by kernel_rfl) rfl Tryz.ntmps4 rfl (by repeat (first | exact has00 | refine has01 ?_)) fun w0=>?_
 repeat' first|(refine gca ?_;first|(refine ca awake23_tr ?_;rintro _ _ ⟨rfl,rfl⟩)|(refine ca (Pick_tr kk 10 (by decide)) ?_;rintro _ _ ⟨rfl,rfl⟩)|(refine ca hT ?_;rintro _ _ ⟨o,rfl,ho,rfl⟩)|(refine ca (hS o) ?_;rintro _ _ ⟨v,hs,rfl,hv,hls,rfl⟩))|(refine aw (m:=1 + pick kk 10) ?_;rw [hk])|(refine shI (c:=k) ?_;rw [← hNN])|(refine mk (m:=(N:Int)) (fun sv=>?_);rw [hrep])|(refine wo ?_;first|(refine ao ?_;first|refine aw ?_|refine aw6 ?_|refine oa ?_|refine adiv ?_|refine amod ?_|refine shr1 ?_|refine shr ?_|refine umod ?_|refine isl ?_|refine ipe ?_|refine ipn ?_|refine ibe ?_)|refine acw ?_|refine ucv ?_|refine anw ?_|refine oa ?_|refine ld ?_|refine ldl ?_|refine lnm ?_|refine ixmn ?_|refine ixm ?_|refine li ?_|refine lb ?_|refine lv ?_|refine ln ?_|refine ixn ?_|refine ix ?_|refine le ?_|refine sr ?_|refine soi ?_|refine sob ?_|refine scm ?_|refine sclm ?_|refine schm ?_|refine gy ?_|refine gn ?_|refine gnn ?_|refine gu ?_|(refine gsi (fun hB=>?_) (fun hB=>?_) <;> try (exfalso;omega))|(refine gsn (fun hB=>?_) (fun hB=>?_) <;> try (exfalso;omega))|(refine gs (fun hB=>?_) (fun hB=>?_) <;> try (exfalso;omega)))|(refine gc ?_;first|refine ct ?_|refine cf ?_|(refine ci (fun hB=>?_) (fun hB=>?_) <;> try (exfalso;omega))|(refine cn (fun hB=>?_) (fun hB=>?_) <;> try (exfalso;omega))|(refine cb (fun hB=>?_) (fun hB=>?_) <;> try (exfalso;omega)))|refine sq ?_|refine rg ?_|refine xc ?_|refine nl ?_|refine sk ?_|refine bk ?_|refine xe ?_|refine rt ?_|refine xb ?_
 refine TC.loop (ι:=Nat) (fun i=>[(11,I i)]) (fun i=>[own 4 sv (Bs (seenL N L i))]) (fun i=>i ≤ L.length) (fun i=>L.length - i) 0 [1,5,6,8,10] (Nat.zero_le _) ?_
 rintro i hi
 by_cases hlt:i < L.length
 ·obtain ⟨⟨q1,q2⟩,q3,q4,q5,q6,q7⟩:=hrow i hlt
  have hg1:hs[i]? = some (hs.getD i nS):=by rw [List.getD_eq_getElem?_getD,List.getElem?_eq_getElem (by omega)];rfl
  have hH:∀ F,owl TLI I hs L ∈ F→Has F (vw (hs.getD i nS) (Is (L.getD i []))):=fun F h=>has_elg (g:=I) (hs:=hs) (ls:=L) (has_owl (e:=TLI) hls h) hlt
  have hst:=seenL_step (N:=N) hlt
  have hsl:=seenL_len N L i
  have hsg:=seenL_get (L:=L) (i:=i) q6
  rw [q7] at hsg
  have hpv0:0 < i→∃ h0 row0,hs[((i:Int) - 1).toNat]? = some h0∧(∀ F,owl TLI I hs L ∈ F→Has F (vw h0 (Is row0)))∧aheadF row0 (L.getD i []) = true:=fun h=>by
   refine ⟨hs.getD (i - 1) nS,L.getD (i - 1) [],?_,fun F h=>has_elg (g:=I) (hs:=hs) (ls:=L) (has_owl (e:=TLI) hls h) (by omega),?_⟩
   ·rw [show ((i:Int) - 1).toNat = i - 1 by omega,List.getD_eq_getElem?_getD,List.getElem?_eq_getElem (by omega)];rfl
   ·have:=hah (i - 1) (by omega)
    rwa [Nat.sub_add_cancel h] at this
  clear hrow hah hall hpp
  generalize L.getD i [] = row at *
  generalize hs.getD i nS = h at *
  generalize hsb:seenL N L i = sb at *
  clear hsb
  repeat' first|refine le (xs:=hs) ?_ (hj:=hg1)|refine lnm (l:=row) (g:=I) ?_ (hh:=hH _ memA)|(refine wo ?_;first|(refine ao ?_;first|refine aw ?_|refine aw6 ?_|refine oa ?_|refine adiv ?_|refine amod ?_|refine shr1 ?_|refine shr ?_|refine umod ?_|refine isl ?_|refine ipe ?_|refine ipn ?_|refine ibe ?_)|refine acw ?_|refine ucv ?_|refine anw ?_|refine oa ?_|refine ld ?_|refine ldl ?_|refine lnm ?_|refine ixmn ?_|refine ixm ?_|refine li ?_|refine lb ?_|refine lv ?_|refine ln ?_|refine ixn ?_|refine ix ?_|refine le ?_|refine sr ?_|refine soi ?_|refine sob ?_|refine scm ?_|refine sclm ?_|refine schm ?_|refine gy ?_|refine gn ?_|refine gnn ?_|refine gu ?_|(refine gsi (fun hB=>?_) (fun hB=>?_) <;> try (exfalso;omega))|(refine gsn (fun hB=>?_) (fun hB=>?_) <;> try (exfalso;omega))|(refine gs (fun hB=>?_) (fun hB=>?_) <;> try (exfalso;omega)))|(refine gc ?_;first|refine ct ?_|refine cf ?_|(refine ci (fun hB=>?_) (fun hB=>?_) <;> try (exfalso;omega))|(refine cn (fun hB=>?_) (fun hB=>?_) <;> try (exfalso;omega))|(refine cb (fun hB=>?_) (fun hB=>?_) <;> try (exfalso;omega)))|refine sq ?_|refine rg ?_|refine xc ?_|refine nl ?_|refine sk ?_|refine bk ?_|refine xe ?_|refine rt ?_|refine xb ?_
  refine TC.loop (ι:=Nat) (fun j=>[(13,I j),(12,I (msk (row.take j)))]) (fun _=>[]) (fun j=>j ≤ row.length) (fun j=>row.length - j) 0 [1,5,6,8,10,11] (Nat.zero_le _) ?_ (hs:=by rw [msk_zero row];(repeat (refine Sub.cons rfl (by first | rfl | go_num) ?_));exact Sub.nil)
  rintro j hj
  by_cases hjl:j < row.length
  ·have hin:=q4 _ (mem_getD.2 ⟨j,hjl,rfl⟩)
   have hm1:=msk_take hjl
   have hm2:=msk_le row (j + 1)
   have hpv:0 < j→row.getD ((j:Int) - 1).toNat 0 < row.getD j 0:=fun h=>by
    rw [show ((j:Int) - 1).toNat = j - 1 by omega]
    have:=List.pairwise_iff_getElem.1 q5 (j - 1) j (by omega) hjl (by omega)
    rw [List.getD_eq_getElem?_getD,List.getD_eq_getElem?_getD,List.getElem?_eq_getElem hjl,List.getElem?_eq_getElem (show j - 1 < row.length by omega)]
    exact this
   generalize hy:row.getD j 0 = y at *
   obtain ⟨p,rfl⟩ : ∃ p:Nat,y = p:=⟨y.toNat,by omega⟩
   rw [Int.toNat_natCast] at hm1
   obtain ⟨e,he⟩ : ∃ e,e = 2 ^ p:=⟨_,rfl⟩
   obtain ⟨m0,h0⟩ : ∃ m0,m0 = msk (row.take j):=⟨_,rfl⟩
   rw [← he,← h0] at hm1
   rw [← h0]
   clear h0 hpv0 hst
   repeat' first|refine le (xs:=hs) ?_ (hj:=hg1)|refine qle (xs:=hs) ?_ (hj:=hg1)|refine lnm (l:=row) (g:=I) ?_ (hh:=hH _ memA)|refine qixmn (l:=row) (g:=I) ?_ (hh:=hH _ memA)|refine qixm (l:=row) (g:=I) ?_ (hh:=hH _ memA)|refine ixmn (l:=row) (g:=I) ?_ (hh:=hH _ memA)|refine lie (l:=row) hy ?_ (hh:=hH _ memA)|refine qlie (l:=row) hy ?_ (hh:=hH _ memA)|refine qli (l:=row) ?_ (hh:=hH _ memA)|(refine shI (c:=p) ?_;rw [← he])|(refine wo ?_;first|(refine ao ?_;first|refine aw ?_|refine aw6 ?_|refine oa ?_|refine adiv ?_|refine amod ?_|refine shr1 ?_|refine shr ?_|refine umod ?_|refine isl ?_|refine ipe ?_|refine ipn ?_|refine ibe ?_)|refine acw ?_|refine ucv ?_|refine anw ?_|refine oa ?_|refine ld ?_|refine ldl ?_|refine lnm ?_|refine ixmn ?_|refine ixm ?_|refine li ?_|refine lb ?_|refine lv ?_|refine ln ?_|refine ixn ?_|refine ix ?_|refine le ?_|refine sr ?_|refine soi ?_|refine sob ?_|refine scm ?_|refine sclm ?_|refine schm ?_|refine gy ?_|refine gn ?_|refine gnn ?_|refine gu ?_|(refine gsi (fun hB=>?_) (fun hB=>?_) <;> try (exfalso;omega))|(refine gsn (fun hB=>?_) (fun hB=>?_) <;> try (exfalso;omega))|(refine gs (fun hB=>?_) (fun hB=>?_) <;> try (exfalso;omega)))|(refine gc ?_;first|refine ct ?_|refine cf ?_|(refine ci (fun hB=>?_) (fun hB=>?_) <;> try (exfalso;omega))|(refine cn (fun hB=>?_) (fun hB=>?_) <;> try (exfalso;omega))|(refine cb (fun hB=>?_) (fun hB=>?_) <;> try (exfalso;omega)))|refine sq ?_|refine rg ?_|refine xc ?_|refine nl ?_|refine sk ?_|refine bk ?_|refine xe ?_|refine rt ?_|refine xb ?_|refine rq ?_|refine nq ?_|(refine wq ?_;first|(refine qao ?_;first|refine qaw ?_|refine qa ?_|refine qibe ?_)|refine qacw ?_|refine qa ?_|refine qld ?_|refine qldl ?_|refine qlnm ?_|refine qixmn ?_|refine qixm ?_|refine qli ?_|refine qlb ?_|refine qlv ?_|refine qln ?_|refine qixn ?_|refine qix ?_|refine qle ?_|refine qgy ?_|refine qgn ?_|refine qgu ?_|(refine qgsi (fun hB=>?_) (fun hB=>?_) <;> try (exfalso;omega))|(refine qgsn (fun hB=>?_) (fun hB=>?_) <;> try (exfalso;omega))|(refine qgs (fun hB=>?_) (fun hB=>?_) <;> try (exfalso;omega)))
   all_goals exact lp (j + 1) hjl (hs:=by rw [hm1,show ((m0 + e:Nat):Int) = (m0:Int) + (e:Int) from Int.natCast_add _ _];(repeat (refine Sub.cons rfl (by first | rfl | go_num) ?_));exact Sub.nil)
  obtain rfl:j = row.length:=by omega
  rw [List.take_length]
  obtain ⟨a,ha⟩ : ∃ a,a = msk row:=⟨_,rfl⟩
  rw [← ha] at q6 hsg hst ⊢
  have hr3:t.getD ((row.length:Int) - 1).toNat 0 ≠ 0:=by rw [show ((row.length:Int) - 1).toNat = row.length - 1 by omega];exact q3
  rcases Nat.eq_zero_or_pos i with hi0 | hi0
  ·repeat' first|refine le (xs:=hs) ?_ (hj:=hg1)|refine lnm (l:=row) (g:=I) ?_ (hh:=hH _ memA)|refine lnm (l:=sb) (g:=.bool) ?_|refine ixmn (l:=sb) (g:=.bool) ?_|(refine lbS (l:=sb) (j:=a) ?_;rw [hsg])|refine sobS (l:=sb) (j:=a) (m:=true) ?_|(refine wo ?_;first|(refine ao ?_;first|refine aw ?_|refine aw6 ?_|refine oa ?_|refine adiv ?_|refine amod ?_|refine shr1 ?_|refine shr ?_|refine umod ?_|refine isl ?_|refine ipe ?_|refine ipn ?_|refine ibe ?_)|refine acw ?_|refine ucv ?_|refine anw ?_|refine oa ?_|refine ld ?_|refine ldl ?_|refine lnm ?_|refine ixmn ?_|refine ixm ?_|refine li ?_|refine lb ?_|refine lv ?_|refine ln ?_|refine ixn ?_|refine ix ?_|refine le ?_|refine sr ?_|refine soi ?_|refine sob ?_|refine scm ?_|refine sclm ?_|refine schm ?_|refine gy ?_|refine gn ?_|refine gnn ?_|refine gu ?_|(refine gsi (fun hB=>?_) (fun hB=>?_) <;> try (exfalso;omega))|(refine gsn (fun hB=>?_) (fun hB=>?_) <;> try (exfalso;omega))|(refine gs (fun hB=>?_) (fun hB=>?_) <;> try (exfalso;omega)))|(refine gc ?_;first|refine ct ?_|refine cf ?_|(refine ci (fun hB=>?_) (fun hB=>?_) <;> try (exfalso;omega))|(refine cn (fun hB=>?_) (fun hB=>?_) <;> try (exfalso;omega))|(refine cb (fun hB=>?_) (fun hB=>?_) <;> try (exfalso;omega)))|refine sq ?_|refine rg ?_|refine xc ?_|refine nl ?_|refine sk ?_|refine bk ?_|refine xe ?_|refine rt ?_|refine xb ?_|refine rq ?_|refine nq ?_|(refine wq ?_;first|(refine qao ?_;first|refine qaw ?_|refine qa ?_|refine qibe ?_)|refine qacw ?_|refine qa ?_|refine qld ?_|refine qldl ?_|refine qlnm ?_|refine qixmn ?_|refine qixm ?_|refine qli ?_|refine qlb ?_|refine qlv ?_|refine qln ?_|refine qixn ?_|refine qix ?_|refine qle ?_|refine qgy ?_|refine qgn ?_|refine qgu ?_|(refine qgsi (fun hB=>?_) (fun hB=>?_) <;> try (exfalso;omega))|(refine qgsn (fun hB=>?_) (fun hB=>?_) <;> try (exfalso;omega))|(refine qgs (fun hB=>?_) (fun hB=>?_) <;> try (exfalso;omega)))
   all_goals exact lp (i + 1) hlt (hf:=by rw [← hst];exact fitA)
  ·obtain ⟨h0,row0,k1,k2,k3⟩:=hpv0 hi0
   have hA:=ahead23_tr h0 h row0 row
   rw [k3] at hA
   repeat' first|refine le (xs:=hs) ?_ (hj:=hg1)|refine qle (xs:=hs) ?_ (hj:=hg1)|refine qle (xs:=hs) ?_ (hj:=k1)|refine lnm (l:=row) (g:=I) ?_ (hh:=hH _ memA)|refine lnm (l:=sb) (g:=.bool) ?_|refine ixmn (l:=sb) (g:=.bool) ?_|(refine lbS (l:=sb) (j:=a) ?_;rw [hsg])|refine sobS (l:=sb) (j:=a) (m:=true) ?_|refine qca hA (v:=.bool true) (fun _ _ h=>h) ?_ (hp:=has1 (k2 _ memA) (has1 (hH _ memA) has0))|(refine wo ?_;first|(refine ao ?_;first|refine aw ?_|refine aw6 ?_|refine oa ?_|refine adiv ?_|refine amod ?_|refine shr1 ?_|refine shr ?_|refine umod ?_|refine isl ?_|refine ipe ?_|refine ipn ?_|refine ibe ?_)|refine acw ?_|refine ucv ?_|refine anw ?_|refine oa ?_|refine ld ?_|refine ldl ?_|refine lnm ?_|refine ixmn ?_|refine ixm ?_|refine li ?_|refine lb ?_|refine lv ?_|refine ln ?_|refine ixn ?_|refine ix ?_|refine le ?_|refine sr ?_|refine soi ?_|refine sob ?_|refine scm ?_|refine sclm ?_|refine schm ?_|refine gy ?_|refine gn ?_|refine gnn ?_|refine gu ?_|(refine gsi (fun hB=>?_) (fun hB=>?_) <;> try (exfalso;omega))|(refine gsn (fun hB=>?_) (fun hB=>?_) <;> try (exfalso;omega))|(refine gs (fun hB=>?_) (fun hB=>?_) <;> try (exfalso;omega)))|(refine gc ?_;first|refine ct ?_|refine cf ?_|(refine ci (fun hB=>?_) (fun hB=>?_) <;> try (exfalso;omega))|(refine cn (fun hB=>?_) (fun hB=>?_) <;> try (exfalso;omega))|(refine cb (fun hB=>?_) (fun hB=>?_) <;> try (exfalso;omega)))|refine sq ?_|refine rg ?_|refine xc ?_|refine nl ?_|refine sk ?_|refine bk ?_|refine xe ?_|refine rt ?_|refine xb ?_|refine rq ?_|refine nq ?_|(refine wq ?_;first|(refine qao ?_;first|refine qaw ?_|refine qa ?_|refine qibe ?_)|refine qacw ?_|refine qa ?_|refine qld ?_|refine qldl ?_|refine qlnm ?_|refine qixmn ?_|refine qixm ?_|refine qli ?_|refine qlb ?_|refine qlv ?_|refine qln ?_|refine qixn ?_|refine qix ?_|refine qle ?_|refine qgy ?_|refine qgn ?_|refine qgu ?_|(refine qgsi (fun hB=>?_) (fun hB=>?_) <;> try (exfalso;omega))|(refine qgsn (fun hB=>?_) (fun hB=>?_) <;> try (exfalso;omega))|(refine qgs (fun hB=>?_) (fun hB=>?_) <;> try (exfalso;omega)))
   all_goals exact lp (i + 1) hlt (hf:=by rw [← hst];exact fitA)
 ·obtain rfl:i = L.length:=by omega
  have hsl:=seenL_len N L L.length
  have hsg:∀ a,1 ≤ a→a < N→(seenL N L L.length).getD a false = decide (popK k a ≤ t.length∧0 < t.getD (popK k a - 1) 0):=fun a h1 h2=>by
   rw [seenL_get h2,List.take_length];exact hall a h1 h2
  clear hrow hah hall
  generalize seenL N L L.length = sb at *
  repeat' first|refine lnm (l:=sb) (g:=.bool) ?_|(refine wo ?_;first|(refine ao ?_;first|refine aw ?_|refine aw6 ?_|refine oa ?_|refine adiv ?_|refine amod ?_|refine shr1 ?_|refine shr ?_|refine umod ?_|refine isl ?_|refine ipe ?_|refine ipn ?_|refine ibe ?_)|refine acw ?_|refine ucv ?_|refine anw ?_|refine oa ?_|refine ld ?_|refine ldl ?_|refine lnm ?_|refine ixmn ?_|refine ixm ?_|refine li ?_|refine lb ?_|refine lv ?_|refine ln ?_|refine ixn ?_|refine ix ?_|refine le ?_|refine sr ?_|refine soi ?_|refine sob ?_|refine scm ?_|refine sclm ?_|refine schm ?_|refine gy ?_|refine gn ?_|refine gnn ?_|refine gu ?_|(refine gsi (fun hB=>?_) (fun hB=>?_) <;> try (exfalso;omega))|(refine gsn (fun hB=>?_) (fun hB=>?_) <;> try (exfalso;omega))|(refine gs (fun hB=>?_) (fun hB=>?_) <;> try (exfalso;omega)))|(refine gc ?_;first|refine ct ?_|refine cf ?_|(refine ci (fun hB=>?_) (fun hB=>?_) <;> try (exfalso;omega))|(refine cn (fun hB=>?_) (fun hB=>?_) <;> try (exfalso;omega))|(refine cb (fun hB=>?_) (fun hB=>?_) <;> try (exfalso;omega)))|refine sq ?_|refine rg ?_|refine xc ?_|refine nl ?_|refine sk ?_|refine bk ?_|refine xe ?_|refine rt ?_|refine xb ?_
  refine TC.loop (ι:=Nat) (fun a=>[(14,I a)]) (fun _=>[]) (fun a=>1 ≤ a∧a ≤ N) (fun a=>N - a) 1 [1,5,6,10] ⟨Nat.le_refl _,by omega⟩ ?_
  rintro a ⟨ha1,ha2⟩
  by_cases hta:a < N
  rotate_left
  ·obtain rfl:a = N:=by omega
   repeat' first|refine lnm (l:=sb) (g:=.bool) ?_|(refine wo ?_;first|(refine ao ?_;first|refine aw ?_|refine aw6 ?_|refine oa ?_|refine adiv ?_|refine amod ?_|refine shr1 ?_|refine shr ?_|refine umod ?_|refine isl ?_|refine ipe ?_|refine ipn ?_|refine ibe ?_)|refine acw ?_|refine ucv ?_|refine anw ?_|refine oa ?_|refine ld ?_|refine ldl ?_|refine lnm ?_|refine ixmn ?_|refine ixm ?_|refine li ?_|refine lb ?_|refine lv ?_|refine ln ?_|refine ixn ?_|refine ix ?_|refine le ?_|refine sr ?_|refine soi ?_|refine sob ?_|refine scm ?_|refine sclm ?_|refine schm ?_|refine gy ?_|refine gn ?_|refine gnn ?_|refine gu ?_|(refine gsi (fun hB=>?_) (fun hB=>?_) <;> try (exfalso;omega))|(refine gsn (fun hB=>?_) (fun hB=>?_) <;> try (exfalso;omega))|(refine gs (fun hB=>?_) (fun hB=>?_) <;> try (exfalso;omega)))|(refine gc ?_;first|refine ct ?_|refine cf ?_|(refine ci (fun hB=>?_) (fun hB=>?_) <;> try (exfalso;omega))|(refine cn (fun hB=>?_) (fun hB=>?_) <;> try (exfalso;omega))|(refine cb (fun hB=>?_) (fun hB=>?_) <;> try (exfalso;omega)))|refine sq ?_|refine rg ?_|refine xc ?_|refine nl ?_|refine sk ?_|refine bk ?_|refine xe ?_|refine rt ?_|refine xb ?_
   exact r1 ⟨rfl,rfl⟩
  have hp1:=hpp a ha1 hta
  have hs1:=hsg a ha1 hta
  clear hpp hsg
  repeat' first|refine lnm (l:=sb) (g:=.bool) ?_|(refine wo ?_;first|(refine ao ?_;first|refine aw ?_|refine aw6 ?_|refine oa ?_|refine adiv ?_|refine amod ?_|refine shr1 ?_|refine shr ?_|refine umod ?_|refine isl ?_|refine ipe ?_|refine ipn ?_|refine ibe ?_)|refine acw ?_|refine ucv ?_|refine anw ?_|refine oa ?_|refine ld ?_|refine ldl ?_|refine lnm ?_|refine ixmn ?_|refine ixm ?_|refine li ?_|refine lb ?_|refine lv ?_|refine ln ?_|refine ixn ?_|refine ix ?_|refine le ?_|refine sr ?_|refine soi ?_|refine sob ?_|refine scm ?_|refine sclm ?_|refine schm ?_|refine gy ?_|refine gn ?_|refine gnn ?_|refine gu ?_|(refine gsi (fun hB=>?_) (fun hB=>?_) <;> try (exfalso;omega))|(refine gsn (fun hB=>?_) (fun hB=>?_) <;> try (exfalso;omega))|(refine gs (fun hB=>?_) (fun hB=>?_) <;> try (exfalso;omega)))|(refine gc ?_;first|refine ct ?_|refine cf ?_|(refine ci (fun hB=>?_) (fun hB=>?_) <;> try (exfalso;omega))|(refine cn (fun hB=>?_) (fun hB=>?_) <;> try (exfalso;omega))|(refine cb (fun hB=>?_) (fun hB=>?_) <;> try (exfalso;omega)))|refine sq ?_|refine rg ?_|refine xc ?_|refine nl ?_|refine sk ?_|refine bk ?_|refine xe ?_|refine rt ?_|refine xb ?_
  refine TC.loop (ι:=Nat) (fun j=>[(16,I j),(15,I (popK j a))]) (fun _=>[]) (fun j=>j ≤ k) (fun j=>k - j) 0 [1,5,6,10,14] (Nat.zero_le _) ?_ (hs:=by rw [popK_zero a];(repeat (refine Sub.cons rfl (by first | rfl | go_num) ?_));exact Sub.nil)
  rintro j hj
  by_cases hjk:j < k
  ·have hps:=popK_succ j a
   have hpl:=popK_le a j
   obtain ⟨e,he⟩ : ∃ e,e = a / 2 ^ j:=⟨_,rfl⟩
   have hea:e ≤ a:=by rw [he];exact Nat.div_le_self _ _
   have hsh:(a:Int) / 2 ^ ((j:Int).toNat) = (e:Int):=by rw [he,Int.toNat_natCast];push_cast;rfl
   obtain ⟨p0,h0⟩ : ∃ p0,p0 = popK j a:=⟨_,rfl⟩
   rw [← h0] at hpl hps ⊢
   rw [← he] at hps
   clear h0 he hs1 hp1
   repeat' first|(refine shr (c:=(j:Int)) ?_;rw [hsh])|(refine wo ?_;first|(refine ao ?_;first|refine aw ?_|refine aw6 ?_|refine oa ?_|refine adiv ?_|refine amod ?_|refine shr1 ?_|refine shr ?_|refine umod ?_|refine isl ?_|refine ipe ?_|refine ipn ?_|refine ibe ?_)|refine acw ?_|refine ucv ?_|refine anw ?_|refine oa ?_|refine ld ?_|refine ldl ?_|refine lnm ?_|refine ixmn ?_|refine ixm ?_|refine li ?_|refine lb ?_|refine lv ?_|refine ln ?_|refine ixn ?_|refine ix ?_|refine le ?_|refine sr ?_|refine soi ?_|refine sob ?_|refine scm ?_|refine sclm ?_|refine schm ?_|refine gy ?_|refine gn ?_|refine gnn ?_|refine gu ?_|(refine gsi (fun hB=>?_) (fun hB=>?_) <;> try (exfalso;omega))|(refine gsn (fun hB=>?_) (fun hB=>?_) <;> try (exfalso;omega))|(refine gs (fun hB=>?_) (fun hB=>?_) <;> try (exfalso;omega)))|(refine gc ?_;first|refine ct ?_|refine cf ?_|(refine ci (fun hB=>?_) (fun hB=>?_) <;> try (exfalso;omega))|(refine cn (fun hB=>?_) (fun hB=>?_) <;> try (exfalso;omega))|(refine cb (fun hB=>?_) (fun hB=>?_) <;> try (exfalso;omega)))|refine sq ?_|refine rg ?_|refine xc ?_|refine nl ?_|refine sk ?_|refine bk ?_|refine xe ?_|refine rt ?_|refine xb ?_
   all_goals exact lp (j + 1) hjk (hs:=by rw [hps,show ((p0 + e % 2:Nat):Int) = (p0:Int) + (e:Int) % 2 by omega];(repeat (refine Sub.cons rfl (by first | rfl | go_num) ?_));exact Sub.nil)
  rw [show j = k by omega]
  clear hjk hj
  obtain ⟨d,hd⟩ : ∃ d,d = popK k a:=⟨_,rfl⟩
  rw [← hd] at hs1 hp1 ⊢
  clear hd
  have hmx:max (d:Int) 1 = d:=by omega
  obtain ⟨y,hy⟩ : ∃ y,t.getD ((d:Int) - 1).toNat 0 = y:=⟨_,rfl⟩
  rw [show d - 1 = ((d:Int) - 1).toNat by omega,hy] at hs1
  by_cases hdl:d ≤ t.length
  ·by_cases hw:0 < y
   ·rw [decide_eq_true ⟨hdl,hw⟩] at hs1
    repeat' first|refine qibn ?_|(refine qle (xs:=Bs sb) ?_ (hj:=Bs_get sb a (by omega));rw [hs1])|refine qixmn (l:=sb) (g:=.bool) ?_|refine qmx hmx ?_|refine qlie (l:=t) hy ?_|refine qdy hw ?_|(refine wo ?_;first|(refine ao ?_;first|refine aw ?_|refine aw6 ?_|refine oa ?_|refine adiv ?_|refine amod ?_|refine shr1 ?_|refine shr ?_|refine umod ?_|refine isl ?_|refine ipe ?_|refine ipn ?_|refine ibe ?_)|refine acw ?_|refine ucv ?_|refine anw ?_|refine oa ?_|refine ld ?_|refine ldl ?_|refine lnm ?_|refine ixmn ?_|refine ixm ?_|refine li ?_|refine lb ?_|refine lv ?_|refine ln ?_|refine ixn ?_|refine ix ?_|refine le ?_|refine sr ?_|refine soi ?_|refine sob ?_|refine scm ?_|refine sclm ?_|refine schm ?_|refine gy ?_|refine gn ?_|refine gnn ?_|refine gu ?_|(refine gsi (fun hB=>?_) (fun hB=>?_) <;> try (exfalso;omega))|(refine gsn (fun hB=>?_) (fun hB=>?_) <;> try (exfalso;omega))|(refine gs (fun hB=>?_) (fun hB=>?_) <;> try (exfalso;omega)))|(refine gc ?_;first|refine ct ?_|refine cf ?_|(refine ci (fun hB=>?_) (fun hB=>?_) <;> try (exfalso;omega))|(refine cn (fun hB=>?_) (fun hB=>?_) <;> try (exfalso;omega))|(refine cb (fun hB=>?_) (fun hB=>?_) <;> try (exfalso;omega)))|refine sq ?_|refine rg ?_|refine xc ?_|refine nl ?_|refine sk ?_|refine bk ?_|refine xe ?_|refine rt ?_|refine xb ?_|refine rq ?_|refine nq ?_|(refine wq ?_;first|(refine qao ?_;first|refine qaw ?_|refine qa ?_|refine qibe ?_)|refine qacw ?_|refine qa ?_|refine qld ?_|refine qldl ?_|refine qlnm ?_|refine qixmn ?_|refine qixm ?_|refine qli ?_|refine qlb ?_|refine qlv ?_|refine qln ?_|refine qixn ?_|refine qix ?_|refine qle ?_|refine qgy ?_|refine qgn ?_|refine qgu ?_|(refine qgsi (fun hB=>?_) (fun hB=>?_) <;> try (exfalso;omega))|(refine qgsn (fun hB=>?_) (fun hB=>?_) <;> try (exfalso;omega))|(refine qgs (fun hB=>?_) (fun hB=>?_) <;> try (exfalso;omega)))
    all_goals exact lp (a + 1) ⟨by omega,hta⟩
   ·rw [decide_eq_false fun h=>hw h.2] at hs1
    repeat' first|refine qibn ?_|(refine qle (xs:=Bs sb) ?_ (hj:=Bs_get sb a (by omega));rw [hs1])|refine qixmn (l:=sb) (g:=.bool) ?_|refine qmx hmx ?_|refine qlie (l:=t) hy ?_|refine qdn hw ?_|(refine wo ?_;first|(refine ao ?_;first|refine aw ?_|refine aw6 ?_|refine oa ?_|refine adiv ?_|refine amod ?_|refine shr1 ?_|refine shr ?_|refine umod ?_|refine isl ?_|refine ipe ?_|refine ipn ?_|refine ibe ?_)|refine acw ?_|refine ucv ?_|refine anw ?_|refine oa ?_|refine ld ?_|refine ldl ?_|refine lnm ?_|refine ixmn ?_|refine ixm ?_|refine li ?_|refine lb ?_|refine lv ?_|refine ln ?_|refine ixn ?_|refine ix ?_|refine le ?_|refine sr ?_|refine soi ?_|refine sob ?_|refine scm ?_|refine sclm ?_|refine schm ?_|refine gy ?_|refine gn ?_|refine gnn ?_|refine gu ?_|(refine gsi (fun hB=>?_) (fun hB=>?_) <;> try (exfalso;omega))|(refine gsn (fun hB=>?_) (fun hB=>?_) <;> try (exfalso;omega))|(refine gs (fun hB=>?_) (fun hB=>?_) <;> try (exfalso;omega)))|(refine gc ?_;first|refine ct ?_|refine cf ?_|(refine ci (fun hB=>?_) (fun hB=>?_) <;> try (exfalso;omega))|(refine cn (fun hB=>?_) (fun hB=>?_) <;> try (exfalso;omega))|(refine cb (fun hB=>?_) (fun hB=>?_) <;> try (exfalso;omega)))|refine sq ?_|refine rg ?_|refine xc ?_|refine nl ?_|refine sk ?_|refine bk ?_|refine xe ?_|refine rt ?_|refine xb ?_|refine rq ?_|refine nq ?_|(refine wq ?_;first|(refine qao ?_;first|refine qaw ?_|refine qa ?_|refine qibe ?_)|refine qacw ?_|refine qa ?_|refine qld ?_|refine qldl ?_|refine qlnm ?_|refine qixmn ?_|refine qixm ?_|refine qli ?_|refine qlb ?_|refine qlv ?_|refine qln ?_|refine qixn ?_|refine qix ?_|refine qle ?_|refine qgy ?_|refine qgn ?_|refine qgu ?_|(refine qgsi (fun hB=>?_) (fun hB=>?_) <;> try (exfalso;omega))|(refine qgsn (fun hB=>?_) (fun hB=>?_) <;> try (exfalso;omega))|(refine qgs (fun hB=>?_) (fun hB=>?_) <;> try (exfalso;omega)))
    all_goals exact lp (a + 1) ⟨by omega,hta⟩
  ·rw [decide_eq_false fun h=>hdl h.1] at hs1
   repeat' first|refine qibn ?_|(refine qle (xs:=Bs sb) ?_ (hj:=Bs_get sb a (by omega));rw [hs1])|refine qixmn (l:=sb) (g:=.bool) ?_|refine qmx hmx ?_|refine qlie (l:=t) hy ?_|(refine wo ?_;first|(refine ao ?_;first|refine aw ?_|refine aw6 ?_|refine oa ?_|refine adiv ?_|refine amod ?_|refine shr1 ?_|refine shr ?_|refine umod ?_|refine isl ?_|refine ipe ?_|refine ipn ?_|refine ibe ?_)|refine acw ?_|refine ucv ?_|refine anw ?_|refine oa ?_|refine ld ?_|refine ldl ?_|refine lnm ?_|refine ixmn ?_|refine ixm ?_|refine li ?_|refine lb ?_|refine lv ?_|refine ln ?_|refine ixn ?_|refine ix ?_|refine le ?_|refine sr ?_|refine soi ?_|refine sob ?_|refine scm ?_|refine sclm ?_|refine schm ?_|refine gy ?_|refine gn ?_|refine gnn ?_|refine gu ?_|(refine gsi (fun hB=>?_) (fun hB=>?_) <;> try (exfalso;omega))|(refine gsn (fun hB=>?_) (fun hB=>?_) <;> try (exfalso;omega))|(refine gs (fun hB=>?_) (fun hB=>?_) <;> try (exfalso;omega)))|(refine gc ?_;first|refine ct ?_|refine cf ?_|(refine ci (fun hB=>?_) (fun hB=>?_) <;> try (exfalso;omega))|(refine cn (fun hB=>?_) (fun hB=>?_) <;> try (exfalso;omega))|(refine cb (fun hB=>?_) (fun hB=>?_) <;> try (exfalso;omega)))|refine sq ?_|refine rg ?_|refine xc ?_|refine nl ?_|refine sk ?_|refine bk ?_|refine xe ?_|refine rt ?_|refine xb ?_|refine rq ?_|refine nq ?_|(refine wq ?_;first|(refine qao ?_;first|refine qaw ?_|refine qa ?_|refine qibe ?_)|refine qacw ?_|refine qa ?_|refine qld ?_|refine qldl ?_|refine qlnm ?_|refine qixmn ?_|refine qixm ?_|refine qli ?_|refine qlb ?_|refine qlv ?_|refine qln ?_|refine qixn ?_|refine qix ?_|refine qle ?_|refine qgy ?_|refine qgn ?_|refine qgu ?_|(refine qgsi (fun hB=>?_) (fun hB=>?_) <;> try (exfalso;omega))|(refine qgsn (fun hB=>?_) (fun hB=>?_) <;> try (exfalso;omega))|(refine qgs (fun hB=>?_) (fun hB=>?_) <;> try (exfalso;omega)))
   all_goals exact lp (a + 1) ⟨by omega,hta⟩
end Go.Art
