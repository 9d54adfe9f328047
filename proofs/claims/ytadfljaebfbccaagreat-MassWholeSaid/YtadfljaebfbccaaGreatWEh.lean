/- Texts put together: Ga Vl Rr Zj Vn Rc Vo Vp Vq Vr Vs. Conditions: none. -/
import Derived.Test.YtadfljaebfbccaaGreatWEg
set_option linter.unusedSimpArgs false
set_option linter.unusedVariables false
namespace Go.Art
open Go Go.Proofs Go.RowKit
section
variable {P:Program} {E:Env P} {n:Sh} {X:Cx} {s:List K} {fr:Fr} {A A':List Ch} {ops:Array Oper} {rest:List Oper} {d:Nat} {ty t el:TypeId} {pos:String} {after:Array Edge} {v z:Value} {x y:Operand} {by_:Nat}
end
attribute [local irreducible] Fit pt own ro vw mpc lpt vels rels mow lrc dfr
attribute [local irreducible] lmp lme mit velg relg
structure RmG where
 u:AlS
 dn:List Bool
 i:Nat
end Go.Art
namespace Go.Art
open Go Go.Proofs Go.RowKit
structure RvG where
 i:Nat
 v1:Value
 v2:Value
 ss:List Value
 gs:List Value
attribute [local irreducible] Fit pt own ro vw mpc lpt vels rels mow lrc dfr
attribute [local irreducible] lmp lme mit velg relg bnd owl natG setP szL solE risR
end Go.Art
namespace Go.Art
open Go Go.Proofs Go.RowKit
attribute [local irreducible] Fit pt own ro vw mpc lpt vels rels mow lrc dfr
attribute [local irreducible] lmp lme mit velg relg bnd owl dfrl
theorem SameRowsT_tr (v u:Value) (hs hs2:List Value) (ls:List (List Int)) (hl:hs.length = ls.length) (hl2:hs2.length = ls.length):Tr Tryz.prog 14 [v,u] [vw v hs,velg I hs ls,vw u hs2,velg I hs2 ls] [] fun w D=>w = .bool true∧D = []:=by
 refine Tr.enter env _ Tryz.func14 (by kernel_rfl) rfl Tryz.ntmps14 rfl (by repeat (first | exact has00 | refine has01 ?_)) fun w0=>?_
 refine TC.fact (fun w hw=>vw_len (has_vw (F:=[vw v hs,velg I hs ls,vw u hs2,velg I hs2 ls] ++ []) (v:=v) (xs:=hs) memA) w hw) fun hll=>?_
 repeat' first|(refine wo ?_;first|(refine ao ?_;first|refine oa ?_)|refine oa ?_|refine ln ?_)|refine sq ?_|refine rg ?_|refine xc ?_|refine nl ?_|refine bk ?_
 refine TC.loop (ι:=Nat) (fun i=>[(6,I i),(5,.bool true)]) (fun _=>[]) (fun i=>i ≤ ls.length) (fun i=>ls.length - i) 0 [0,1] (Nat.zero_le _) ?_ (hs:=by rw [hl,hl2,show decide ((ls.length:Int) = ls.length) = true from decide_eq_true rfl];(repeat (refine Sub.cons rfl (by first | rfl | go_num) ?_));exact Sub.nil)
 rintro i hi
 by_cases hlt:i < ls.length
 ·have hg1:hs[i]? = some (hs.getD i nS):=by rw [List.getD_eq_getElem?_getD,List.getElem?_eq_getElem (by omega)];rfl
  have hg2:hs2[i]? = some (hs2.getD i nS):=by rw [List.getD_eq_getElem?_getD,List.getElem?_eq_getElem (by omega)];rfl
  have hS:=SameIntsT_tr (hs.getD i nS) (hs2.getD i nS) (ls.getD i [])
  repeat' first|refine qle (xs:=hs) ?_ (hj:=hg1)|refine qle (xs:=hs2) ?_ (hj:=hg2)|refine qca hS (v:=.bool true) (fun _ _ h=>h) ?_ (hp:=has1 (has_elg (g:=I) (hs:=hs) (ls:=ls) hasA hlt) (has1 (has_elg (g:=I) (hs:=hs2) (ls:=ls) hasA hlt) has0))|(refine wo ?_;first|(refine ao ?_;first|refine aw ?_|refine oa ?_)|refine oa ?_|refine ln ?_|refine gy ?_)|(refine gc ?_;first|(refine ci (fun hB=>?_) (fun hB=>?_) <;> try (exfalso;omega)))|refine sq ?_|refine rg ?_|refine xc ?_|refine nl ?_|refine sk ?_|refine bk ?_|refine xb ?_|refine rq ?_|refine nq ?_|(refine wq ?_;first|refine qa ?_|refine qixn ?_)
  exact lp (i + 1) hlt
 ·obtain rfl:i = ls.length:=by omega
  repeat' first|(refine wo ?_;first|(refine ao ?_;first|refine oa ?_)|refine oa ?_|refine ln ?_|refine gy ?_)|(refine gc ?_;first|(refine ci (fun hB=>?_) (fun hB=>?_) <;> try (exfalso;omega)))|refine sq ?_|refine rg ?_|refine xc ?_|refine nl ?_|refine xe ?_|refine rt ?_
  exact r1 ⟨rfl,rfl⟩
end Go.Art
namespace Go.Art
open Go Go.Proofs Go.RowKit
attribute [local irreducible] Fit pt own ro vw mpc lpt vels rels mow lrc dfr
attribute [local irreducible] lmp lme mit velg relg
theorem SameRatioT_tr (t:Fr3) (n1 d1 n2 d2:Value):Tr Tryz.prog 29 [.agg #[.bool t.1,n1,d1],.agg #[.bool t.1,n2,d2]] [vw n1 (Us t.2.1),vw d1 (Us t.2.2),vw n2 (Us t.2.1),vw d2 (Us t.2.2)] []
  fun v D=>v = .bool true∧D = []:=(SameRatio_tr t t n1 d1 n2 d2).mono fun v D h=>by rw [decide_eq_true rfl] at h;exact h
end Go.Art
namespace Go.Art
open Go Go.Proofs Go.RowKit
theorem mass2:massW (failW 1) [1] 1 0 = (rqf (mkRat 1 1),0):=by rw [failW_fun];exact massW_ok (by decide) (by decide) (by decide) (by decide)
theorem sets1:setsW [1,3] 3 = ([[0],[1],[2],[0,1],[0,2],[1,2]],0):=by decide
attribute [local irreducible] Fit pt own ro vw mpc lpt vels rels mow lrc dfr
attribute [local irreducible] lmp lme mit velg relg bnd owl dfrl massW setsW massD
theorem dear23_tr (tv:Value) (t:List Int) (k n:Int):Tr Tryz.prog 9 [tv,I k,I n] [vw tv (Is t)] [] fun v D=>(∃ b,v = .bool b∧(b = false→t.length ≤ 12∧(k ≤ 40∨65536 < k)∧(n ≤ 12∨4096 < n)))∧D = []:=by
 refine Tr.enter env _ Tryz.func9 (by kernel_rfl) rfl Tryz.ntmps9 rfl (by repeat (first | exact has00 | refine has01 ?_)) fun w0=>?_
 by_cases h1:(12:Int) < t.length
 ·repeat' first|(refine wo ?_;first|(refine ao ?_;first|refine oa ?_)|refine oa ?_|refine lnm ?_|refine gn ?_|refine gu ?_|(refine gsi (fun hB=>?_) (fun hB=>?_) <;> try (exfalso;omega)))|refine sq ?_|refine rg ?_|refine xc ?_|refine nl ?_|refine rt ?_
  all_goals exact r1 ⟨⟨true,rfl,by intro h;cases h⟩,rfl⟩
 by_cases h2:40 < k
 ·by_cases h3:k ≤ 65536
  ·repeat' first|(refine wo ?_;first|(refine ao ?_;first|refine oa ?_)|refine oa ?_|refine lnm ?_|refine gy ?_|refine gn ?_|refine gu ?_|(refine gsi (fun hB=>?_) (fun hB=>?_) <;> try (exfalso;omega)))|refine sq ?_|refine rg ?_|refine xc ?_|refine nl ?_|refine rt ?_
   all_goals exact r1 ⟨⟨true,rfl,by intro h;cases h⟩,rfl⟩
  ·by_cases h4:12 < n
   ·by_cases h5:n ≤ 4096
    ·repeat' first|(refine wo ?_;first|(refine ao ?_;first|refine oa ?_)|refine oa ?_|refine lnm ?_|refine gy ?_|(refine gsi (fun hB=>?_) (fun hB=>?_) <;> try (exfalso;omega)))|refine sq ?_|refine rg ?_|refine xc ?_|refine nl ?_|refine rt ?_
     all_goals (refine r1 ⟨⟨_,rfl,fun h=>?_⟩,rfl⟩;simp at h;omega)
    ·repeat' first|(refine wo ?_;first|(refine ao ?_;first|refine oa ?_)|refine oa ?_|refine lnm ?_|refine gy ?_|(refine gsi (fun hB=>?_) (fun hB=>?_) <;> try (exfalso;omega)))|refine sq ?_|refine rg ?_|refine xc ?_|refine nl ?_|refine rt ?_
     all_goals (refine r1 ⟨⟨_,rfl,fun h=>?_⟩,rfl⟩;omega)
   ·repeat' first|(refine wo ?_;first|(refine ao ?_;first|refine oa ?_)|refine oa ?_|refine lnm ?_|refine gy ?_|refine gn ?_|(refine gsi (fun hB=>?_) (fun hB=>?_) <;> try (exfalso;omega)))|refine sq ?_|refine rg ?_|refine xc ?_|refine nl ?_|refine rt ?_
    all_goals (refine r1 ⟨⟨_,rfl,fun h=>?_⟩,rfl⟩;omega)
 ·by_cases h4:12 < n
  ·by_cases h5:n ≤ 4096
   ·repeat' first|(refine wo ?_;first|(refine ao ?_;first|refine oa ?_)|refine oa ?_|refine lnm ?_|refine gy ?_|refine gn ?_|(refine gsi (fun hB=>?_) (fun hB=>?_) <;> try (exfalso;omega)))|refine sq ?_|refine rg ?_|refine xc ?_|refine nl ?_|refine rt ?_
    all_goals (refine r1 ⟨⟨_,rfl,fun h=>?_⟩,rfl⟩;simp at h;omega)
   ·repeat' first|(refine wo ?_;first|(refine ao ?_;first|refine oa ?_)|refine oa ?_|refine lnm ?_|refine gy ?_|refine gn ?_|(refine gsi (fun hB=>?_) (fun hB=>?_) <;> try (exfalso;omega)))|refine sq ?_|refine rg ?_|refine xc ?_|refine nl ?_|refine rt ?_
    all_goals (refine r1 ⟨⟨_,rfl,fun h=>?_⟩,rfl⟩;omega)
  ·repeat' first|(refine wo ?_;first|(refine ao ?_;first|refine oa ?_)|refine oa ?_|refine lnm ?_|refine gy ?_|refine gn ?_|(refine gsi (fun hB=>?_) (fun hB=>?_) <;> try (exfalso;omega)))|refine sq ?_|refine rg ?_|refine xc ?_|refine nl ?_|refine rt ?_
   all_goals (refine r1 ⟨⟨_,rfl,fun h=>?_⟩,rfl⟩;omega)
theorem is23_tr (t:Fr3) (e:Int) (n1 d1:Value) (x y:Nat) (hx:x < 9223372036854775808) (hy:y < 9223372036854775808) (hy0:y ≠ 0):Tr Tryz.prog 24 [.agg #[.bool t.1,n1,d1],I e,I x,I y] [vw n1 (Us t.2.1),vw d1 (Us t.2.2)] []
  fun v D=>v = .bool (decide (e = 0∧t = rqf (mkRat x y)))∧D = []:=by
 have hP:=FPair_tr x y hx hy hy0
 unfold FQ2 at hP
 have hl:0 < (dg (mkRat (x:Int) y).den).length:=by have:=dg_len_pos (mkRat (x:Int) y).den_nz;omega
 generalize mkRat (x:Int) y = q at *
 refine Tr.enter env _ Tryz.func24 (by kernel_rfl) rfl Tryz.ntmps24 rfl (by repeat (first | exact has00 | refine has01 ?_)) fun w0=>?_
 repeat' first|(refine gca ?_;first|(refine ca hP ?_;rintro _ _ ⟨vn,vd,rfl,hvn,hvd,rfl⟩)|(refine ca (SameRatio_tr t (rqf q) n1 d1 vn vd) ?_;rintro _ _ ⟨rfl,rfl⟩))|refine bx fun b1=>?_|refine al fun b2=>?_|refine lda ?_|refine srz ?_|(refine wo ?_;first|(refine ao ?_;first|refine oa ?_)|refine oa ?_|refine ld ?_|refine lnm ?_|refine gy ?_|refine gn ?_|(refine gsi (fun hB=>?_) (fun hB=>?_) <;> try (exfalso;omega)))|refine sq ?_|refine rg ?_|refine xc ?_|refine nl ?_|refine rt ?_
 ·refine r1 ⟨?_,rfl⟩
  congr 1;exact decide_eq_decide.2 ⟨fun h=>⟨by assumption,h⟩,fun h=>h.2⟩
 ·refine r1 ⟨?_,rfl⟩
  rw [decide_eq_false fun h=>absurd h.1 (by assumption)]
theorem fails23_tr (tv:Value) (t:List Int) (k n:Int) (x y:Nat) (hx:x < 9223372036854775808) (hy:y < 9223372036854775808) (hy0:y ≠ 0) (hl:t.length ≤ 12) (hk:k ≤ 40∨65536 < k) (hn:n ≤ 12∨4096 < n) (h:massW (failW k) t k n = (rqf (mkRat x y),0)) :
  Tr Tryz.prog 31 [tv,I k,I n,I x,I y] [vw tv (Is t)] [] fun v D=>v = .bool true∧D = []:=by
 have hF:=MFail_tr tv t k n hl hk hn
 rw [h] at hF
 have hI:=fun a b=>is23_tr (rqf (mkRat x y)) 0 a b x y hx hy hy0
 simp only [and_self,decide_true] at hI
 unfold FW at hF
 dsimp only at hF
 generalize mkRat (x:Int) y = q at *
 refine Tr.enter env _ Tryz.func31 (by kernel_rfl) rfl Tryz.ntmps31 rfl (by repeat (first | exact has00 | refine has01 ?_)) fun w0=>?_
 repeat' first|(refine gca ?_;first|(refine ca hF ?_;rintro _ _ ⟨vn,vd,rfl,hvn,hvd,rfl⟩)|(refine ca (hI vn vd) ?_;rintro _ _ ⟨rfl,rfl⟩))|refine al fun c=>?_|refine srz ?_|refine lda ?_|(refine wo ?_;first|refine oa ?_)|refine sq ?_|refine rg ?_|refine xc ?_|refine nl ?_|refine rt ?_
 exact r1 ⟨rfl,rfl⟩
theorem awake23_tr:Tr Tryz.prog 10 [] [] [] fun v D=>v = .bool true∧D = []:=by
 have hS:=fun s=>MSets_tr s [1,3] 3
 rw [sets1] at hS
 dsimp only at hS
 have hF1:=fun s=>fails23_tr s [1,1] 2 2 3 8 (by decide) (by decide) (by decide) (by decide) (by decide) (by decide) mass1
 have hF2:=fun s=>fails23_tr s [1] 1 0 1 1 (by decide) (by decide) (by decide) (by decide) (by decide) (by decide) mass2
 have hR:=fun v u hs v1 v2 v3 v4 v5 v6 hl=>SameRowsT_tr v u hs [v1,v2,v3,v4,v5,v6] [[0],[1],[2],[0,1],[0,2],[1,2]] hl rfl
 refine Tr.enter env _ Tryz.func10 (by kernel_rfl) rfl Tryz.ntmps10 rfl (by repeat (first | exact has00 | refine has01 ?_)) fun w0=>?_
 repeat' first|(refine gca ?_;first|(refine ca (hS _) ?_;rintro _ _ ⟨sv,ss,rfl,hsv,hsl,rfl⟩)|(refine ca (hF1 _) ?_;rintro _ _ ⟨rfl,rfl⟩)|(refine ca (hF2 _) ?_;rintro _ _ ⟨rfl,rfl⟩)|(refine ca (hR _ _ ss _ _ _ _ _ _ hsl) ?_ (hp:=has1 hasA (has1 (has_owl (e:=TLI) hsl memA) (has1 hasA (has1 (has_elg_cons hasA (has_elg_cons hasA (has_elg_cons hasA (has_elg_cons hasA (has_elg_cons hasA (has_elg_cons hasA has_elg_nil)))))) has0))));rintro _ _ ⟨rfl,rfl⟩))|refine slz fun v hv=>?_|refine slw fun v hv=>?_|(refine wo ?_;first|(refine ao ?_;first|refine oa ?_)|refine oa ?_|refine gy ?_)|refine sq ?_|refine rg ?_|refine xc ?_|refine nl ?_|refine rt ?_
 exact r1 ⟨rfl,rfl⟩
theorem MassSets_tr (tv:Value) (t:List Int) (k:Int):Tr Tryz.prog 3 [tv,I k] [vw tv (Is t)] [] fun v D=>v = .bool true∧D = []:=by
 have hD:=dear23_tr tv t k 0
 refine Tr.enter env _ Tryz.func3 (by kernel_rfl) rfl Tryz.ntmps3 rfl (by repeat (first | exact has00 | refine has01 ?_)) fun w0=>?_
 repeat' first|(refine gca ?_;first|(refine ca hD ?_;rintro _ _ ⟨⟨b,rfl,hb⟩,rfl⟩;cases b)|(refine ca awake23_tr ?_;rintro _ _ ⟨rfl,rfl⟩))|(refine wo ?_;first|refine oa ?_)|(refine gc ?_;first|refine ct ?_|refine cf ?_)|refine sq ?_|refine rg ?_|refine xc ?_|refine nl ?_|refine sk ?_|refine rt ?_
 rotate_left
 ·exact r1 ⟨rfl,rfl⟩
 obtain ⟨h1,h2,_⟩:=hb rfl
 have hC:=CopyInts_tr tv t (by omega)
 have hS:=fun o=>MSets_tr o t k
 have hR:=Sets23_tr tv t k h2
 generalize setsW t k = sw at *
 obtain ⟨L,e⟩:=sw
 dsimp only at hS hR
 repeat' first|(refine gca ?_;first|(refine ca hC ?_;rintro o _ rfl)|(refine ca (hS o) ?_;rintro _ _ ⟨v1,hs1,rfl,hv1,hl1,rfl⟩)|(refine ca hR ?_;rintro _ _ ⟨v2,hs2,rfl,hv2,hl2,rfl⟩)|(refine ca (SameRowsT_tr v1 v2 hs1 hs2 L hl1 hl2) ?_ (hp:=has1 hasA (has1 (has_owl (e:=TLI) hl1 memA) (has1 hasA (has1 (has_owl (e:=TLI) hl2 memA) has0))));rintro _ _ ⟨rfl,rfl⟩))|(refine wo ?_;first|(refine ao ?_;first|refine oa ?_)|refine oa ?_|refine gy ?_)|refine sq ?_|refine rg ?_|refine xc ?_|refine nl ?_|refine bk ?_
 refine TC.fact (fun w hw=>vw_len (has_own (e:=TLs) (v:=v1) (xs:=hs1) memA) w hw) fun hml=>?_
 refine TC.loop (ι:=Nat) (fun i=>[(11,I i)]) (fun i=>[own TLs v1 hs1,owl TLI I (hs1.drop i) (L.drop i)]) (fun i=>i ≤ L.length) (fun i=>L.length - i) 0 [0,5,6,10] (Nat.zero_le _) ?_
 rintro i hi
 by_cases hlt:i < L.length
 ·have hg1:hs1[i]? = some (hs1.getD i nS):=by rw [List.getD_eq_getElem?_getD,List.getElem?_eq_getElem (by omega)];rfl
  rw [drop_getD hlt [],drop_getD (l:=hs1) (by omega) nS]
  refine TC.im (owl_pop (e:=TLI) (g:=I) (h:=hs1.getD i nS) (l:=L.getD i []) (hs:=hs1.drop (i + 1)) (ls:=L.drop (i + 1)) fitA) ?_
  repeat' first|(refine gca ?_;first|(refine ca (OverInts_tr (hs1.getD i nS) (L.getD i [])) ?_;rintro _ _ rfl))|refine le (xs:=hs1) ?_ (hj:=hg1)|(refine can (OverInts_tr (hs1.getD i nS) (L.getD i [])) ?_;rintro _ _ rfl)|(refine wo ?_;first|(refine ao ?_;first|refine aw ?_|refine oa ?_)|refine oa ?_|refine ln ?_|refine ixn ?_)|(refine gc ?_;first|(refine ci (fun hB=>?_) (fun hB=>?_) <;> try (exfalso;omega)))|refine sq ?_|refine rg ?_|refine xc ?_|refine nl ?_|refine sk ?_|refine bk ?_|refine xb ?_
  exact lp (i + 1) hlt
 ·obtain rfl:i = L.length:=by omega
  have hSI:=SameIntsT_tr o tv t
  repeat' first|(refine gca ?_;first|(refine ca hSI ?_;rintro _ _ ⟨rfl,rfl⟩)|(refine ca awake23_tr ?_;rintro _ _ ⟨rfl,rfl⟩))|(refine wo ?_;first|(refine ao ?_;first|refine oa ?_)|refine oa ?_|refine ln ?_|refine gy ?_|(refine gsi (fun hB=>?_) (fun hB=>?_) <;> try (exfalso;omega)))|(refine gc ?_;first|(refine ci (fun hB=>?_) (fun hB=>?_) <;> try (exfalso;omega)))|refine sq ?_|refine rg ?_|refine xc ?_|refine nl ?_|refine xe ?_|refine rt ?_
  all_goals exact r1 ⟨rfl,rfl⟩
end Go.Art
namespace Go.Art
open Go Go.Proofs Go.RowKit
def msk (l:List Int):Nat:=(l.map fun s=>2 ^ s.toNat).sum
def popK (k a:Nat):Nat:=((List.range k).map fun j=>a / 2 ^ j % 2).sum
def rmsk (k:Nat) (l:List Int):Nat:=msk (ordF 0 (upto k) (l.drop 2))
def fct:Nat→Nat
 | 0=>1
 | n + 1=>(n + 1) * fct n
def chkA (k:Nat):Bool:=(List.range (k + 1)).all fun d=>(endsL d k []).all fun js=>(ordF 0 (upto k) js).all (fun s=>decide (0 ≤ s∧s < k)) && Nat.blt (msk (ordF 0 (upto k) js)) (2 ^ k)
def chkB (k:Nat):Bool:=(List.range (2 ^ k)).all fun a=>Nat.ble (popK k a) k && (Nat.beq a 0 || Nat.blt 0 (popK k a)) && (List.range (k + 1)).all fun d=>Nat.beq ((endsL d k []).filter fun js=>Nat.beq (msk (ordF 0 (upto k) js)) a).length (bif Nat.beq d (popK k a) then fct d else 0)
theorem chkA_ok:(List.range 5).all chkA = true:=by kernel_rfl
theorem chkB_ok:(List.range 5).all chkB = true:=by kernel_rfl
theorem ord_in {k d:Nat} {js:List Int} (hk:k ≤ 4) (hd:d ≤ k) (h:js ∈ endsL d k []):(∀ s ∈ ordF 0 (upto k) js,0 ≤ s∧s < k)∧msk (ordF 0 (upto k) js) < 2 ^ k:=by
 have h1:=List.all_eq_true.1 chkA_ok k (List.mem_range.2 (by omega))
 have h2:=List.all_eq_true.1 h1 d (List.mem_range.2 (by omega))
 have h3:=List.all_eq_true.1 h2 js h
 rw [Bool.and_eq_true] at h3
 exact ⟨fun s hs=>of_decide_eq_true (List.all_eq_true.1 h3.1 s hs),by simpa [Nat.blt,Nat.succ_le_iff] using Nat.le_of_ble_eq_true h3.2⟩
theorem pop_in {k a:Nat} (hk:k ≤ 4) (ha:a < 2 ^ k):popK k a ≤ k∧(1 ≤ a→1 ≤ popK k a)∧∀ d,d ≤ k→((endsL d k []).filter fun js=>Nat.beq (msk (ordF 0 (upto k) js)) a).length = if d = popK k a then fct d else 0:=by
 have h1:=List.all_eq_true.1 chkB_ok k (List.mem_range.2 (by omega))
 have h2:=List.all_eq_true.1 h1 a (List.mem_range.2 ha)
 rw [Bool.and_eq_true,Bool.and_eq_true,Bool.or_eq_true] at h2
 obtain ⟨⟨g1,g2⟩,g3⟩:=h2
 refine ⟨Nat.le_of_ble_eq_true g1,fun h=>?_,fun d hd=>?_⟩
 ·rcases g2 with g2 | g2
  ·have:=Nat.eq_of_beq_eq_true g2;omega
  ·exact Nat.le_of_ble_eq_true g2
 ·have g4:=Nat.eq_of_beq_eq_true (List.all_eq_true.1 g3 d (List.mem_range.2 (by omega)))
  rw [g4]
  by_cases e:d = popK k a
  ·rw [if_pos e,show Nat.beq d (popK k a) = true from by rw [e];exact Nat.beq_refl _];rfl
  ·rw [if_neg e,show Nat.beq d (popK k a) = false from by
    cases hb:Nat.beq d (popK k a) with
    | false=>rfl
    | true=>exact absurd (Nat.eq_of_beq_eq_true hb) e];rfl
theorem sum_filter {α:Type} (p:α→Bool) (w:α→Nat) (m:Nat):∀ (l:List α),(∀ x ∈ l,w x = bif p x then m else 0)→(l.map w).sum = (l.filter p).length * m
 | [],_=>by simp
 | a :: l,h=>by
  have ih:=sum_filter p w m l fun x hx=>h x (by simp [hx])
  rw [List.map_cons,List.sum_cons,ih,h a (by simp),List.filter_cons]
  cases p a with
  | true=>rw [cond_true,if_pos rfl,List.length_cons,Nat.succ_mul];omega
  | false=>rw [cond_false,if_neg (by simp)];omega
theorem sum_fmF {α:Type} (w:α→Nat) (f:Nat→List α):∀ (k:Nat),(((List.range k).flatMap f).map w).sum = ((List.range k).map fun i=>((f i).map w).sum).sum
 | 0=>by simp
 | k + 1=>by rw [fm_succ,List.map_append,List.sum_append,sum_fmF w f k,List.range_succ,List.map_append,List.sum_append];simp
def wtA (k a:Nat) (l:List Int):Nat:=bif Nat.beq (rmsk k l) a then wt k l else 0
def shrM (k a:Nat) (d:Nat):Nat:=if d = popK k a then fct d * (24 / fall k d) else 0
theorem lvl_wtA {tot:Int} {cut oth:List Int} {k c x a:Nat} (hE:alE tot cut oth = 0) (hk:cut.length ≤ k∧k ≤ 4) (hc:c < cut.length) (ha:a < 2 ^ k):((lvlL tot cut oth k c x).map (wtA k a)).sum = shrM k a (alPick tot cut oth c x + 1).toNat:=by
 have hin:=alPick_in hE (c:=c) (l:=x) (by omega)
 obtain ⟨d,hd⟩ : ∃ d,d = (alPick tot cut oth c x + 1).toNat:=⟨_,rfl⟩
 have hdk:d ≤ k:=by omega
 unfold lvlL
 rw [← hd,endsL_pre,List.map_map,sum_filter (fun js=>Nat.beq (msk (ordF 0 (upto k) js)) a) _ (24 / fall k d)]
 ·rw [(pop_in hk.2 ha).2.2 d hdk]
  unfold shrM
  by_cases e:d = popK k a
  ·rw [if_pos e,if_pos e]
  ·rw [if_neg e,if_neg e,Nat.zero_mul]
 ·intro js hjs
  have hl:=endsL_mem _ _ _ _ hjs
  show wtA k a ([(c:Int),(x:Int)] ++ js) = _
  unfold wtA rmsk wt
  rw [show ([(c:Int),(x:Int)] ++ js).drop 2 = js from rfl,show ([(c:Int),(x:Int)] ++ js).length - 2 = js.length by simp,hl]
  simp
theorem sum_two (a:Int) (p q:Int):∀ (T:Nat),0 ≤ a→a ≤ T→((List.range T).map fun x:Nat=>if (x:Int) < a then p else q).sum = a * p + ((T:Int) - a) * q
 | 0,h0,h1=>by
  obtain rfl:a = 0:=by omega
  simp
 | T + 1,h0,h1=>by
  rw [List.range_succ,List.map_append,List.sum_append]
  simp only [List.map_cons,List.map_nil,List.sum_cons,List.sum_nil]
  by_cases e:a = (T + 1:Nat)
  ·rw [if_pos (by omega),show ((List.range T).map fun x:Nat=>if (x:Int) < a then p else q) = (List.range T).map fun x:Nat=>if (x:Int) < (T:Int) then p else q from List.map_congr_left fun x hx=>by
    have:=List.mem_range.1 hx
    rw [if_pos (by omega),if_pos (by omega)],sum_two (T:Int) p q T (by omega) (Int.le_refl _),e]
   push_cast
   grind
  ·rw [if_neg (by omega),sum_two a p q T h0 (by omega)]
   push_cast
   grind
theorem cast_sum {α:Type} (f:α→Nat):∀ l:List α,(((l.map f).sum:Nat):Int) = (l.map fun x=>(f x:Int)).sum
 | []=>rfl
 | a :: l=>by rw [List.map_cons,List.sum_cons,List.map_cons,List.sum_cons,← cast_sum f l];omega
theorem mul_sum {α:Type} (m:Int) (f:α→Int):∀ l:List α,(l.map fun x=>m * f x).sum = m * (l.map f).sum
 | []=>by simp
 | a :: l=>by rw [List.map_cons,List.sum_cons,List.map_cons,List.sum_cons,mul_sum m f l,Int.mul_add]
theorem all_wtA {t:List Int} {k a:Nat} (hw:∀ w ∈ t,0 ≤ w∧w ≤ 16777215) (hl:1 ≤ t.length∧t.length ≤ k) (hk:k ≤ 4) (hs:0 < t.sum) (ha:1 ≤ a∧a < 2 ^ k) :
  ((((allL t.sum (alF t).cut (alF t).oth k).map (wtA k a)).sum:Nat):Int) = if popK k a ≤ t.length then ((fct (popK k a) * (24 / fall k (popK k a)):Nat):Int) * (t.getD (popK k a - 1) 0 * t.length) else 0:=by
 obtain ⟨hE,hcl,_⟩:=alF_ok hw (by omega) hs
 obtain ⟨p1,p2,_⟩:=pop_in hk ha.2
 have p3:=p2 ha.1
 have hsum:=sum_bound hw
 obtain ⟨m,hm⟩ : ∃ m,m = fct (popK k a) * (24 / fall k (popK k a)):=⟨_,rfl⟩
 unfold allL
 rw [sum_fmF,cast_sum,hcl]
 have hrow:∀ c:Nat,c < t.length→((((colL t.sum (alF t).cut (alF t).oth k c).map (wtA k a)).sum:Nat):Int) = (m:Int) * ((if c + 1 = popK k a then (alF t).cut.getD c 0 else 0) + (if (alF t).oth.getD c 0 + 1 = popK k a then t.sum - (alF t).cut.getD c 0 else 0)):=fun c hc=>by
  have hcut:=(alF_share hw (by omega) hs 0 (by omega)).2 c hc
  unfold colL
  rw [sum_fmF,cast_sum]
  have hin1:=alPick_in hE (c:=c) (l:=0) (by omega)
  have hg:∀ x:Nat,x < t.sum.toNat→((((lvlL t.sum (alF t).cut (alF t).oth k c x).map (wtA k a)).sum:Nat):Int) = if (x:Int) < (alF t).cut.getD c 0 then (if c + 1 = popK k a then (m:Int) else 0) else (if (alF t).oth.getD c 0 + 1 = popK k a then (m:Int) else 0):=fun x hx=>by
   have hin:=alPick_in hE (c:=c) (l:=x) (by omega)
   rw [lvl_wtA hE (by omega) (by omega) ha.2]
   unfold shrM
   have hp:alPick t.sum (alF t).cut (alF t).oth c x = if (x:Int) < (alF t).cut.getD c 0 then (c:Int) else (alF t).oth.getD c 0:=by unfold alPick;rw [Int.toNat_natCast]
   rw [hp] at hin ⊢
   by_cases e:(x:Int) < (alF t).cut.getD c 0
   ·rw [if_pos e] at hin ⊢
    rw [if_pos e]
    by_cases q:c + 1 = popK k a
    ·rw [if_pos (by omega),if_pos q,hm,show ((c:Int) + 1).toNat = popK k a by omega]
    ·rw [if_neg (by omega),if_neg q];rfl
   ·rw [if_neg e] at hin ⊢
    rw [if_neg e]
    by_cases q:(alF t).oth.getD c 0 + 1 = popK k a
    ·rw [if_pos (by omega),if_pos q,hm,show ((alF t).oth.getD c 0 + 1).toNat = popK k a by omega]
    ·rw [if_neg (by omega),if_neg q];rfl
  rw [show ((List.range t.sum.toNat).map fun x=>((((lvlL t.sum (alF t).cut (alF t).oth k c x).map (wtA k a)).sum:Nat):Int)) = _ from List.map_congr_left fun x hx=>hg x (List.mem_range.1 hx),sum_two _ _ _ _ hcut.1 (by omega)]
  rw [show ((t.sum.toNat:Nat):Int) = t.sum by omega]
  by_cases q1:c + 1 = popK k a
  ·by_cases q2:(alF t).oth.getD c 0 + 1 = popK k a
   ·rw [if_pos q1,if_pos q2,if_pos q1,if_pos q2];grind
   ·rw [if_pos q1,if_neg q2,if_pos q1,if_neg q2];grind
  ·by_cases q2:(alF t).oth.getD c 0 + 1 = popK k a
   ·rw [if_neg q1,if_pos q2,if_neg q1,if_pos q2];grind
   ·rw [if_neg q1,if_neg q2,if_neg q1,if_neg q2];grind
 rw [show ((List.range t.length).map fun c=>((((colL t.sum (alF t).cut (alF t).oth k c).map (wtA k a)).sum:Nat):Int)) = _ from List.map_congr_left fun c hc=>hrow c (List.mem_range.1 hc),mul_sum]
 by_cases hp:popK k a ≤ t.length
 ·rw [if_pos hp,← (alF_share hw (by omega) hs (popK k a - 1) (by omega)).1,← hm]
  congr 2
  refine List.map_congr_left fun c _=>?_
  congr 1
  ·by_cases q:c + 1 = popK k a
   ·rw [if_pos q,if_pos (by omega)]
   ·rw [if_neg q,if_neg (by omega)]
  ·by_cases q:(alF t).oth.getD c 0 + 1 = popK k a
   ·rw [if_pos q,if_pos (by omega)]
   ·rw [if_neg q,if_neg (by omega)]
 ·rw [if_neg hp]
  have z:((List.range t.length).map fun c=>(if c + 1 = popK k a then (alF t).cut.getD c 0 else 0) + (if (alF t).oth.getD c 0 + 1 = popK k a then t.sum - (alF t).cut.getD c 0 else 0)) = (List.range t.length).map fun _=>(0:Int):=List.map_congr_left fun c hc=>by
   have hc:=List.mem_range.1 hc
   have hb:=alE_bnd hE
   have ho:=alPick_in hE (c:=c) (l:=t.sum) (by omega)
   have hcut:=(alF_share hw (by omega) hs 0 (by omega)).2 c hc
   unfold alPick at ho
   rw [Int.toNat_natCast,if_neg (by omega)] at ho
   rw [if_neg (by omega),if_neg (by omega)];rfl
  rw [z]
  have:((List.range t.length).map fun _=>(0:Int)).sum = 0:=by
   generalize t.length = n
   induction n with
   | zero=>rfl
   | succ n ih=>rw [List.range_succ,List.map_append,List.sum_append,ih];rfl
  rw [this];simp
theorem chs24:∀ k,k ≤ 4→∀ d,d ≤ k→fct d * (24 / fall k d) * chs k d = 24∧chs k d ≠ 0:=by decide
open Go Go.Proofs Go.RowKit
theorem natG_zero (W:List (List Int)→Bool) (L:List (List Int × Nat)) (b:List (List Int)) (m:Nat):natG W L 0 b m = if W b then m else 0:=by rw [natG]
theorem natG_succ (W:List (List Int)→Bool) (L:List (List Int × Nat)) (n:Nat) (b:List (List Int)) (m:Nat):natG W L (n + 1) b m = (L.map fun s=>natG W L n (b ++ [s.1]) (m * s.2)).sum:=by rw [natG]
theorem sum_mulR {α:Type} (f:α→Nat) (c:Nat):∀ l:List α,(l.map fun x=>f x * c).sum = (l.map f).sum * c
 | []=>by simp
 | a :: l=>by rw [List.map_cons,List.sum_cons,List.map_cons,List.sum_cons,sum_mulR f c l,Nat.add_mul]
theorem natG_lin (W:List (List Int)→Bool) (L:List (List Int × Nat)) (c:Nat):∀ n b m,natG W L n b (m * c) = natG W L n b m * c
 | 0,b,m=>by rw [natG_zero,natG_zero];split <;> simp
 | n + 1,b,m=>by
  rw [natG_succ,natG_succ,← sum_mulR]
  refine congrArg List.sum (List.map_congr_left fun s _=>?_)
  rw [Nat.mul_right_comm,natG_lin W L c n]
theorem natG_same (W:List (List Int)→Bool) {L M:List (List Int × Nat)} {D E:Nat} (H:∀ F:List Int→Nat,(L.map fun s=>F s.1 * s.2).sum * E = (M.map fun s=>F s.1 * s.2).sum * D):∀ n b m,natG W L n b m * E ^ n = natG W M n b m * D ^ n
 | 0,b,m=>by rw [natG_zero,natG_zero,Nat.pow_zero,Nat.pow_zero]
 | n + 1,b,m=>by
  have h1:natG W L (n + 1) b m * E ^ (n + 1) = (L.map fun s=>(natG W L n (b ++ [s.1]) m * E ^ n) * s.2).sum * E:=by
   rw [natG_succ,Nat.pow_succ,← Nat.mul_assoc,← sum_mulR]
   congr 1
   refine congrArg List.sum (List.map_congr_left fun s _=>?_)
   rw [natG_lin,Nat.mul_right_comm]
  have h2:natG W M (n + 1) b m * D ^ (n + 1) = (M.map fun s=>(natG W M n (b ++ [s.1]) m * D ^ n) * s.2).sum * D:=by
   rw [natG_succ,Nat.pow_succ,← Nat.mul_assoc,← sum_mulR]
   congr 1
   refine congrArg List.sum (List.map_congr_left fun s _=>?_)
   rw [natG_lin,Nat.mul_right_comm]
  rw [h1,h2,← H fun x=>natG W M n (b ++ [x]) m * D ^ n]
  congr 2
  exact List.map_congr_left fun s _=>by rw [natG_same W H n]
theorem natG_all {L:List (List Int × Nat)} {D:Nat} (hD:(L.map (·.2)).sum = D):∀ n b m,natG (fun _=>true) L n b m = m * D ^ n
 | 0,b,m=>by rw [natG_zero,if_pos rfl,Nat.pow_zero,Nat.mul_one]
 | n + 1,b,m=>by
  rw [natG_succ]
  have:(L.map fun s=>natG (fun _=>true) L n (b ++ [s.1]) (m * s.2)) = L.map fun s=>s.2 * (m * D ^ n):=List.map_congr_left fun s _=>by rw [natG_all hD n,Nat.mul_assoc,Nat.mul_left_comm]
  rw [this,sum_mulR (fun s:List Int × Nat=>s.2) (m * D ^ n) L,hD,Nat.pow_succ,Nat.mul_comm D,Nat.mul_assoc]
theorem natG_leW {W V:List (List Int)→Bool} (h:∀ b,W b = true→V b = true) (L:List (List Int × Nat)):∀ n b m,natG W L n b m ≤ natG V L n b m
 | 0,b,m=>by
  rw [natG_zero,natG_zero]
  by_cases e:W b = true
  ·rw [if_pos e,if_pos (h b e)];exact Nat.le_refl _
  ·rw [if_neg e];exact Nat.zero_le _
 | n + 1,b,m=>by
  rw [natG_succ,natG_succ]
  have key:∀ l:List (List Int × Nat),(l.map fun s=>natG W L n (b ++ [s.1]) (m * s.2)).sum ≤ (l.map fun s=>natG V L n (b ++ [s.1]) (m * s.2)).sum:=by
   intro l
   induction l with
   | nil=>simp
   | cons a r ih=>simp only [List.map_cons,List.sum_cons];have:=natG_leW h L n (b ++ [a.1]) (m * a.2);omega
  exact key L
theorem natG_more {W:List (List Int)→Bool} {L:List (List Int × Nat)} {D:Nat} (hD:(L.map (·.2)).sum = D) (hW:∀ b,∀ s ∈ L,W (b ++ [s.1]) = true→W b = true):∀ n b m,natG W L (n + 1) b m ≤ natG W L n b m * D
 | 0,b,m=>by
  rw [natG_succ,natG_zero]
  by_cases e:W b = true
  ·rw [if_pos e,← hD]
   have key:∀ l:List (List Int × Nat),(l.map fun s=>natG W L 0 (b ++ [s.1]) (m * s.2)).sum ≤ m * (l.map (·.2)).sum:=by
    intro l
    induction l with
    | nil=>simp
    | cons a r ih=>
     simp only [List.map_cons,List.sum_cons]
     have:natG W L 0 (b ++ [a.1]) (m * a.2) ≤ m * a.2:=by rw [natG_zero];split <;> simp
     rw [Nat.mul_add];omega
   exact key L
  ·rw [if_neg e,Nat.zero_mul]
   have:(L.map fun s=>natG W L 0 (b ++ [s.1]) (m * s.2)) = L.map fun _=>0:=List.map_congr_left fun s hs=>by
    rw [natG_zero,if_neg fun h=>e (hW b s hs h)]
   rw [this,sum_const (fun _=>0) 0 L fun _ _=>rfl,Nat.mul_zero]
   exact Nat.le_refl _
 | n + 1,b,m=>by
  rw [natG_succ,natG_succ W L n,← sum_mulR]
  have key:∀ l:List (List Int × Nat),(l.map fun s=>natG W L (n + 1) (b ++ [s.1]) (m * s.2)).sum ≤ (l.map fun s=>natG W L n (b ++ [s.1]) (m * s.2) * D).sum:=by
   intro l
   induction l with
   | nil=>simp
   | cons a r ih=>simp only [List.map_cons,List.sum_cons];have:=natG_more hD hW n (b ++ [a.1]) (m * a.2);omega
  exact key L
theorem failW_more (k:Int) (b:List (List Int)) (s:List Int) (h:failW k (b ++ [s]) = true):failW k b = true:=by
 unfold failW at h ⊢
 have h:=of_decide_eq_true h
 refine decide_eq_true ?_
 unfold largeR at h ⊢
 by_cases e:stopE k (b ++ [s]) = 0
 ·rw [if_pos e] at h
  obtain ⟨k1,k2,hset⟩:=stopE_zero e
  have e2:stopE k b = 0:=by
   unfold stopE
   rw [if_neg (by omega),if_neg]
   intro h3
   obtain ⟨l,hl,h4⟩:=List.any_eq_true.1 h3
   rw [hset l (by simp [hl])] at h4;cases h4
  rw [if_pos e2]
  obtain ⟨x,hx⟩:=List.exists_mem_of_length_pos h
  have hx:=mem_large.1 hx
  exact List.length_pos_of_mem (mem_large.2 ⟨hx.1,fun hk=>hx.2 (hk.mono fun l hl=>by simp [hl])⟩)
 ·rw [if_neg e] at h;simp at h
theorem failW_none {k:Int} (hk:1 ≤ k∧k ≤ 65536):failW k [] = true:=by
 unfold failW
 refine decide_eq_true ?_
 unfold largeR
 rw [if_pos (by unfold stopE;rw [if_neg (by omega),if_neg (by simp)])]
 exact List.length_pos_of_mem (mem_large.2 ⟨⟨Int.le_refl 0,by omega⟩,fun h=>by obtain ⟨l,hl,_⟩:=h.mem;cases hl⟩)
theorem sum_flatMap {α β:Type} (w:β→Nat) (f:α→List β):∀ l:List α,((l.flatMap f).map w).sum = (l.map fun a=>((f a).map w).sum).sum
 | []=>rfl
 | a :: l=>by rw [List.flatMap_cons,List.map_append,List.sum_append,sum_flatMap w f l,List.map_cons,List.sum_cons]
theorem itemS_sum {t:List Int} {k:Nat} (hz:solE t k = 0):((itemS t k).map (·.2)).sum = oneS t k:=by
 obtain ⟨z1,z2,z3,z4⟩:=solE_zero hz
 have h1:(itemS t k).map (·.2) = (setP t k t.length).map fun s=>wS t k s.length:=by unfold itemS;rw [List.map_map];rfl
 rw [h1]
 have h2:∀ i,i < t.length→((szL t k i).map fun s=>wS t k s.length).sum = (t.getD i 0).toNat * prodC k t.length:=fun i hi=>by
  unfold szL
  by_cases e:t.getD i 0 = 0
  ·rw [if_pos e,e];simp
  ·rw [if_neg e,sum_const (fun s:List Int=>wS t k s.length) (wS t k (i + 1)) (risR (i + 1) 0 k) (fun s hs=>by rw [(risR_mem _ _ _ _ hs).1]),risR_len]
   unfold wS
   rw [Nat.sub_zero,Nat.add_sub_cancel,Nat.mul_comm,Nat.mul_assoc,prodX_mul (by omega) (by omega)]
 have h3:∀ n,n ≤ t.length→((setP t k n).map fun s=>wS t k s.length).sum = (t.take n).sum.toNat * prodC k t.length:=by
  intro n
  induction n with
  | zero=>intro _;rw [setP_zero];simp
  | succ n ih=>
   intro hn
   rw [setP_succ,List.map_append,List.sum_append,ih (by omega),h2 n (by omega),take_succ' (show n < t.length by omega) 0,List.sum_append,← Nat.add_mul]
   congr 1
   have ha:=(z3 (t.getD n 0) (by rw [List.getD_eq_getElem?_getD,List.getElem?_eq_getElem (by omega)];exact List.getElem_mem (by omega))).1
   have hb:0 ≤ (t.take n).sum:=(sum_bound (t:=t.take n) fun w hw=>z3 w (List.mem_of_mem_take hw)).1
   simp only [List.sum_cons,List.sum_nil,Int.add_zero]
   omega
 rw [h3 t.length (Nat.le_refl _),List.take_length];rfl
open Go Go.Proofs Go.RowKit
def setA (k a:Nat):List Int:=(belowI k).filter fun s=>Nat.beq (a / 2 ^ s.toNat % 2) 1
def chkP (k:Nat):Bool:=(List.range (k + 1)).all fun d=>(risR d 0 k).isPerm (((List.range (2 ^ k)).filter fun a=>Nat.beq (popK k a) d).map (setA k))
def chkO (k:Nat):Bool:=(List.range (k + 1)).all fun d=>(endsL d k []).all fun js=>(ordF 0 (upto k) js).isPerm (setA k (msk (ordF 0 (upto k) js))) && Nat.beq (popK k (msk (ordF 0 (upto k) js))) d
theorem chkP_ok:(List.range 5).all chkP = true:=by kernel_rfl
theorem chkO_ok:(List.range 5).all chkO = true:=by kernel_rfl
theorem setA_sorted (k a:Nat):(setA k a).Pairwise (· < ·):=(belowI_sorted k).sublist List.filter_sublist
theorem ris_perm {k d:Nat} (hk:k ≤ 4) (hd:d ≤ k):(risR d 0 k).Perm (((List.range (2 ^ k)).filter fun a=>Nat.beq (popK k a) d).map (setA k)):=by
 have h1:=List.all_eq_true.1 chkP_ok k (List.mem_range.2 (by omega))
 exact List.isPerm_iff.1 (List.all_eq_true.1 h1 d (List.mem_range.2 (by omega)))
theorem ord_set {k d:Nat} {js:List Int} (hk:k ≤ 4) (hd:d ≤ k) (h:js ∈ endsL d k []):srt (ordF 0 (upto k) js) = setA k (msk (ordF 0 (upto k) js))∧popK k (msk (ordF 0 (upto k) js)) = d:=by
 have h1:=List.all_eq_true.1 chkO_ok k (List.mem_range.2 (by omega))
 have h2:=List.all_eq_true.1 h1 d (List.mem_range.2 (by omega))
 have h3:=List.all_eq_true.1 h2 js h
 rw [Bool.and_eq_true] at h3
 have hp:=List.isPerm_iff.1 h3.1
 exact ⟨((srt_perm _).trans hp).eq_of_pairwise (fun a b _ _ h1 h2=>by omega) (srt_sorted _) ((setA_sorted _ _).imp fun h=>by omega),Nat.eq_of_beq_eq_true h3.2⟩
theorem row_set {t:List Int} {k:Nat} {l:List Int} (hz:solE t k = 0) (hk:k ≤ 4) (h:l ∈ rowsA t k):rowS k l = setA k (rmsk k l)∧rmsk k l < 2 ^ k∧1 ≤ rmsk k l∧wR k l * 24 = wt k l * fall k k:=by
 obtain ⟨hr,h2,hs⟩:=alias_ok hz
 obtain ⟨c,x,js,hc,hx,hj,rfl⟩:=allL_row h
 obtain ⟨hE,k1,k2,k3⟩:=rwE_ok hr
 have hin:=alPick_in hE (c:=c) (l:=x) (by omega)
 have hjl:=endsL_mem _ _ _ _ hj
 simp only [List.length_nil,Nat.zero_add] at hjl
 have hd:(alPick t.sum (alF t).cut (alF t).oth c x + 1).toNat ≤ k:=by omega
 obtain ⟨o1,o2⟩:=ord_set hk hd hj
 obtain ⟨o3,o4⟩:=ord_in hk hd hj
 have hm:rmsk k ((c:Int) :: (x:Int) :: js) = msk (ordF 0 (upto k) js):=rfl
 have hpop:=(pop_in hk o4).1
 refine ⟨by rw [hm,← o1];rfl,by rw [hm];exact o4,?_,?_⟩
 ·rw [hm]
  refine Nat.pos_of_ne_zero fun e=>?_
  rw [e] at o2
  have:popK k 0 = 0:=by
   unfold popK
   rw [show ((List.range k).map fun j=>0 / 2 ^ j % 2) = (List.range k).map fun _=>0 from List.map_congr_left fun j _=>by simp]
   rw [sum_const (fun _=>0) 0 (List.range k) fun _ _=>rfl,Nat.mul_zero]
  omega
 ·have e1:((c:Int) :: (x:Int) :: js).length - 2 = js.length:=rfl
  unfold wR wt
  rw [e1]
  obtain ⟨f1,f2,f3⟩:=fall24 k hk js.length (by omega)
  have hsp:fall k k = fall k js.length * fall (k - js.length) (k - js.length):=by rw [← fall_split,show js.length + (k - js.length) = k by omega]
  rw [hsp,← Nat.mul_assoc,Nat.mul_comm (24 / fall k js.length),f3,Nat.mul_comm]
theorem sum_hit (G:Nat→Nat) (x v:Nat):∀ N,((List.range N).map fun a=>G a * (bif Nat.beq x a then v else 0)).sum = if x < N then G x * v else 0
 | 0=>by simp
 | N + 1=>by
  rw [List.range_succ,List.map_append,List.sum_append,sum_hit G x v N]
  simp only [List.map_cons,List.map_nil,List.sum_cons,List.sum_nil,Nat.add_zero]
  by_cases e:x = N
  ·subst e
   rw [if_neg (by omega),if_pos (by omega),show Nat.beq x x = true from Nat.beq_refl x];simp
  ·rw [show Nat.beq x N = false from by
    cases hb:Nat.beq x N with
    | false=>rfl
    | true=>exact absurd (Nat.eq_of_beq_eq_true hb) e]
   by_cases e2:x < N
   ·rw [if_pos e2,if_pos (by omega)];simp
   ·rw [if_neg e2,if_neg (by omega)];simp
theorem sum_addL {α:Type} (f g:α→Nat):∀ l:List α,(l.map fun x=>f x + g x).sum = (l.map f).sum + (l.map g).sum
 | []=>rfl
 | a :: l=>by simp only [List.map_cons,List.sum_cons,sum_addL f g l];omega
theorem sum_by {α:Type} (f w:α→Nat) (G:Nat→Nat) (N:Nat):∀ L:List α,(∀ r ∈ L,f r < N)→(L.map fun r=>G (f r) * w r).sum = ((List.range N).map fun a=>G a * (L.map fun r=>bif Nat.beq (f r) a then w r else 0).sum).sum
 | [],_=>by
  rw [show ((List.range N).map fun a=>G a * (([]:List α).map fun r=>bif Nat.beq (f r) a then w r else 0).sum) = (List.range N).map fun _=>0 from List.map_congr_left fun a _=>by simp,sum_const (fun _=>0) 0 (List.range N) fun _ _=>rfl];simp
 | r :: L,h=>by
  rw [List.map_cons,List.sum_cons,sum_by f w G N L fun r hr=>h r (by simp [hr])]
  rw [show ((List.range N).map fun a=>G a * ((r :: L).map fun r=>bif Nat.beq (f r) a then w r else 0).sum) = (List.range N).map fun a=>G a * (bif Nat.beq (f r) a then w r else 0) + G a * (L.map fun r=>bif Nat.beq (f r) a then w r else 0).sum from List.map_congr_left fun a _=>by rw [List.map_cons,List.sum_cons,Nat.mul_add]]
  rw [sum_addL,sum_hit,if_pos (h r (by simp))]
theorem sum_filt {α:Type} (p:α→Bool) (h:α→Nat):∀ l:List α,((l.filter p).map h).sum = (l.map fun a=>bif p a then h a else 0).sum
 | []=>rfl
 | a :: l=>by
  rw [List.filter_cons,List.map_cons,List.sum_cons,← sum_filt p h l]
  cases p a <;> simp
theorem sum_pop (p h:Nat→Nat) (A:List Nat):∀ n,((List.range n).map fun i=>((A.filter fun a=>Nat.beq (p a) (i + 1)).map h).sum).sum = (A.map fun a=>if 1 ≤ p a∧p a ≤ n then h a else 0).sum
 | 0=>by
  rw [show (A.map fun a=>if 1 ≤ p a∧p a ≤ 0 then h a else 0) = A.map fun _=>0 from List.map_congr_left fun a _=>if_neg (by omega),sum_const (fun _=>0) 0 A fun _ _=>rfl];simp
 | n + 1=>by
  rw [List.range_succ,List.map_append,List.sum_append,sum_pop p h A n]
  simp only [List.map_cons,List.map_nil,List.sum_cons,List.sum_nil,Nat.add_zero]
  rw [sum_filt,← sum_addL]
  refine congrArg List.sum (List.map_congr_left fun a _=>?_)
  by_cases e:p a = n + 1
  ·rw [if_neg (by omega),show Nat.beq (p a) (n + 1) = true from by rw [e];exact Nat.beq_refl _,if_pos (by omega)];simp
  ·rw [show Nat.beq (p a) (n + 1) = false from by
    cases hb:Nat.beq (p a) (n + 1) with
    | false=>rfl
    | true=>exact absurd (Nat.eq_of_beq_eq_true hb) e]
   by_cases e2:1 ≤ p a∧p a ≤ n
   ·rw [if_pos e2,if_pos (by omega)];simp
   ·rw [if_neg e2,if_neg (by omega)];simp
theorem sets_by {t:List Int} {k:Nat} (hz:solE t k = 0) (hk:k ≤ 4) (F:List Int→Nat):((itemS t k).map fun s=>F s.1 * s.2).sum = ((List.range (2 ^ k)).map fun a=>if 1 ≤ popK k a∧popK k a ≤ t.length then F (setA k a) * wS t k (popK k a) else 0).sum:=by
 obtain ⟨z1,z2,z3,z4⟩:=solE_zero hz
 have h1:((itemS t k).map fun s=>F s.1 * s.2) = (setP t k t.length).map fun s=>F s * wS t k s.length:=by unfold itemS;rw [List.map_map];rfl
 rw [h1,← sum_pop (popK k) (fun a=>F (setA k a) * wS t k (popK k a)) (List.range (2 ^ k)) t.length]
 show (((List.range t.length).flatMap (szL t k)).map _).sum = _
 rw [sum_flatMap]
 refine congrArg List.sum (List.map_congr_left fun i hi=>?_)
 have hi:=List.mem_range.1 hi
 have h2:(((List.range (2 ^ k)).filter fun a=>Nat.beq (popK k a) (i + 1)).map fun a=>F (setA k a) * wS t k (popK k a)) = (((List.range (2 ^ k)).filter fun a=>Nat.beq (popK k a) (i + 1)).map (setA k)).map fun s=>F s * wS t k (i + 1):=by
  rw [List.map_map]
  refine List.map_congr_left fun a ha=>?_
  have:=Nat.eq_of_beq_eq_true (List.mem_filter.1 ha).2
  show _ = F (setA k a) * wS t k (i + 1)
  rw [this]
 rw [h2,← ((ris_perm hk (show i + 1 ≤ k by omega)).map _).sum_nat]
 unfold szL
 by_cases e:t.getD i 0 = 0
 ·rw [if_pos e,show wS t k (i + 1) = 0 by unfold wS;rw [Nat.add_sub_cancel,e];simp]
  simp only [Nat.mul_zero]
  rw [sum_const (fun _=>0) 0 (risR (i + 1) 0 k) fun _ _=>rfl];simp
 ·rw [if_neg e]
  refine congrArg List.sum (List.map_congr_left fun s hs=>?_)
  rw [(risR_mem _ _ _ _ hs).1]
theorem rows_sets {t:List Int} {k:Nat} (hz:solE t k = 0) (hk:k ≤ 4) (F:List Int→Nat):((itemR t k).map fun s=>F s.1 * s.2).sum * oneS t k = ((itemS t k).map fun s=>F s.1 * s.2).sum * oneR t k:=by
 obtain ⟨z1,z2,z3,z4⟩:=solE_zero hz
 have hs:=sum_posT z3 z4
 have h1:((itemR t k).map fun s=>F s.1 * s.2).sum * 24 = ((rowsA t k).map fun l=>F (setA k (rmsk k l)) * wt k l).sum * fall k k:=by
  rw [← sum_mulR,← sum_mulR]
  unfold itemR
  rw [List.map_map]
  refine congrArg List.sum (List.map_congr_left fun l hl=>?_)
  obtain ⟨r1,_,_,r4⟩:=row_set hz hk hl
  show F (rowS k l) * wR k l * 24 = _
  rw [r1,Nat.mul_assoc,r4,Nat.mul_assoc]
 rw [sum_by (rmsk k) (wt k) (fun a=>F (setA k a)) (2 ^ k) (rowsA t k) fun l hl=>(row_set hz hk hl).2.1] at h1
 have h3:∀ a,a < 2 ^ k→((rowsA t k).map fun l=>bif Nat.beq (rmsk k l) a then wt k l else 0).sum * fall k k * oneS t k = 24 * ((if 1 ≤ popK k a∧popK k a ≤ t.length then wS t k (popK k a) else 0) * oneR t k):=fun a ha=>by
  have hw:((rowsA t k).map fun l=>bif Nat.beq (rmsk k l) a then wt k l else 0) = (rowsA t k).map (wtA k a):=rfl
  rw [hw]
  obtain ⟨q1,q2,_⟩:=pop_in hk ha
  by_cases ha1:1 ≤ a
  ·have h5:=all_wtA z3 (by omega) hk hs ⟨ha1,ha⟩
   have q3:=q2 ha1
   by_cases hp:popK k a ≤ t.length
   ·rw [if_pos hp] at h5
    rw [if_pos ⟨q3,hp⟩]
    obtain ⟨c1,c2⟩:=chs24 k hk (popK k a) (by omega)
    have hm:t.getD (popK k a - 1) 0 ∈ t:=by rw [List.getD_eq_getElem?_getD,List.getElem?_eq_getElem (by omega)];exact List.getElem_mem (by omega)
    obtain ⟨τ,hτ⟩ : ∃ τ:Nat,t.getD (popK k a - 1) 0 = τ:=⟨(t.getD (popK k a - 1) 0).toNat,by have:=(z3 _ hm).1;omega⟩
    rw [hτ] at h5
    have h6:((rowsA t k).map (wtA k a)).sum = fct (popK k a) * (24 / fall k (popK k a)) * (τ * t.length):=by exact_mod_cast h5
    rw [h6]
    unfold wS oneS oneR
    rw [hτ,Int.toNat_natCast,← prodX_mul q3 hp]
    generalize fct (popK k a) * (24 / fall k (popK k a)) = m at *
    generalize prodX k (popK k a) t.length = X at *
    generalize chs k (popK k a) = C at *
    generalize t.sum.toNat = T at *
    generalize t.length = N at *
    generalize fall k k = K at *
    rw [← c1]
    grind
   ·rw [if_neg hp] at h5
    rw [if_neg (by omega)]
    have h6:((rowsA t k).map (wtA k a)).sum = 0:=by exact_mod_cast h5
    rw [h6];simp
  ·obtain rfl:a = 0:=by omega
   have h6:((rowsA t k).map (wtA k 0)).sum = 0:=by
    rw [show (rowsA t k).map (wtA k 0) = (rowsA t k).map fun _=>0 from List.map_congr_left fun l hl=>by
     unfold wtA
     rw [show Nat.beq (rmsk k l) 0 = false from by
      cases hb:Nat.beq (rmsk k l) 0 with
      | false=>rfl
      | true=>have:=Nat.eq_of_beq_eq_true hb;have:=(row_set hz hk hl).2.2.1;omega];rfl,sum_const (fun _=>0) 0 (rowsA t k) fun _ _=>rfl,Nat.mul_zero]
   have hp0:popK k 0 = 0:=by
    unfold popK
    rw [show ((List.range k).map fun j=>0 / 2 ^ j % 2) = (List.range k).map fun _=>0 from List.map_congr_left fun j _=>by simp,sum_const (fun _=>0) 0 (List.range k) fun _ _=>rfl,Nat.mul_zero]
   rw [h6,hp0,if_neg (by omega)];simp
 have h7:((itemR t k).map fun s=>F s.1 * s.2).sum * oneS t k * 24 = ((itemS t k).map fun s=>F s.1 * s.2).sum * oneR t k * 24:=by
  rw [Nat.mul_right_comm,h1,sets_by hz hk F,← sum_mulR,← sum_mulR,← sum_mulR,← sum_mulR]
  refine congrArg List.sum (List.map_congr_left fun a ha=>?_)
  have:=h3 a (List.mem_range.1 ha)
  by_cases e:1 ≤ popK k a∧popK k a ≤ t.length
  ·rw [if_pos e] at this ⊢
   rw [Nat.mul_assoc,Nat.mul_assoc,← Nat.mul_assoc _ (fall k k),this]
   grind
  ·rw [if_neg e] at this ⊢
   rw [Nat.mul_assoc,Nat.mul_assoc,← Nat.mul_assoc _ (fall k k),this]
   simp
 exact Nat.eq_of_mul_eq_mul_right (by decide) h7
theorem massD_eq {W:List (List Int)→Bool} {t:List Int} {k n:Nat} (hk:k ≤ 4) (h1:(massD W t k n).2 = 0) (h2:(massW W t k n).2 = 0):massD W t k n = massW W t k n:=by
 unfold massD massW at *
 by_cases hr:refE t k n = 0
 rotate_left
 ·rw [if_neg hr] at h1;exact absurd h1 hr
 rw [if_pos hr] at h1 h2 ⊢
 rw [if_pos hr]
 have hz:=(refE_zero hr).1
 by_cases hs:(setsW t k).2 = 0
 rotate_left
 ·rw [if_neg hs] at h2;cases h2
 rw [if_pos hs] at h2 ⊢
 by_cases hl:(itemR t (k:Int).toNat).length ≤ 4096
 rotate_left
 ·rw [if_neg hl] at h1;cases h1
 rw [if_pos hl] at h1 ⊢
 unfold sumW at *
 split at h1
 ·split at h2
  ·rename_i a b
   rw [Int.toNat_natCast,Int.toNat_natCast] at *
   have key:mkRat ((natG W (itemR t k) n [] 1:Nat):Int) (oneR t k ^ n) = mkRat ((natG W (itemS t k) n [] 1:Nat):Int) (oneS t k ^ n):=by
    rw [Rat.mkRat_eq_iff (Nat.ne_of_gt (Nat.pow_pos (Nat.pos_of_ne_zero (oneR_pos hz)))) (Nat.ne_of_gt (Nat.pow_pos (Nat.pos_of_ne_zero (oneS_pos hz))))]
    have:=natG_same W (rows_sets hz hk) n [] 1
    exact_mod_cast this
   rw [if_pos a,if_pos b,key]
  ·cases h2
 ·cases h1
open Go Go.Proofs Go.RowKit
def smlT (m:Int) (tbl:List Int) (k:Nat):List Int:=(tbl.take k).map fun x=>pick x m
theorem smlT_zero (m:Int) (tbl:List Int):smlT m tbl 0 = []:=rfl
theorem smlT_succ {m:Int} {tbl:List Int} {i:Nat} (h:i < tbl.length):smlT m tbl (i + 1) = smlT m tbl i ++ [pick (tbl.getD i 0) m]:=by
 unfold smlT;rw [take_succ' h 0,List.map_append];rfl
theorem smlT_len (m:Int) (tbl:List Int) (k:Nat):(smlT m tbl k).length = min k tbl.length:=by unfold smlT;simp
theorem smlT_min (m:Int) (tbl:List Int) (k:Nat):smlT m tbl (min k tbl.length) = smlT m tbl k:=by
 unfold smlT
 congr 1
 rcases Nat.le_total k tbl.length with h | h
 ·rw [Nat.min_eq_left h]
 ·rw [Nat.min_eq_right h,List.take_length,List.take_of_length_le h]
theorem pickM_in {x m:Int} (h:1 ≤ m):0 ≤ pick x m∧pick x m < m:=by
 unfold pick
 rw [if_neg (by omega)]
 exact ⟨Int.emod_nonneg _ (by omega),Int.emod_lt_of_pos _ (by omega)⟩
theorem sets2:setsW [0,1] 2 = ([[0,1]],0):=by decide
theorem sets3:setsW [1] 0 = ([],13):=by decide
theorem mass3:massW (failW 3) [1,1,1] 3 6 = (rqn,4):=by
 unfold massW sumW
 rw [if_pos (by decide),if_pos (by decide),if_neg (by decide)]
theorem mass4:massW (failW 1) [1] 1 4097 = (rqn,3):=by
 unfold massW
 rw [if_neg (by decide)]
 rfl
theorem mass5:massW (failW 2) [1] 2 2 = (rqf (mkRat 1 2),0):=by rw [failW_fun];exact massW_ok (by decide) (by decide) (by decide) (by decide)
theorem mass6:massW (fun _=>true) [1,1] 2 3 = (rqf (mkRat 1 1),0):=massW_ok (by decide) (by decide) (by decide) (by decide)
theorem mass7:massW (failW 1) [1] 1 1 = (rqf (mkRat 0 1),0):=by rw [failW_fun];exact massW_ok (by decide) (by decide) (by decide) (by decide)
theorem mass8:massW (failW 2) [1,1] 2 1 = (rqf (mkRat 1 1),0):=by rw [failW_fun];exact massW_ok (by decide) (by decide) (by decide) (by decide)
theorem itemR_few {t:List Int} {k:Nat} (hz:solE t k = 0) (hk:k ≤ 4):(itemR t k).length ≤ t.length * (t.sum.toNat * 24):=by
 obtain ⟨hr,h2,hs⟩:=alias_ok hz
 obtain ⟨hE,k1,k2,k3⟩:=rwE_ok hr
 rw [itemR_len,← h2]
 exact all_le hE (by omega)
theorem massD_told {W:List (List Int)→Bool} {t:List Int} {k n:Nat} (h:refE t k n = 0) (h2:(itemR t k).length ≤ 4096∧(itemR t k).length ^ n ≤ 4096):(massD W t k n).2 = 0:=by
 unfold massD sumW
 rw [if_pos h,Int.toNat_natCast,Int.toNat_natCast,if_pos h2.1,if_pos h2]
theorem drawn1:massD (failW 2) [1] 2 2 = (rqf (mkRat 1 2),0):=by
 have h1:(itemR [1] 2).length ≤ 24:=itemR_few (by decide) (by decide)
 have h2:=massD_told (W:=failW 2) (t:=[1]) (k:=2) (n:=2) (by decide) ⟨by omega,Nat.le_trans (Nat.pow_le_pow_left h1 2) (by decide)⟩
 have:=massD_eq (W:=failW 2) (t:=[1]) (k:=2) (n:=2) (by decide) h2 (by rw [show massW (failW 2) [1] ((2:Nat):Int) ((2:Nat):Int) = _ from mass5])
 exact this.trans mass5
theorem massW_err {W:List (List Int)→Bool} {t:List Int} {k n:Int} (h:refE t k n = 0):(massW W t k n).2 = 0∨(massW W t k n).2 = 4:=by
 unfold massW sumW
 rw [if_pos h]
 split
 ·split
  ·exact .inl rfl
  ·exact .inr rfl
 ·exact .inr rfl
theorem massD_err {W:List (List Int)→Bool} {t:List Int} {k n:Int} (h:refE t k n = 0):(massD W t k n).2 = 0∨(massD W t k n).2 = 4:=by
 unfold massD sumW
 rw [if_pos h]
 split
 ·split
  ·exact .inl rfl
  ·exact .inr rfl
 ·exact .inr rfl
attribute [local irreducible] Fit pt own ro vw mpc lpt vels rels mow lrc dfr
attribute [local irreducible] lmp lme mit velg relg bnd owl dfrl massW setsW massD smlT solE
theorem small23_tr (tv:Value) (tbl:List Int) (k:Nat) (hk:k ≤ 100):Tr Tryz.prog 18 [tv,I k] [vw tv (Is tbl)] [] fun u D=>∃ o,u = tup2 o (.bool (decide (solE (smlT 4 tbl k) k = 0)))∧o.oneCell' = true∧D = [own TLI o (Is (smlT 4 tbl k))]:=by
 have hC:=fun s=>SoCheck_tr s (smlT 4 tbl k) k
 refine Tr.enter env _ Tryz.func18 (by kernel_rfl) rfl Tryz.ntmps18 rfl (by repeat (first | exact has00 | refine has01 ?_)) fun w0=>?_
 refine TC.leni (v:=tv) (l:=tbl) fun htl=>?_
 refine TC.im (own_nil TLI _) ?_
 repeat' first|(refine wo ?_;first|(refine ao ?_;first|refine aw ?_|refine aw6 ?_|refine oa ?_|refine adiv ?_|refine amod ?_|refine shr1 ?_|refine shr ?_|refine umod ?_|refine isl ?_|refine ipe ?_|refine ipn ?_|refine ibe ?_)|refine acw ?_|refine ucv ?_|refine anw ?_|refine oa ?_|refine ld ?_|refine ldl ?_|refine lnm ?_|refine ixmn ?_|refine ixm ?_|refine li ?_|refine lb ?_|refine lv ?_|refine ln ?_|refine ixn ?_|refine ix ?_|refine le ?_|refine sr ?_|refine soi ?_|refine sob ?_|refine scm ?_|refine sclm ?_|refine schm ?_|refine gy ?_|refine gn ?_|refine gnn ?_|refine gu ?_|(refine gsi (fun hB=>?_) (fun hB=>?_) <;> try (exfalso;omega))|(refine gsn (fun hB=>?_) (fun hB=>?_) <;> try (exfalso;omega))|(refine gs (fun hB=>?_) (fun hB=>?_) <;> try (exfalso;omega)))|(refine gc ?_;first|refine ct ?_|refine cf ?_|(refine ci (fun hB=>?_) (fun hB=>?_) <;> try (exfalso;omega))|(refine cn (fun hB=>?_) (fun hB=>?_) <;> try (exfalso;omega))|(refine cb (fun hB=>?_) (fun hB=>?_) <;> try (exfalso;omega)))|refine sq ?_|refine rg ?_|refine xc ?_|refine nl ?_|refine sk ?_|refine bk ?_|refine xe ?_|refine rt ?_|refine xb ?_
 refine TC.loop (ι:=Nat × Value) (fun g=>[(7,I g.1),(6,g.2)]) (fun g=>[own TLI g.2 (Is (smlT 4 tbl g.1))]) (fun g=>g.1 ≤ k∧g.1 ≤ tbl.length∧g.2.oneCell' = true) (fun g=>k - g.1) (0,nS) [0,1] ⟨Nat.zero_le _,Nat.zero_le _,rfl⟩ ?_ (hf:=by dsimp only;rw [smlT_zero 4 tbl];exact fitA)
 rintro ⟨i,o⟩ ⟨h1,h2,ho⟩
 dsimp only at h1 h2 ho ⊢
 by_cases hlt:i < k∧i < tbl.length
 ·have hms:=smlT_succ (m:=4) hlt.2
  have hml:=smlT_len 4 tbl i
  clear hC
  generalize hy:tbl.getD i 0 = y at *
  repeat' first|(refine gca ?_;first|(refine ca (Pick_tr y 4 (by decide)) ?_;rintro _ _ ⟨rfl,rfl⟩))|refine lie hy ?_|refine slii [pick y 4] fun v1=>?_|(refine api (l:=smlT 4 tbl i) (news:=[pick y 4]) (fun o2=>?_) (hl:=by simp only [List.length_cons,List.length_nil];omega);refine TO.one (v:=o2) (xs:=Is (smlT 4 tbl i ++ [pick y 4])) fun ho2=>?_)|(refine wo ?_;first|(refine ao ?_;first|refine aw ?_|refine aw6 ?_|refine oa ?_|refine adiv ?_|refine amod ?_|refine shr1 ?_|refine shr ?_|refine umod ?_|refine isl ?_|refine ipe ?_|refine ipn ?_|refine ibe ?_)|refine acw ?_|refine ucv ?_|refine anw ?_|refine oa ?_|refine ld ?_|refine ldl ?_|refine lnm ?_|refine ixmn ?_|refine ixm ?_|refine li ?_|refine lb ?_|refine lv ?_|refine ln ?_|refine ixn ?_|refine ix ?_|refine le ?_|refine sr ?_|refine soi ?_|refine sob ?_|refine scm ?_|refine sclm ?_|refine schm ?_|refine gy ?_|refine gn ?_|refine gnn ?_|refine gu ?_|(refine gsi (fun hB=>?_) (fun hB=>?_) <;> try (exfalso;omega))|(refine gsn (fun hB=>?_) (fun hB=>?_) <;> try (exfalso;omega))|(refine gs (fun hB=>?_) (fun hB=>?_) <;> try (exfalso;omega)))|(refine gc ?_;first|refine ct ?_|refine cf ?_|(refine ci (fun hB=>?_) (fun hB=>?_) <;> try (exfalso;omega))|(refine cn (fun hB=>?_) (fun hB=>?_) <;> try (exfalso;omega))|(refine cb (fun hB=>?_) (fun hB=>?_) <;> try (exfalso;omega)))|refine sq ?_|refine rg ?_|refine xc ?_|refine nl ?_|refine sk ?_|refine bk ?_|refine xe ?_|refine rt ?_|refine xb ?_
  exact lp (i + 1,o2) ⟨hlt.1,hlt.2,ho2⟩ (hf:=by dsimp only;rw [hms];exact fitA)
 ·have hmi:smlT 4 tbl i = smlT 4 tbl k:=by rw [← smlT_min 4 tbl k];congr 1;omega
  rw [hmi]
  have hC1:=hC o
  generalize solE (smlT 4 tbl k) k = e at *
  repeat' first|(refine gca ?_;first|(refine ca hC1 ?_;rintro _ _ ⟨rfl,rfl⟩))|(refine wo ?_;first|(refine ao ?_;first|refine aw ?_|refine aw6 ?_|refine oa ?_|refine adiv ?_|refine amod ?_|refine shr1 ?_|refine shr ?_|refine umod ?_|refine isl ?_|refine ipe ?_|refine ipn ?_|refine ibe ?_)|refine acw ?_|refine ucv ?_|refine anw ?_|refine oa ?_|refine ld ?_|refine ldl ?_|refine lnm ?_|refine ixmn ?_|refine ixm ?_|refine li ?_|refine lb ?_|refine lv ?_|refine ln ?_|refine ixn ?_|refine ix ?_|refine le ?_|refine sr ?_|refine soi ?_|refine sob ?_|refine scm ?_|refine sclm ?_|refine schm ?_|refine gy ?_|refine gn ?_|refine gnn ?_|refine gu ?_|(refine gsi (fun hB=>?_) (fun hB=>?_) <;> try (exfalso;omega))|(refine gsn (fun hB=>?_) (fun hB=>?_) <;> try (exfalso;omega))|(refine gs (fun hB=>?_) (fun hB=>?_) <;> try (exfalso;omega)))|(refine gc ?_;first|refine ct ?_|refine cf ?_|(refine ci (fun hB=>?_) (fun hB=>?_) <;> try (exfalso;omega))|(refine cn (fun hB=>?_) (fun hB=>?_) <;> try (exfalso;omega))|(refine cb (fun hB=>?_) (fun hB=>?_) <;> try (exfalso;omega)))|refine sq ?_|refine rg ?_|refine xc ?_|refine nl ?_|refine sk ?_|refine bk ?_|refine xe ?_|refine rt ?_|refine xb ?_
  all_goals exact r2 ⟨o,rfl,ho,rfl⟩
theorem MassKnown_tr:Tr Tryz.prog 7 [] [] [] fun v D=>v = .bool true∧D = []:=by
 have hS1:=fun s=>MSets_tr s [0,1] 2
 have hS2:=fun s=>MSets_tr s [1] 0
 rw [sets2] at hS1
 rw [sets3] at hS2
 dsimp only at hS1 hS2
 have hF1:=fun s=>MFail_tr s [1,1,1] 3 6 (by decide) (by decide) (by decide)
 have hF2:=fun s=>MFail_tr s [1] 1 4097 (by decide) (by decide) (by decide)
 have hD:=fun s=>MDrawn_tr s [1] 2 2 (by decide) (by decide) (by decide)
 have hW:=fun s=>MWhole_tr s [1,1] 2 3 (by decide) (by decide) (by decide)
 simp only [mass3] at hF1
 simp only [mass4] at hF2
 simp only [drawn1] at hD
 simp only [mass6] at hW
 unfold FW at hF1 hF2 hD hW
 dsimp only at hF1 hF2 hD hW
 have hG1:=fun s=>fails23_tr s [1] 1 1 0 1 (by decide) (by decide) (by decide) (by decide) (by decide) (by decide) mass7
 have hG2:=fun s=>fails23_tr s [1,1] 2 1 1 1 (by decide) (by decide) (by decide) (by decide) (by decide) (by decide) mass8
 have hG3:=fun s=>fails23_tr s [1] 2 2 1 2 (by decide) (by decide) (by decide) (by decide) (by decide) (by decide) mass5
 have hI1:=fun a b=>is23_tr (rqf (mkRat 1 2)) 0 a b 1 2 (by decide) (by decide) (by decide)
 have hI2:=fun a b=>is23_tr (rqf (mkRat 1 1)) 0 a b 1 1 (by decide) (by decide) (by decide)
 simp only [show ((1:Nat):Int) = 1 from rfl,and_self,decide_true] at hI1 hI2
 have hR:=fun v u hs v1 hl=>SameRowsT_tr v u hs [v1] [[0,1]] hl rfl
 generalize mkRat 1 2 = q1 at *
 generalize mkRat 1 1 = q2 at *
 refine Tr.enter env _ Tryz.func7 (by kernel_rfl) rfl Tryz.ntmps7 rfl (by repeat (first | exact has00 | refine has01 ?_)) fun w0=>?_
 repeat' first|(refine gca ?_;first|(refine ca (hS1 _) ?_;rintro _ _ ⟨sv,ss,rfl,hsv,hsl,rfl⟩)|(refine ca (hS2 _) ?_;rintro _ _ ⟨sv2,ss2,rfl,hsv2,hsl2,rfl⟩)|(refine ca (hF1 _) ?_;rintro _ _ ⟨n1,d1,rfl,hn1,hd1,rfl⟩)|(refine ca (hF2 _) ?_;rintro _ _ ⟨n2,d2,rfl,hn2,hd2,rfl⟩)|(refine ca (hD _) ?_;rintro _ _ ⟨n3,d3,rfl,hn3,hd3,rfl⟩)|(refine ca (hW _) ?_;rintro _ _ ⟨n4,d4,rfl,hn4,hd4,rfl⟩)|(refine ca (hR _ _ ss _ hsl) ?_ (hp:=has1 hasA (has1 (has_owl (e:=TLI) hsl memA) (has1 hasA (has1 (has_elg_cons hasA has_elg_nil) has0))));rintro _ _ ⟨rfl,rfl⟩)|(refine ca awake23_tr ?_;rintro _ _ ⟨rfl,rfl⟩)|(refine ca (hG1 _) ?_;rintro _ _ ⟨rfl,rfl⟩)|(refine ca (hG2 _) ?_;rintro _ _ ⟨rfl,rfl⟩)|(refine ca (hG3 _) ?_;rintro _ _ ⟨rfl,rfl⟩)|(refine ca (hI1 n3 d3) ?_;rintro _ _ ⟨rfl,rfl⟩)|(refine ca (hI2 n4 d4) ?_;rintro _ _ ⟨rfl,rfl⟩))|refine slz fun v hv=>?_|refine al fun c=>?_|refine srz ?_|refine lda ?_|refine slw fun v hv=>?_|(refine wo ?_;first|(refine ao ?_;first|refine aw ?_|refine aw6 ?_|refine oa ?_|refine adiv ?_|refine amod ?_|refine shr1 ?_|refine shr ?_|refine umod ?_|refine isl ?_|refine ipe ?_|refine ipn ?_|refine ibe ?_)|refine acw ?_|refine ucv ?_|refine anw ?_|refine oa ?_|refine ld ?_|refine ldl ?_|refine lnm ?_|refine ixmn ?_|refine ixm ?_|refine li ?_|refine lb ?_|refine lv ?_|refine ln ?_|refine ixn ?_|refine ix ?_|refine le ?_|refine sr ?_|refine soi ?_|refine sob ?_|refine scm ?_|refine sclm ?_|refine schm ?_|refine gy ?_|refine gn ?_|refine gnn ?_|refine gu ?_|(refine gsi (fun hB=>?_) (fun hB=>?_) <;> try (exfalso;omega))|(refine gsn (fun hB=>?_) (fun hB=>?_) <;> try (exfalso;omega))|(refine gs (fun hB=>?_) (fun hB=>?_) <;> try (exfalso;omega)))|(refine gc ?_;first|refine ct ?_|refine cf ?_|(refine ci (fun hB=>?_) (fun hB=>?_) <;> try (exfalso;omega))|(refine cn (fun hB=>?_) (fun hB=>?_) <;> try (exfalso;omega))|(refine cb (fun hB=>?_) (fun hB=>?_) <;> try (exfalso;omega)))|refine sq ?_|refine rg ?_|refine xc ?_|refine nl ?_|refine sk ?_|refine bk ?_|refine xe ?_|refine rt ?_|refine xb ?_
 exact r1 ⟨rfl,rfl⟩
end Go.Art
namespace Go.Art
open Go Go.Proofs Go.RowKit
theorem sg_flip (z:Int):sg (!decide (z < 0)) z.natAbs = -z:=by
 unfold sg
 by_cases h:z < 0
 ·rw [decide_eq_true h];simp;omega
 ·rw [decide_eq_false h];simp;omega
theorem sg_same (z:Int):sg (decide (z < 0)) z.natAbs = z:=by
 unfold sg
 by_cases h:z < 0
 ·rw [decide_eq_true h];simp;omega
 ·rw [decide_eq_false h];simp;omega
theorem FB_neg {q:Rat} {B:Nat} (h:FB q B):FB (-q) B:=by
 refine ⟨?_,?_⟩
 ·rw [Rat.neg_num,Int.natAbs_neg];exact h.1
 ·rw [Rat.neg_den];exact h.2
theorem mk_sign (z:Int) {m:Nat} (hm:m ≠ 0):(mkRat z m).num.sign = z.sign:=by
 rcases Int.lt_trichotomy z 0 with h | h | h
 ·rw [Int.sign_eq_neg_one_of_neg h,Int.sign_eq_neg_one_of_neg ((mk_neg z hm).2 h)]
 ·subst h;simp
 ·have h1:¬ (mkRat z m).num < 0:=fun k=>by have:=(mk_neg z hm).1 k;omega
  have h2:(mkRat z m).num ≠ 0:=fun k=>by
   have:=(Rat.mkRat_eq_zero hm).1 (Rat.num_eq_zero.1 k)
   omega
  rw [Int.sign_eq_one_of_pos h,Int.sign_eq_one_of_pos (by omega)]
theorem mk_subS (a b:Nat) {D E:Nat} (hD:D ≠ 0) (hE:E ≠ 0):(mkRat (a:Int) D - mkRat (b:Int) E).num.sign = ((a:Int) * E - b * D).sign:=by
 have:mkRat (a:Int) D - mkRat (b:Int) E = mkRat ((a:Int) * E - b * D) (D * E):=by
  rw [Rat.sub_eq_add_neg,Rat.neg_mkRat,Rat.mkRat_add_mkRat _ _ hD hE]
  congr 1
  grind
 rw [this,mk_sign _ (Nat.mul_ne_zero hD hE)]
attribute [local irreducible] Fit pt own ro vw mpc lpt vels rels mow lrc dfr
attribute [local irreducible] lmp lme mit velg relg bnd owl
theorem INeg_tr (z:Int) (o:Value) (ho:o.oneCell' = true) (hz:(dg z.natAbs).length ≤ 1099511627776):Tr Tryz.prog 84 [iv z o] [vw o (Us (dg z.natAbs))] [] (IR (-z)):=by
 have hM:=IMake_tr (!decide (z < 0)) o (dg z.natAbs) (Dg_dg _) hz
 rw [nv_dg,sg_flip] at hM
 unfold IR at hM ⊢
 generalize dg z.natAbs = l at *
 generalize dg (-z).natAbs = l2 at *
 show Tr _ _ [.agg #[.bool (decide (z < 0)),o]] _ _ _
 generalize decide (z < 0) = b at *
 generalize decide (-z < 0) = b2 at *
 refine Tr.enter env _ Tryz.func84 (by kernel_rfl) rfl Tryz.ntmps84 rfl (by repeat (first | exact has00 | refine has01 ?_)) fun w0=>?_
 repeat' first|(refine gca ?_;first|(refine ca hM ?_;rintro _ _ ⟨o2,rfl,ho2,rfl⟩))|refine bx fun q=>?_|refine al fun c=>?_|refine srz ?_|(refine wo ?_;first|(refine ao ?_;first|refine aw ?_|refine aw6 ?_|refine oa ?_|refine adiv ?_|refine amod ?_|refine shr1 ?_|refine shr ?_|refine umod ?_|refine isl ?_|refine ipe ?_|refine ipn ?_|refine ibe ?_)|refine acw ?_|refine ucv ?_|refine anw ?_|refine oa ?_|refine ld ?_|refine ldl ?_|refine lnm ?_|refine ixmn ?_|refine ixm ?_|refine li ?_|refine lb ?_|refine lv ?_|refine ln ?_|refine ixn ?_|refine ix ?_|refine le ?_|refine sr ?_|refine soi ?_|refine sob ?_|refine scm ?_|refine sclm ?_|refine schm ?_|refine gy ?_|refine gn ?_|refine gnn ?_|refine gu ?_|(refine gsi (fun hB=>?_) (fun hB=>?_) <;> try (exfalso;omega))|(refine gsn (fun hB=>?_) (fun hB=>?_) <;> try (exfalso;omega))|(refine gs (fun hB=>?_) (fun hB=>?_) <;> try (exfalso;omega)))|(refine gc ?_;first|refine ct ?_|refine cf ?_|(refine ci (fun hB=>?_) (fun hB=>?_) <;> try (exfalso;omega))|(refine cn (fun hB=>?_) (fun hB=>?_) <;> try (exfalso;omega))|(refine cb (fun hB=>?_) (fun hB=>?_) <;> try (exfalso;omega)))|refine sq ?_|refine rg ?_|refine xc ?_|refine nl ?_|refine sk ?_|refine bk ?_|refine xe ?_|refine rt ?_|refine xb ?_
 exact rca1 (b:=c) (cs:=[.bool b2,o2]) (vs:=[.bool b2,o2]) (T:=42) ⟨o2,rfl,ho2,rfl⟩
theorem IHeld_tr (z:Int) (o:Value) (ho:o.oneCell' = true) (hz:(dg z.natAbs).length ≤ 1099511627776):Tr Tryz.prog 85 [iv z o] [vw o (Us (dg z.natAbs))] [] (IR z):=by
 have hM:=IMake_tr (decide (z < 0)) o (dg z.natAbs) (Dg_dg _) hz
 rw [nv_dg,sg_same] at hM
 unfold IR at hM ⊢
 generalize dg z.natAbs = l at *
 show Tr _ _ [.agg #[.bool (decide (z < 0)),o]] _ _ _
 generalize decide (z < 0) = b at *
 refine Tr.enter env _ Tryz.func85 (by kernel_rfl) rfl Tryz.ntmps85 rfl (by repeat (first | exact has00 | refine has01 ?_)) fun w0=>?_
 repeat' first|(refine gca ?_;first|(refine ca hM ?_;rintro _ _ ⟨o2,rfl,ho2,rfl⟩))|refine bx fun q=>?_|refine al fun c=>?_|refine srz ?_|(refine wo ?_;first|(refine ao ?_;first|refine aw ?_|refine aw6 ?_|refine oa ?_|refine adiv ?_|refine amod ?_|refine shr1 ?_|refine shr ?_|refine umod ?_|refine isl ?_|refine ipe ?_|refine ipn ?_|refine ibe ?_)|refine acw ?_|refine ucv ?_|refine anw ?_|refine oa ?_|refine ld ?_|refine ldl ?_|refine lnm ?_|refine ixmn ?_|refine ixm ?_|refine li ?_|refine lb ?_|refine lv ?_|refine ln ?_|refine ixn ?_|refine ix ?_|refine le ?_|refine sr ?_|refine soi ?_|refine sob ?_|refine scm ?_|refine sclm ?_|refine schm ?_|refine gy ?_|refine gn ?_|refine gnn ?_|refine gu ?_|(refine gsi (fun hB=>?_) (fun hB=>?_) <;> try (exfalso;omega))|(refine gsn (fun hB=>?_) (fun hB=>?_) <;> try (exfalso;omega))|(refine gs (fun hB=>?_) (fun hB=>?_) <;> try (exfalso;omega)))|(refine gc ?_;first|refine ct ?_|refine cf ?_|(refine ci (fun hB=>?_) (fun hB=>?_) <;> try (exfalso;omega))|(refine cn (fun hB=>?_) (fun hB=>?_) <;> try (exfalso;omega))|(refine cb (fun hB=>?_) (fun hB=>?_) <;> try (exfalso;omega)))|refine sq ?_|refine rg ?_|refine xc ?_|refine nl ?_|refine sk ?_|refine bk ?_|refine xe ?_|refine rt ?_|refine xb ?_
 exact rca1 (b:=c) (cs:=[.bool b,o2]) (vs:=[.bool b,o2]) (T:=42) ⟨o2,rfl,ho2,rfl⟩
theorem ISign_tr (z:Int) (o:Value) (ho:o.oneCell' = true) (hz:(dg z.natAbs).length ≤ 1099511627776):Tr Tryz.prog 45 [iv z o] [vw o (Us (dg z.natAbs))] [] fun u D=>u = I z.sign∧D = []:=by
 have hM:=IHeld_tr z o ho hz
 unfold IR iv at hM
 have hlp:0 < (dg z.natAbs).length ↔ z ≠ 0:=⟨fun h e=>by rw [e,Int.natAbs_zero,dg_zero] at h;simp at h,fun h=>dg_len_pos (by omega)⟩
 have h1:z < 0→z.sign = -1:=Int.sign_eq_neg_one_of_neg
 have h2:0 < z→z.sign = 1:=Int.sign_eq_one_of_pos
 have h3:z = 0→z.sign = 0:=fun h=>by rw [h];rfl
 generalize dg z.natAbs = l at *
 generalize z.sign = s at *
 show Tr _ _ [.agg #[.bool (decide (z < 0)),o]] _ _ _
 have h4:decide (z < 0) = true ↔ z < 0:=decide_eq_true_iff
 generalize decide (z < 0) = b at *
 cases b with
 | true=>
  have h5:=h1 (h4.1 rfl)
  refine Tr.enter env _ Tryz.func45 (by kernel_rfl) rfl Tryz.ntmps45 rfl (by repeat (first | exact has00 | refine has01 ?_)) fun w0=>?_
  repeat' first|(refine gca ?_;first|(refine ca hM ?_;rintro _ _ ⟨o2,rfl,ho2,rfl⟩))|refine bx fun q=>?_|refine lda ?_|refine srz ?_ (hj:=Nat.le_of_ble_eq_true rfl)|(refine wo ?_;first|(refine ao ?_;first|refine aw ?_|refine aw6 ?_|refine oa ?_|refine adiv ?_|refine amod ?_|refine shr1 ?_|refine shr ?_|refine umod ?_|refine isl ?_|refine ipe ?_|refine ipn ?_|refine ibe ?_)|refine acw ?_|refine ucv ?_|refine anw ?_|refine oa ?_|refine ld ?_|refine ldl ?_|refine lnm ?_|refine ixmn ?_|refine ixm ?_|refine li ?_|refine lb ?_|refine lv ?_|refine ln ?_|refine ixn ?_|refine ix ?_|refine le ?_|refine sr ?_|refine soi ?_|refine sob ?_|refine scm ?_|refine sclm ?_|refine schm ?_|refine gy ?_|refine gn ?_|refine gnn ?_|refine gu ?_|(refine gsi (fun hB=>?_) (fun hB=>?_) <;> try (exfalso;omega))|(refine gsn (fun hB=>?_) (fun hB=>?_) <;> try (exfalso;omega))|(refine gs (fun hB=>?_) (fun hB=>?_) <;> try (exfalso;omega)))|(refine gc ?_;first|refine ct ?_|refine cf ?_|(refine ci (fun hB=>?_) (fun hB=>?_) <;> try (exfalso;omega))|(refine cn (fun hB=>?_) (fun hB=>?_) <;> try (exfalso;omega))|(refine cb (fun hB=>?_) (fun hB=>?_) <;> try (exfalso;omega)))|refine sq ?_|refine rg ?_|refine xc ?_|refine nl ?_|refine sk ?_|refine bk ?_|refine xe ?_|refine rt ?_|refine xb ?_
  all_goals exact r1 ⟨by rw [h5],rfl⟩
 | false=>
  have h5:¬ z < 0:=fun h=>by have:=h4.2 h;cases this
  by_cases h6:z = 0
  ·have h7:¬ 0 < l.length:=fun h=>hlp.1 h h6
   have h8:=h3 h6
   refine Tr.enter env _ Tryz.func45 (by kernel_rfl) rfl Tryz.ntmps45 rfl (by repeat (first | exact has00 | refine has01 ?_)) fun w0=>?_
   repeat' first|(refine gca ?_;first|(refine ca hM ?_;rintro _ _ ⟨o2,rfl,ho2,rfl⟩))|refine bx fun q=>?_|refine lda ?_|refine srz ?_ (hj:=Nat.le_of_ble_eq_true rfl)|(refine wo ?_;first|(refine ao ?_;first|refine aw ?_|refine aw6 ?_|refine oa ?_|refine adiv ?_|refine amod ?_|refine shr1 ?_|refine shr ?_|refine umod ?_|refine isl ?_|refine ipe ?_|refine ipn ?_|refine ibe ?_)|refine acw ?_|refine ucv ?_|refine anw ?_|refine oa ?_|refine ld ?_|refine ldl ?_|refine lnm ?_|refine ixmn ?_|refine ixm ?_|refine li ?_|refine lb ?_|refine lv ?_|refine ln ?_|refine ixn ?_|refine ix ?_|refine le ?_|refine sr ?_|refine soi ?_|refine sob ?_|refine scm ?_|refine sclm ?_|refine schm ?_|refine gy ?_|refine gn ?_|refine gnn ?_|refine gu ?_|(refine gsi (fun hB=>?_) (fun hB=>?_) <;> try (exfalso;omega))|(refine gsn (fun hB=>?_) (fun hB=>?_) <;> try (exfalso;omega))|(refine gs (fun hB=>?_) (fun hB=>?_) <;> try (exfalso;omega)))|(refine gc ?_;first|refine ct ?_|refine cf ?_|(refine ci (fun hB=>?_) (fun hB=>?_) <;> try (exfalso;omega))|(refine cn (fun hB=>?_) (fun hB=>?_) <;> try (exfalso;omega))|(refine cb (fun hB=>?_) (fun hB=>?_) <;> try (exfalso;omega)))|refine sq ?_|refine rg ?_|refine xc ?_|refine nl ?_|refine sk ?_|refine bk ?_|refine xe ?_|refine rt ?_|refine xb ?_
   all_goals exact r1 ⟨by rw [h8],rfl⟩
  ·have h7:=hlp.2 h6
   have h8:=h2 (by omega)
   refine Tr.enter env _ Tryz.func45 (by kernel_rfl) rfl Tryz.ntmps45 rfl (by repeat (first | exact has00 | refine has01 ?_)) fun w0=>?_
   repeat' first|(refine gca ?_;first|(refine ca hM ?_;rintro _ _ ⟨o2,rfl,ho2,rfl⟩))|refine bx fun q=>?_|refine lda ?_|refine srz ?_ (hj:=Nat.le_of_ble_eq_true rfl)|(refine wo ?_;first|(refine ao ?_;first|refine aw ?_|refine aw6 ?_|refine oa ?_|refine adiv ?_|refine amod ?_|refine shr1 ?_|refine shr ?_|refine umod ?_|refine isl ?_|refine ipe ?_|refine ipn ?_|refine ibe ?_)|refine acw ?_|refine ucv ?_|refine anw ?_|refine oa ?_|refine ld ?_|refine ldl ?_|refine lnm ?_|refine ixmn ?_|refine ixm ?_|refine li ?_|refine lb ?_|refine lv ?_|refine ln ?_|refine ixn ?_|refine ix ?_|refine le ?_|refine sr ?_|refine soi ?_|refine sob ?_|refine scm ?_|refine sclm ?_|refine schm ?_|refine gy ?_|refine gn ?_|refine gnn ?_|refine gu ?_|(refine gsi (fun hB=>?_) (fun hB=>?_) <;> try (exfalso;omega))|(refine gsn (fun hB=>?_) (fun hB=>?_) <;> try (exfalso;omega))|(refine gs (fun hB=>?_) (fun hB=>?_) <;> try (exfalso;omega)))|(refine gc ?_;first|refine ct ?_|refine cf ?_|(refine ci (fun hB=>?_) (fun hB=>?_) <;> try (exfalso;omega))|(refine cn (fun hB=>?_) (fun hB=>?_) <;> try (exfalso;omega))|(refine cb (fun hB=>?_) (fun hB=>?_) <;> try (exfalso;omega)))|refine sq ?_|refine rg ?_|refine xc ?_|refine nl ?_|refine sk ?_|refine bk ?_|refine xe ?_|refine rt ?_|refine xb ?_
   all_goals exact r1 ⟨by rw [h8],rfl⟩
theorem FSub_tr (q r:Rat) (v1 v2 v3 v4:Value) (h1:v1.oneCell' = true) (h2:v2.oneCell' = true) (h3:v3.oneCell' = true) (h4:v4.oneCell' = true) (hq:FB q 8589934592) (hr:FB r 8589934592) :
  Tr Tryz.prog 44 [rv q v1 v2,rv r v3 v4] [vw v1 (Us (dg q.num.natAbs)),vw v2 (Us (dg q.den)),vw v3 (Us (dg r.num.natAbs)),vw v4 (Us (dg r.den))] [] (FQ2 (q - r) 0):=by
 have hC1:=FCheck_tr q v1 v2 h1 h2 (hq.le (by decide))
 have hC2:=FCheck_tr r v3 v4 h3 h4 (hr.le (by decide))
 have hN:=INeg_tr r.num v3 h3 (by have:=hr.1;omega)
 have hS:=fun o ho=>FSum_tr q (-r) v1 v2 o v4 h1 h2 ho h4 hq (FB_neg hr)
 rw [← Rat.sub_eq_add_neg] at hS
 unfold rv at hS hC1 hC2
 simp only [Rat.neg_num,Rat.neg_den] at hS
 unfold IR iv at hN
 unfold FQ at hS
 unfold FQ2
 obtain ⟨p,hp⟩ : ∃ p,p = q - r:=⟨_,rfl⟩
 simp only [← hp] at hS ⊢
 clear hp
 show Tr _ _ [.agg #[.bool (decide (q.num < 0)),v1,v2],.agg #[.bool (decide (r.num < 0)),v3,v4]] _ _ _
 generalize dg (-r.num).natAbs = ln at *
 generalize decide (-r.num < 0) = bn at *
 generalize dg q.num.natAbs = lq at *
 generalize dg q.den = lqd at *
 generalize dg r.num.natAbs = lr at *
 generalize dg r.den = lrd at *
 generalize decide (q.num < 0) = b1 at *
 generalize decide (r.num < 0) = b2 at *
 refine Tr.enter env _ Tryz.func44 (by kernel_rfl) rfl Tryz.ntmps44 rfl (by repeat (first | exact has00 | refine has01 ?_)) fun w0=>?_
 repeat' first|(refine gca ?_;first|(refine ca hC1 ?_;rintro _ _ ⟨rfl,rfl⟩)|(refine ca hC2 ?_;rintro _ _ ⟨rfl,rfl⟩))|refine bx fun q=>?_|refine al fun c=>?_|refine lda ?_|(refine wo ?_;first|(refine ao ?_;first|refine aw ?_|refine aw6 ?_|refine oa ?_|refine adiv ?_|refine amod ?_|refine shr1 ?_|refine shr ?_|refine umod ?_|refine isl ?_|refine ipe ?_|refine ipn ?_|refine ibe ?_)|refine acw ?_|refine ucv ?_|refine anw ?_|refine oa ?_|refine ld ?_|refine ldl ?_|refine lnm ?_|refine ixmn ?_|refine ixm ?_|refine li ?_|refine lb ?_|refine lv ?_|refine ln ?_|refine ixn ?_|refine ix ?_|refine le ?_|refine sr ?_|refine soi ?_|refine sob ?_|refine scm ?_|refine sclm ?_|refine schm ?_|refine gy ?_|refine gn ?_|refine gnn ?_|refine gu ?_|(refine gsi (fun hB=>?_) (fun hB=>?_) <;> try (exfalso;omega))|(refine gsn (fun hB=>?_) (fun hB=>?_) <;> try (exfalso;omega))|(refine gs (fun hB=>?_) (fun hB=>?_) <;> try (exfalso;omega)))|(refine gc ?_;first|refine ct ?_|refine cf ?_|(refine ci (fun hB=>?_) (fun hB=>?_) <;> try (exfalso;omega))|(refine cn (fun hB=>?_) (fun hB=>?_) <;> try (exfalso;omega))|(refine cb (fun hB=>?_) (fun hB=>?_) <;> try (exfalso;omega)))|refine sq ?_|refine rg ?_|refine xc ?_|refine nl ?_|refine sk ?_|refine bk ?_|refine xe ?_|refine rt ?_|refine xb ?_
 rename_i q1
 refine rs (fun w=>w.heap[q1]? = some (.cells [.bool b1,v1,v2].toArray TRt (0,0))∧w.heap[q]? = some (.cells [.bool b2,v3,v4].toArray TRt (0,0))) ?_ (fun w hw=>⟨pt_at (b:=q1) (cs:=[.bool b1,v1,v2]) (T:=TRt) memA hw,pt_at (b:=q) (cs:=[.bool b2,v3,v4]) (T:=TRt) memA hw⟩)
 refine tk 0 (v:=.agg #[.bool b1,v1,v2]) (fun w h=>R_loadA (E:=env) (vs:=[.bool b1,v1,v2]) rfl rfl rfl rfl h.1 rfl rfl) ?_
 refine tka 1 ?_
 refine tk 2 (v:=.agg #[.bool b2,v3]) (fun w h=>R_loadA (E:=env) (vs:=[.bool b2,v3]) rfl rfl rfl rfl h.2 rfl rfl) ?_
 refine tka 4 ?_
 refine tkl 5 (cs:=[.bool b2,v3,v4]) (fun w h=>h.2) ?_
 refine t1 3 ?_
 refine ca hN ?_
 rintro _ _ ⟨o2,rfl,ho2,rfl⟩
 refine nl ?_
 refine te (fun w hw=>⟨pt_at (b:=q1) (cs:=[.bool b1,v1,v2]) (T:=TRt) memA hw,pt_at (b:=q) (cs:=[.bool b2,v3,v4]) (T:=TRt) memA hw⟩) ?_
 refine t1 6 ?_
 refine bdm ?_
 refine nl ?_
 refine te (fun w hw=>⟨pt_at (b:=q1) (cs:=[.bool b1,v1,v2]) (T:=TRt) memA hw,pt_at (b:=q) (cs:=[.bool b2,v3,v4]) (T:=TRt) memA hw⟩) ?_
 refine t1 7 ?_
 refine ca (hS o2 ho2) ?_
 rintro _ _ ⟨vn,vd,rfl,hvn,hvd,rfl⟩
 refine nl ?_
 refine te (fun w hw=>⟨pt_at (b:=q1) (cs:=[.bool b1,v1,v2]) (T:=TRt) memA hw,pt_at (b:=q) (cs:=[.bool b2,v3,v4]) (T:=TRt) memA hw⟩) ?_
 refine t1 8 ?_
 refine srz ?_
 refine nl ?_
 refine te (fun w hw=>⟨pt_at (b:=q1) (cs:=[.bool b1,v1,v2]) (T:=TRt) memA hw,pt_at (b:=q) (cs:=[.bool b2,v3,v4]) (T:=TRt) memA hw⟩) ?_
 refine tka 9 ?_
 refine t0 ?_
 repeat' first|(refine wo ?_;first|(refine ao ?_;first|refine aw ?_|refine aw6 ?_|refine oa ?_|refine adiv ?_|refine amod ?_|refine shr1 ?_|refine shr ?_|refine umod ?_|refine isl ?_|refine ipe ?_|refine ipn ?_|refine ibe ?_)|refine acw ?_|refine ucv ?_|refine anw ?_|refine oa ?_|refine ld ?_|refine ldl ?_|refine lnm ?_|refine ixmn ?_|refine ixm ?_|refine li ?_|refine lb ?_|refine lv ?_|refine ln ?_|refine ixn ?_|refine ix ?_|refine le ?_|refine sr ?_|refine soi ?_|refine sob ?_|refine scm ?_|refine sclm ?_|refine schm ?_|refine gy ?_|refine gn ?_|refine gnn ?_|refine gu ?_|(refine gsi (fun hB=>?_) (fun hB=>?_) <;> try (exfalso;omega))|(refine gsn (fun hB=>?_) (fun hB=>?_) <;> try (exfalso;omega))|(refine gs (fun hB=>?_) (fun hB=>?_) <;> try (exfalso;omega)))|(refine gc ?_;first|refine ct ?_|refine cf ?_|(refine ci (fun hB=>?_) (fun hB=>?_) <;> try (exfalso;omega))|(refine cn (fun hB=>?_) (fun hB=>?_) <;> try (exfalso;omega))|(refine cb (fun hB=>?_) (fun hB=>?_) <;> try (exfalso;omega)))|refine sq ?_|refine rg ?_|refine xc ?_|refine nl ?_|refine sk ?_|refine bk ?_|refine xe ?_|refine rt ?_|refine xb ?_
 exact rca (cs:=[.bool (decide (p.num < 0)),vn,vd]) (vs:=[.bool (decide (p.num < 0)),vn,vd]) (T:=TRt) ⟨vn,vd,rfl,hvn,hvd,rfl⟩
theorem FCmp_tr (q r:Rat) (v1 v2 v3 v4:Value) (h1:v1.oneCell' = true) (h2:v2.oneCell' = true) (h3:v3.oneCell' = true) (h4:v4.oneCell' = true) (hq:FB q 8589934592) (hr:FB r 8589934592) (hl:(dg (q - r).num.natAbs).length ≤ 1099511627776) :
  Tr Tryz.prog 23 [rv q v1 v2,rv r v3 v4] [vw v1 (Us (dg q.num.natAbs)),vw v2 (Us (dg q.den)),vw v3 (Us (dg r.num.natAbs)),vw v4 (Us (dg r.den))] [] fun u D=>u = tup2 (I (q - r).num.sign) (I 0)∧D = []:=by
 have hS:=FSub_tr q r v1 v2 v3 v4 h1 h2 h3 h4 hq hr
 obtain ⟨p,hp⟩ : ∃ p,p = q - r:=⟨_,rfl⟩
 rw [← hp] at hS hl ⊢
 clear hp
 have hI:=fun o ho=>ISign_tr p.num o ho hl
 unfold iv at hI
 unfold FQ2 at hS
 refine Tr.enter env _ Tryz.func23 (by kernel_rfl) rfl Tryz.ntmps23 rfl (by repeat (first | exact has00 | refine has01 ?_)) fun w0=>?_
 repeat' first|(refine gca ?_;first|(refine ca hS ?_;rintro _ _ ⟨vn,vd,rfl,hvn,hvd,rfl⟩)|(refine ca (hI vn hvn) ?_;rintro _ _ ⟨rfl,rfl⟩))|refine bx fun q=>?_|refine al fun c=>?_|refine lda ?_|refine lda (vs:=[.bool (decide (p.num < 0)),vn]) ?_|refine srz ?_|(refine wo ?_;first|(refine ao ?_;first|refine aw ?_|refine aw6 ?_|refine oa ?_|refine adiv ?_|refine amod ?_|refine shr1 ?_|refine shr ?_|refine umod ?_|refine isl ?_|refine ipe ?_|refine ipn ?_|refine ibe ?_)|refine acw ?_|refine ucv ?_|refine anw ?_|refine oa ?_|refine ld ?_|refine ldl ?_|refine lnm ?_|refine ixmn ?_|refine ixm ?_|refine li ?_|refine lb ?_|refine lv ?_|refine ln ?_|refine ixn ?_|refine ix ?_|refine le ?_|refine sr ?_|refine soi ?_|refine sob ?_|refine scm ?_|refine sclm ?_|refine schm ?_|refine gy ?_|refine gn ?_|refine gnn ?_|refine gu ?_|(refine gsi (fun hB=>?_) (fun hB=>?_) <;> try (exfalso;omega))|(refine gsn (fun hB=>?_) (fun hB=>?_) <;> try (exfalso;omega))|(refine gs (fun hB=>?_) (fun hB=>?_) <;> try (exfalso;omega)))|(refine gc ?_;first|refine ct ?_|refine cf ?_|(refine ci (fun hB=>?_) (fun hB=>?_) <;> try (exfalso;omega))|(refine cn (fun hB=>?_) (fun hB=>?_) <;> try (exfalso;omega))|(refine cb (fun hB=>?_) (fun hB=>?_) <;> try (exfalso;omega)))|refine sq ?_|refine rg ?_|refine xc ?_|refine nl ?_|refine sk ?_|refine bk ?_|refine xe ?_|refine rt ?_|refine xb ?_
 exact r2 ⟨rfl,rfl⟩
end Go.Art
namespace Go.Art
open Go Go.Proofs Go.RowKit
theorem massW_val {W:List (List Int)→Bool} {t:List Int} {k n:Nat} (h:(massW W t k n).2 = 0):massW W t k n = (rqf (mkRat ((natG W (itemS t k) n [] 1:Nat):Int) (oneS t k ^ n)),0)∧(itemS t k).length ≤ 4096∧(itemS t k).length ^ n ≤ 4096∧(setsW t k).2 = 0:=by
 unfold massW at *
 by_cases hr:refE t k n = 0
 rotate_left
 ·rw [if_neg hr] at h;exact absurd h hr
 rw [if_pos hr] at h ⊢
 by_cases hs:(setsW t k).2 = 0
 rotate_left
 ·rw [if_neg hs] at h;cases h
 rw [if_pos hs] at h ⊢
 unfold sumW at *
 rw [Int.toNat_natCast,Int.toNat_natCast] at *
 split at h
 ·rename_i a;rw [if_pos a];exact ⟨rfl,a.1,a.2,hs⟩
 ·cases h
theorem massW_e (W V:List (List Int)→Bool) (t:List Int) (k n:Int):(massW W t k n).2 = (massW V t k n).2:=by
 unfold massW sumW
 split
 ·split
  ·split <;> rfl
  ·rfl
 ·rfl
theorem mk_subN (a b:Nat) {D E:Nat} (hD:D ≠ 0) (hE:E ≠ 0):(mkRat (a:Int) D - mkRat (b:Int) E).num.natAbs ≤ ((a:Int) * E - b * D).natAbs:=by
 have:mkRat (a:Int) D - mkRat (b:Int) E = mkRat ((a:Int) * E - b * D) (D * E):=by
  rw [Rat.sub_eq_add_neg,Rat.neg_mkRat,Rat.mkRat_add_mkRat _ _ hD hE]
  congr 1
  grind
 rw [this,mk_abs _ (Nat.mul_ne_zero hD hE)]
 exact Nat.div_le_self _ _
theorem sub_le {a b D E:Nat} (hD:D ≠ 0) (hE:E ≠ 0) (h:a * E ≤ b * D):(mkRat (a:Int) D - mkRat (b:Int) E).num.sign ≤ 0:=by
 rw [mk_subS a b hD hE]
 have h1:(a:Int) * E ≤ b * D:=by exact_mod_cast h
 rcases Int.lt_or_eq_of_le h1 with h2 | h2
 ·rw [Int.sign_eq_neg_one_of_neg (by omega)];decide
 ·rw [h2,Int.sub_self];decide
theorem sub_dg {a b D E O m:Nat} (hD:D ≠ 0) (hE:E ≠ 0) (h:a * E ≤ b * D) (hb:b * D ≤ O ^ m) (hO0:O ≠ 0) (hO:O < 18446744073709551616 ^ 10):(dg (mkRat (a:Int) D - mkRat (b:Int) E).num.natAbs).length ≤ 10 * m + 1:=by
 have h1:=mk_subN a b hD hE
 have h2:((a:Int) * E - b * D).natAbs ≤ O ^ m:=by
  have e1:((a * E:Nat):Int) = (a:Int) * E:=Int.natCast_mul _ _
  have e2:((b * D:Nat):Int) = (b:Int) * D:=Int.natCast_mul _ _
  omega
 exact Nat.le_trans (dg_mono (show _ ≤ 4096 * O ^ m by omega)) (dg_pow hO)
structure MwG where
 i:Nat
attribute [local irreducible] Fit pt own ro vw mpc lpt vels rels mow lrc dfr
attribute [local irreducible] lmp lme mit velg relg bnd owl dfrl massW setsW massD smlT solE natG itemS oneS
theorem MassDrawn_tr (tv:Value) (tbl:List Int) (kk nn:Int):Tr Tryz.prog 8 [tv,I kk,I nn] [vw tv (Is tbl)] [] fun v D=>v = .bool true∧D = []:=by
 have hpk:=pickM_in (x:=kk) (m:=3) (by decide)
 have hpn:=pickM_in (x:=nn) (m:=5) (by decide)
 obtain ⟨k,hk⟩ : ∃ k:Nat,1 + pick kk 3 = k:=⟨(1 + pick kk 3).toNat,by omega⟩
 obtain ⟨n,hn⟩ : ∃ n:Nat,pick nn 5 = n:=⟨(pick nn 5).toNat,by omega⟩
 have hT:=small23_tr tv tbl k (by omega)
 have hlen:=smlT_len 4 tbl k
 generalize smlT 4 tbl k = t at *
 have hF:=fun o=>MFail_tr o t k n (by omega) (by omega) (by omega)
 have hD:=fun o=>MDrawn_tr o t k n (by omega) (by omega) (by omega)
 have hE:solE t k = 0→refE t k n = 0:=fun h=>by unfold refE;rw [if_pos h,if_neg (by omega)]
 have he1:=fun h=>@massW_err (failW k) t k n (hE h)
 have he2:=fun h=>@massD_err (failW k) t k n (hE h)
 have heq:=fun h1 h2=>@massD_eq (failW k) t k n (by omega) h1 h2
 generalize massW (failW k) t k n = m1 at *
 generalize massD (failW k) t k n = m2 at *
 obtain ⟨t1,e1⟩:=m1
 obtain ⟨t2,e2⟩:=m2
 unfold FW at hF hD
 dsimp only at hF hD he1 he2 heq
 by_cases hz:solE t k = 0
 rotate_left
 ·rw [decide_eq_false hz] at hT
  refine Tr.enter env _ Tryz.func8 (by kernel_rfl) rfl Tryz.ntmps8 rfl (by repeat (first | exact has00 | refine has01 ?_)) fun w0=>?_
  repeat' first|(refine gca ?_;first|(refine ca MassKnown_tr ?_;rintro _ _ ⟨rfl,rfl⟩)|(refine ca (Pick_tr kk 3 (by decide)) ?_;rintro _ _ ⟨rfl,rfl⟩)|(refine ca (Pick_tr nn 5 (by decide)) ?_;rintro _ _ ⟨rfl,rfl⟩;rw [hn])|(refine ca hT ?_;rintro _ _ ⟨o,rfl,ho,rfl⟩))|(refine aw (m:=1 + pick kk 3) ?_;rw [hk])|(refine wo ?_;first|(refine ao ?_;first|refine aw ?_|refine aw6 ?_|refine oa ?_|refine adiv ?_|refine amod ?_|refine shr1 ?_|refine shr ?_|refine umod ?_|refine isl ?_|refine ipe ?_|refine ipn ?_|refine ibe ?_)|refine acw ?_|refine ucv ?_|refine anw ?_|refine oa ?_|refine ld ?_|refine ldl ?_|refine lnm ?_|refine ixmn ?_|refine ixm ?_|refine li ?_|refine lb ?_|refine lv ?_|refine ln ?_|refine ixn ?_|refine ix ?_|refine le ?_|refine sr ?_|refine soi ?_|refine sob ?_|refine scm ?_|refine sclm ?_|refine schm ?_|refine gy ?_|refine gn ?_|refine gnn ?_|refine gu ?_|(refine gsi (fun hB=>?_) (fun hB=>?_) <;> try (exfalso;omega))|(refine gsn (fun hB=>?_) (fun hB=>?_) <;> try (exfalso;omega))|(refine gs (fun hB=>?_) (fun hB=>?_) <;> try (exfalso;omega)))|(refine gc ?_;first|refine ct ?_|refine cf ?_|(refine ci (fun hB=>?_) (fun hB=>?_) <;> try (exfalso;omega))|(refine cn (fun hB=>?_) (fun hB=>?_) <;> try (exfalso;omega))|(refine cb (fun hB=>?_) (fun hB=>?_) <;> try (exfalso;omega)))|refine sq ?_|refine rg ?_|refine xc ?_|refine nl ?_|refine sk ?_|refine bk ?_|refine xe ?_|refine rt ?_|refine xb ?_
  exact r1 ⟨rfl,rfl⟩
 rw [decide_eq_true hz] at hT
 have h1:=he1 hz
 have h2:=he2 hz
 clear he1 he2 hE
 by_cases hb:e1 = 0∧e2 = 0
 ·have h3:=heq hb.2 hb.1
  have h4:t2 = t1:=congrArg (·.1) h3
  subst h4
  obtain ⟨rfl,rfl⟩:=hb
  have hS:=fun a b c d=>SameRatioT_tr t2 a b c d
  refine Tr.enter env _ Tryz.func8 (by kernel_rfl) rfl Tryz.ntmps8 rfl (by repeat (first | exact has00 | refine has01 ?_)) fun w0=>?_
  repeat' first|(refine gca ?_;first|(refine ca MassKnown_tr ?_;rintro _ _ ⟨rfl,rfl⟩)|(refine ca (Pick_tr kk 3 (by decide)) ?_;rintro _ _ ⟨rfl,rfl⟩)|(refine ca (Pick_tr nn 5 (by decide)) ?_;rintro _ _ ⟨rfl,rfl⟩;rw [hn])|(refine ca hT ?_;rintro _ _ ⟨o,rfl,ho,rfl⟩)|(refine ca (hF o) ?_;rintro _ _ ⟨n1,d1,rfl,hn1,hd1,rfl⟩)|(refine ca (hD o) ?_;rintro _ _ ⟨n2,d2,rfl,hn2,hd2,rfl⟩)|(refine ca (hS n1 d1 n2 d2) ?_;rintro _ _ ⟨rfl,rfl⟩))|(refine aw (m:=1 + pick kk 3) ?_;rw [hk])|refine al fun c=>?_|refine srz ?_|refine lda ?_|(refine wo ?_;first|(refine ao ?_;first|refine aw ?_|refine aw6 ?_|refine oa ?_|refine adiv ?_|refine amod ?_|refine shr1 ?_|refine shr ?_|refine umod ?_|refine isl ?_|refine ipe ?_|refine ipn ?_|refine ibe ?_)|refine acw ?_|refine ucv ?_|refine anw ?_|refine oa ?_|refine ld ?_|refine ldl ?_|refine lnm ?_|refine ixmn ?_|refine ixm ?_|refine li ?_|refine lb ?_|refine lv ?_|refine ln ?_|refine ixn ?_|refine ix ?_|refine le ?_|refine sr ?_|refine soi ?_|refine sob ?_|refine scm ?_|refine sclm ?_|refine schm ?_|refine gy ?_|refine gn ?_|refine gnn ?_|refine gu ?_|(refine gsi (fun hB=>?_) (fun hB=>?_) <;> try (exfalso;omega))|(refine gsn (fun hB=>?_) (fun hB=>?_) <;> try (exfalso;omega))|(refine gs (fun hB=>?_) (fun hB=>?_) <;> try (exfalso;omega)))|(refine gc ?_;first|refine ct ?_|refine cf ?_|(refine ci (fun hB=>?_) (fun hB=>?_) <;> try (exfalso;omega))|(refine cn (fun hB=>?_) (fun hB=>?_) <;> try (exfalso;omega))|(refine cb (fun hB=>?_) (fun hB=>?_) <;> try (exfalso;omega)))|refine sq ?_|refine rg ?_|refine xc ?_|refine nl ?_|refine sk ?_|refine bk ?_|refine xe ?_|refine rt ?_|refine xb ?_
  exact r1 ⟨rfl,rfl⟩
 ·rcases h1 with rfl | rfl
  ·obtain rfl:e2 = 4:=by omega
   refine Tr.enter env _ Tryz.func8 (by kernel_rfl) rfl Tryz.ntmps8 rfl (by repeat (first | exact has00 | refine has01 ?_)) fun w0=>?_
   repeat' first|(refine gca ?_;first|(refine ca MassKnown_tr ?_;rintro _ _ ⟨rfl,rfl⟩)|(refine ca (Pick_tr kk 3 (by decide)) ?_;rintro _ _ ⟨rfl,rfl⟩)|(refine ca (Pick_tr nn 5 (by decide)) ?_;rintro _ _ ⟨rfl,rfl⟩;rw [hn])|(refine ca hT ?_;rintro _ _ ⟨o,rfl,ho,rfl⟩)|(refine ca (hF o) ?_;rintro _ _ ⟨n1,d1,rfl,hn1,hd1,rfl⟩)|(refine ca (hD o) ?_;rintro _ _ ⟨n2,d2,rfl,hn2,hd2,rfl⟩))|(refine aw (m:=1 + pick kk 3) ?_;rw [hk])|refine al fun c=>?_|refine srz ?_|refine lda ?_|(refine wo ?_;first|(refine ao ?_;first|refine aw ?_|refine aw6 ?_|refine oa ?_|refine adiv ?_|refine amod ?_|refine shr1 ?_|refine shr ?_|refine umod ?_|refine isl ?_|refine ipe ?_|refine ipn ?_|refine ibe ?_)|refine acw ?_|refine ucv ?_|refine anw ?_|refine oa ?_|refine ld ?_|refine ldl ?_|refine lnm ?_|refine ixmn ?_|refine ixm ?_|refine li ?_|refine lb ?_|refine lv ?_|refine ln ?_|refine ixn ?_|refine ix ?_|refine le ?_|refine sr ?_|refine soi ?_|refine sob ?_|refine scm ?_|refine sclm ?_|refine schm ?_|refine gy ?_|refine gn ?_|refine gnn ?_|refine gu ?_|(refine gsi (fun hB=>?_) (fun hB=>?_) <;> try (exfalso;omega))|(refine gsn (fun hB=>?_) (fun hB=>?_) <;> try (exfalso;omega))|(refine gs (fun hB=>?_) (fun hB=>?_) <;> try (exfalso;omega)))|(refine gc ?_;first|refine ct ?_|refine cf ?_|(refine ci (fun hB=>?_) (fun hB=>?_) <;> try (exfalso;omega))|(refine cn (fun hB=>?_) (fun hB=>?_) <;> try (exfalso;omega))|(refine cb (fun hB=>?_) (fun hB=>?_) <;> try (exfalso;omega)))|refine sq ?_|refine rg ?_|refine xc ?_|refine nl ?_|refine sk ?_|refine bk ?_|refine xe ?_|refine rt ?_|refine xb ?_
   exact r1 ⟨rfl,rfl⟩
  ·rcases h2 with rfl | rfl
   ·refine Tr.enter env _ Tryz.func8 (by kernel_rfl) rfl Tryz.ntmps8 rfl (by repeat (first | exact has00 | refine has01 ?_)) fun w0=>?_
    repeat' first|(refine gca ?_;first|(refine ca MassKnown_tr ?_;rintro _ _ ⟨rfl,rfl⟩)|(refine ca (Pick_tr kk 3 (by decide)) ?_;rintro _ _ ⟨rfl,rfl⟩)|(refine ca (Pick_tr nn 5 (by decide)) ?_;rintro _ _ ⟨rfl,rfl⟩;rw [hn])|(refine ca hT ?_;rintro _ _ ⟨o,rfl,ho,rfl⟩)|(refine ca (hF o) ?_;rintro _ _ ⟨n1,d1,rfl,hn1,hd1,rfl⟩)|(refine ca (hD o) ?_;rintro _ _ ⟨n2,d2,rfl,hn2,hd2,rfl⟩))|(refine aw (m:=1 + pick kk 3) ?_;rw [hk])|refine al fun c=>?_|refine srz ?_|refine lda ?_|(refine wo ?_;first|(refine ao ?_;first|refine aw ?_|refine aw6 ?_|refine oa ?_|refine adiv ?_|refine amod ?_|refine shr1 ?_|refine shr ?_|refine umod ?_|refine isl ?_|refine ipe ?_|refine ipn ?_|refine ibe ?_)|refine acw ?_|refine ucv ?_|refine anw ?_|refine oa ?_|refine ld ?_|refine ldl ?_|refine lnm ?_|refine ixmn ?_|refine ixm ?_|refine li ?_|refine lb ?_|refine lv ?_|refine ln ?_|refine ixn ?_|refine ix ?_|refine le ?_|refine sr ?_|refine soi ?_|refine sob ?_|refine scm ?_|refine sclm ?_|refine schm ?_|refine gy ?_|refine gn ?_|refine gnn ?_|refine gu ?_|(refine gsi (fun hB=>?_) (fun hB=>?_) <;> try (exfalso;omega))|(refine gsn (fun hB=>?_) (fun hB=>?_) <;> try (exfalso;omega))|(refine gs (fun hB=>?_) (fun hB=>?_) <;> try (exfalso;omega)))|(refine gc ?_;first|refine ct ?_|refine cf ?_|(refine ci (fun hB=>?_) (fun hB=>?_) <;> try (exfalso;omega))|(refine cn (fun hB=>?_) (fun hB=>?_) <;> try (exfalso;omega))|(refine cb (fun hB=>?_) (fun hB=>?_) <;> try (exfalso;omega)))|refine sq ?_|refine rg ?_|refine xc ?_|refine nl ?_|refine sk ?_|refine bk ?_|refine xe ?_|refine rt ?_|refine xb ?_
    exact r1 ⟨rfl,rfl⟩
   ·refine Tr.enter env _ Tryz.func8 (by kernel_rfl) rfl Tryz.ntmps8 rfl (by repeat (first | exact has00 | refine has01 ?_)) fun w0=>?_
    repeat' first|(refine gca ?_;first|(refine ca MassKnown_tr ?_;rintro _ _ ⟨rfl,rfl⟩)|(refine ca (Pick_tr kk 3 (by decide)) ?_;rintro _ _ ⟨rfl,rfl⟩)|(refine ca (Pick_tr nn 5 (by decide)) ?_;rintro _ _ ⟨rfl,rfl⟩;rw [hn])|(refine ca hT ?_;rintro _ _ ⟨o,rfl,ho,rfl⟩)|(refine ca (hF o) ?_;rintro _ _ ⟨n1,d1,rfl,hn1,hd1,rfl⟩)|(refine ca (hD o) ?_;rintro _ _ ⟨n2,d2,rfl,hn2,hd2,rfl⟩))|(refine aw (m:=1 + pick kk 3) ?_;rw [hk])|refine al fun c=>?_|refine srz ?_|refine lda ?_|(refine wo ?_;first|(refine ao ?_;first|refine aw ?_|refine aw6 ?_|refine oa ?_|refine adiv ?_|refine amod ?_|refine shr1 ?_|refine shr ?_|refine umod ?_|refine isl ?_|refine ipe ?_|refine ipn ?_|refine ibe ?_)|refine acw ?_|refine ucv ?_|refine anw ?_|refine oa ?_|refine ld ?_|refine ldl ?_|refine lnm ?_|refine ixmn ?_|refine ixm ?_|refine li ?_|refine lb ?_|refine lv ?_|refine ln ?_|refine ixn ?_|refine ix ?_|refine le ?_|refine sr ?_|refine soi ?_|refine sob ?_|refine scm ?_|refine sclm ?_|refine schm ?_|refine gy ?_|refine gn ?_|refine gnn ?_|refine gu ?_|(refine gsi (fun hB=>?_) (fun hB=>?_) <;> try (exfalso;omega))|(refine gsn (fun hB=>?_) (fun hB=>?_) <;> try (exfalso;omega))|(refine gs (fun hB=>?_) (fun hB=>?_) <;> try (exfalso;omega)))|(refine gc ?_;first|refine ct ?_|refine cf ?_|(refine ci (fun hB=>?_) (fun hB=>?_) <;> try (exfalso;omega))|(refine cn (fun hB=>?_) (fun hB=>?_) <;> try (exfalso;omega))|(refine cb (fun hB=>?_) (fun hB=>?_) <;> try (exfalso;omega)))|refine sq ?_|refine rg ?_|refine xc ?_|refine nl ?_|refine sk ?_|refine bk ?_|refine xe ?_|refine rt ?_|refine xb ?_
    exact r1 ⟨rfl,rfl⟩
theorem natG_le1 {W:List (List Int)→Bool} {t:List Int} {k n:Nat} (hz:solE t k = 0):natG W (itemS t k) n [] 1 ≤ oneS t k ^ n:=by
 have h1:=natG_leW (W:=W) (V:=fun _=>true) (fun _ _=>rfl) (itemS t k) n [] 1
 rw [natG_all (itemS_sum hz),Nat.one_mul] at h1
 exact h1
theorem Pair11:Tr Tryz.prog 22 [I 1,I 1] [] [] (FQ2 (mkRat ((1:Nat):Int) 1) 0):=FPair_tr 1 1 (by decide) (by decide) (by decide)
set_option maxHeartbeats 1000000 in
theorem MassWhole_tr (tv:Value) (tbl:List Int) (kk nn:Int):Tr Tryz.prog 5 [tv,I kk,I nn] [vw tv (Is tbl)] [] fun v D=>v = .bool true∧D = []:=by
 have hpk:=pickM_in (x:=kk) (m:=4) (by decide)
 have hpn:=pickM_in (x:=nn) (m:=5) (by decide)
 obtain ⟨k,hk⟩ : ∃ k:Nat,1 + pick kk 4 = k:=⟨(1 + pick kk 4).toNat,by omega⟩
 obtain ⟨n,hn⟩ : ∃ n:Nat,pick nn 5 = n:=⟨(pick nn 5).toNat,by omega⟩
 have hT:=small23_tr tv tbl k (by omega)
 have hlen:=smlT_len 4 tbl k
 generalize smlT 4 tbl k = t at *
 by_cases hz:solE t k = 0
 rotate_left
 ·rw [decide_eq_false hz] at hT
  refine Tr.enter env _ Tryz.func5 (by kernel_rfl) rfl Tryz.ntmps5 rfl (by repeat (first | exact has00 | refine has01 ?_)) fun w0=>?_
  repeat' first|(refine gca ?_;first|(refine ca awake23_tr ?_;rintro _ _ ⟨rfl,rfl⟩)|(refine ca (Pick_tr kk 4 (by decide)) ?_;rintro _ _ ⟨rfl,rfl⟩)|(refine ca (Pick_tr nn 5 (by decide)) ?_;rintro _ _ ⟨rfl,rfl⟩;rw [hn])|(refine ca hT ?_;rintro _ _ ⟨o,rfl,ho,rfl⟩))|(refine aw (m:=1 + pick kk 4) ?_;rw [hk])|(refine wo ?_;first|(refine ao ?_;first|refine aw ?_|refine aw6 ?_|refine oa ?_|refine adiv ?_|refine amod ?_|refine shr1 ?_|refine shr ?_|refine umod ?_|refine isl ?_|refine ipe ?_|refine ipn ?_|refine ibe ?_)|refine acw ?_|refine ucv ?_|refine anw ?_|refine oa ?_|refine ld ?_|refine ldl ?_|refine lnm ?_|refine ixmn ?_|refine ixm ?_|refine li ?_|refine lb ?_|refine lv ?_|refine ln ?_|refine ixn ?_|refine ix ?_|refine le ?_|refine sr ?_|refine soi ?_|refine sob ?_|refine scm ?_|refine sclm ?_|refine schm ?_|refine gy ?_|refine gn ?_|refine gnn ?_|refine gu ?_|(refine gsi (fun hB=>?_) (fun hB=>?_) <;> try (exfalso;omega))|(refine gsn (fun hB=>?_) (fun hB=>?_) <;> try (exfalso;omega))|(refine gs (fun hB=>?_) (fun hB=>?_) <;> try (exfalso;omega)))|(refine gc ?_;first|refine ct ?_|refine cf ?_|(refine ci (fun hB=>?_) (fun hB=>?_) <;> try (exfalso;omega))|(refine cn (fun hB=>?_) (fun hB=>?_) <;> try (exfalso;omega))|(refine cb (fun hB=>?_) (fun hB=>?_) <;> try (exfalso;omega)))|refine sq ?_|refine rg ?_|refine xc ?_|refine nl ?_|refine sk ?_|refine bk ?_|refine xe ?_|refine rt ?_|refine xb ?_
  exact r1 ⟨rfl,rfl⟩
 rw [decide_eq_true hz] at hT
 have hW:=fun o=>MWhole_tr o t k n (by omega) (by omega) (by omega)
 have hF:=fun o=>MFail_tr o t k n (by omega) (by omega) (by omega)
 have hG:=fun o=>MFail_tr o t k ((n + 1:Nat):Int) (by omega) (by omega) (by omega)
 have hE:refE t k n = 0:=by unfold refE;rw [if_pos hz,if_neg (by omega)]
 have hE2:refE t k ((n + 1:Nat):Int) = 0:=by unfold refE;rw [if_pos hz,if_neg (by omega)]
 have hee:=massW_e (failW k) (fun _=>true) t k n
 by_cases he:(massW (fun _=>true) t k n).2 = 0
 rotate_left
 ·have h4:(massW (fun _=>true) t k n).2 = 4:=(massW_err hE).resolve_left he
  rw [h4] at hee
  generalize massW (fun _=>true) t k n = m1 at *
  generalize massW (failW k) t k n = m2 at *
  obtain ⟨t1,e1⟩:=m1
  obtain ⟨t2,e2⟩:=m2
  dsimp only at hee h4
  subst hee
  subst h4
  unfold FW at hF hW
  dsimp only at hF hW
  clear hG
  refine Tr.enter env _ Tryz.func5 (by kernel_rfl) rfl Tryz.ntmps5 rfl (by repeat (first | exact has00 | refine has01 ?_)) fun w0=>?_
  repeat' first|(refine gca ?_;first|(refine ca awake23_tr ?_;rintro _ _ ⟨rfl,rfl⟩)|(refine ca (Pick_tr kk 4 (by decide)) ?_;rintro _ _ ⟨rfl,rfl⟩)|(refine ca (Pick_tr nn 5 (by decide)) ?_;rintro _ _ ⟨rfl,rfl⟩;rw [hn])|(refine ca hT ?_;rintro _ _ ⟨o,rfl,ho,rfl⟩)|(refine ca (hW o) ?_;rintro _ _ ⟨n1,d1,rfl,hn1,hd1,rfl⟩)|(refine ca (hF o) ?_;rintro _ _ ⟨n2,d2,rfl,hn2,hd2,rfl⟩))|(refine aw (m:=1 + pick kk 4) ?_;rw [hk])|refine al fun c=>?_|refine srz ?_|refine lda ?_|(refine wo ?_;first|(refine ao ?_;first|refine aw ?_|refine aw6 ?_|refine oa ?_|refine adiv ?_|refine amod ?_|refine shr1 ?_|refine shr ?_|refine umod ?_|refine isl ?_|refine ipe ?_|refine ipn ?_|refine ibe ?_)|refine acw ?_|refine ucv ?_|refine anw ?_|refine oa ?_|refine ld ?_|refine ldl ?_|refine lnm ?_|refine ixmn ?_|refine ixm ?_|refine li ?_|refine lb ?_|refine lv ?_|refine ln ?_|refine ixn ?_|refine ix ?_|refine le ?_|refine sr ?_|refine soi ?_|refine sob ?_|refine scm ?_|refine sclm ?_|refine schm ?_|refine gy ?_|refine gn ?_|refine gnn ?_|refine gu ?_|(refine gsi (fun hB=>?_) (fun hB=>?_) <;> try (exfalso;omega))|(refine gsn (fun hB=>?_) (fun hB=>?_) <;> try (exfalso;omega))|(refine gs (fun hB=>?_) (fun hB=>?_) <;> try (exfalso;omega)))|(refine gc ?_;first|refine ct ?_|refine cf ?_|(refine ci (fun hB=>?_) (fun hB=>?_) <;> try (exfalso;omega))|(refine cn (fun hB=>?_) (fun hB=>?_) <;> try (exfalso;omega))|(refine cb (fun hB=>?_) (fun hB=>?_) <;> try (exfalso;omega)))|refine sq ?_|refine rg ?_|refine xc ?_|refine nl ?_|refine sk ?_|refine bk ?_|refine xe ?_|refine rt ?_|refine xb ?_
  exact r1 ⟨rfl,rfl⟩
 rw [he] at hee
 obtain ⟨w1,_⟩:=massW_val he
 obtain ⟨w2,_⟩:=massW_val hee
 have hO0:=oneS_pos hz
 have hO1:=oneS_lt hz (by omega) (by omega)
 have hall:natG (fun _=>true) (itemS t k) n [] 1 = oneS t k ^ n:=by rw [natG_all (itemS_sum hz),Nat.one_mul]
 have hf1:=natG_le1 (W:=failW k) (n:=n) hz
 have hf2:=natG_le1 (W:=failW k) (n:=n + 1) hz
 have hmore:=natG_more (W:=failW k) (itemS_sum hz) (fun b s _ h=>failW_more k b s.1 h) n [] 1
 have hnone:n = 0→natG (failW k) (itemS t k) n [] 1 = 1:=fun h=>by rw [h,natG_zero,failW_none (by have:=(solE_zero hz).1;omega),if_pos rfl]
 have hpos:∀ i,oneS t k ^ i ≠ 0:=fun i=>Nat.ne_of_gt (Nat.pow_pos (Nat.pos_of_ne_zero hO0))
 have hFB1:=FB_pow (B:=8589934592) hO0 hO1 (a:=natG (failW k) (itemS t k) n [] 1) (n:=n) (by omega) (by omega)
 have hFB2:=FB_pow (B:=8589934592) hO0 hO1 (a:=natG (failW k) (itemS t k) (n + 1) [] 1) (n:=n + 1) (by omega) (by omega)
 rw [hall,mk_one _ (hpos n)] at w1
 have hq0:=hpos n
 have hq1:=hpos (n + 1)
 have hF1:FB (mkRat ((1:Nat):Int) 1) 8589934592:=⟨Nat.le_trans (FB_mk1 (a:=1) (D:=1) (by decide) (by decide) (by decide)).1 (by decide),Nat.le_trans (FB_mk1 (a:=1) (D:=1) (by decide) (by decide) (by decide)).2 (by decide)⟩
 have hone:=Pair11
 have e11:mkRat ((1:Nat):Int) 1 = 1:=mk_one 1 (by decide)
 have hI:=fun a b=>is23_tr (rqf (mkRat ((1:Nat):Int) 1)) 0 a b 1 1 (by decide) (by decide) (by decide)
 simp only [and_self,decide_true] at hI
 rw [← e11] at w1
 have hC1:=fun v1 v2 v3 v4 h1 h2 h3 h4=>FCmp_tr (mkRat ((natG (failW k) (itemS t k) n [] 1:Nat):Int) (oneS t k ^ n)) (mkRat ((1:Nat):Int) 1) v1 v2 v3 v4 h1 h2 h3 h4 hFB1 hF1
  (Nat.le_trans (sub_dg (O:=oneS t k) (m:=n) hq0 (by decide) (by omega) (by omega) hO0 hO1) (by omega))
 have hs1:=sub_le (a:=natG (failW k) (itemS t k) n [] 1) (b:=1) (D:=oneS t k ^ n) (E:=1) hq0 (by decide) (by omega)
 have hsn:n = 0→(mkRat ((natG (failW k) (itemS t k) n [] 1:Nat):Int) (oneS t k ^ n) - mkRat ((1:Nat):Int) 1).num.sign = 0:=fun h=>by
  rw [mk_subS _ _ hq0 (by decide),hnone h,h,Nat.pow_zero];decide
 have hm2:natG (failW k) (itemS t k) (n + 1) [] 1 * oneS t k ^ n ≤ natG (failW k) (itemS t k) n [] 1 * oneS t k ^ (n + 1):=by
  rw [Nat.pow_succ,Nat.mul_comm (oneS t k ^ n) (oneS t k),← Nat.mul_assoc]
  exact Nat.mul_le_mul_right _ hmore
 have hm3:natG (failW k) (itemS t k) n [] 1 * oneS t k ^ (n + 1) ≤ oneS t k ^ (2 * n + 1):=by
  rw [show 2 * n + 1 = n + (n + 1) from by omega,Nat.pow_add (oneS t k) n (n + 1)]
  exact Nat.mul_le_mul_right _ hf1
 have hC2:=fun v1 v2 v3 v4 h1 h2 h3 h4=>FCmp_tr (mkRat ((natG (failW k) (itemS t k) (n + 1) [] 1:Nat):Int) (oneS t k ^ (n + 1))) (mkRat ((natG (failW k) (itemS t k) n [] 1:Nat):Int) (oneS t k ^ n)) v1 v2 v3 v4 h1 h2 h3 h4 hFB2 hFB1
  (Nat.le_trans (sub_dg (O:=oneS t k) (m:=2 * n + 1) hq1 hq0 hm2 hm3 hO0 hO1) (by omega))
 have hs2:=sub_le (a:=natG (failW k) (itemS t k) (n + 1) [] 1) (b:=natG (failW k) (itemS t k) n [] 1) (D:=oneS t k ^ (n + 1)) (E:=oneS t k ^ n) hq1 hq0 hm2
 have hb0:=rq_nonneg (natG (failW k) (itemS t k) n [] 1) hq0
 have hn1:(n:Int) + 1 = ((n + 1:Nat):Int):=rfl
 have hx:=massW_err (W:=failW k) hE2
 have hx0:=fun h=>(massW_val (W:=failW k) (n:=n + 1) (t:=t) (k:=k) h).1
 rw [w1] at hW
 rw [w2] at hF
 clear w1 w2 he hee hE hE2 hall hf1 hf2 hmore hnone hpos hFB1 hFB2 hm2 hm3 hF1 hO0 hO1 e11 hq0 hq1
 generalize massW (failW k) t k ((n + 1:Nat):Int) = m3 at *
 generalize mkRat ((natG (failW k) (itemS t k) n [] 1:Nat):Int) (oneS t k ^ n) = q1 at *
 generalize mkRat ((natG (failW k) (itemS t k) (n + 1) [] 1:Nat):Int) (oneS t k ^ (n + 1)) = q2 at *
 generalize mkRat ((1:Nat):Int) 1 = q0 at *
 generalize (q1 - q0).num.sign = s1 at *
 generalize (q2 - q1).num.sign = s2 at *
 unfold FW rqf at hW hF
 unfold FW at hG
 unfold FQ2 at hone
 dsimp only at hW hF
 rw [hb0] at hF
 simp only [rv,hb0] at hC1 hC2
 obtain ⟨t3,e3⟩:=m3
 dsimp only at hG hx hx0
 rcases hx with rfl | rfl
 ·have h3:t3 = rqf q2:=congrArg (·.1) (hx0 rfl)
  subst h3
  unfold rqf at hG
  dsimp only at hG
  refine Tr.enter env _ Tryz.func5 (by kernel_rfl) rfl Tryz.ntmps5 rfl (by repeat (first | exact has00 | refine has01 ?_)) fun w0=>?_
  repeat' first|(refine gca ?_;first|(refine ca awake23_tr ?_;rintro _ _ ⟨rfl,rfl⟩)|(refine ca (Pick_tr kk 4 (by decide)) ?_;rintro _ _ ⟨rfl,rfl⟩)|(refine ca (Pick_tr nn 5 (by decide)) ?_;rintro _ _ ⟨rfl,rfl⟩;rw [hn])|(refine ca hT ?_;rintro _ _ ⟨o,rfl,ho,rfl⟩)|(refine ca (hW o) ?_;rintro _ _ ⟨n1,d1,rfl,hn1',hd1,rfl⟩)|(refine ca (hF o) ?_;rintro _ _ ⟨n2,d2,rfl,hn2,hd2,rfl⟩)|(refine ca hone ?_;rintro _ _ ⟨n3,d3,rfl,hn3,hd3,rfl⟩)|(refine ca (hC1 n2 d2 n3 d3 hn2 hd2 hn3 hd3) ?_;rintro _ _ ⟨rfl,rfl⟩)|(refine ca (hI n1 d1) ?_;rintro _ _ ⟨rfl,rfl⟩)|(refine ca (hG o) ?_;rintro _ _ ⟨n4,d4,rfl,hn4,hd4,rfl⟩)|(refine ca (hC2 n4 d4 n2 d2 hn4 hd4 hn2 hd2) ?_;rintro _ _ ⟨rfl,rfl⟩))|(refine aw (m:=1 + pick kk 4) ?_;rw [hk])|(refine aw (m:=(n:Int) + 1) ?_;rw [hn1])|refine al fun c=>?_|refine srz ?_|refine lda ?_|(refine wo ?_;first|(refine ao ?_;first|refine aw ?_|refine aw6 ?_|refine oa ?_|refine adiv ?_|refine amod ?_|refine shr1 ?_|refine shr ?_|refine umod ?_|refine isl ?_|refine ipe ?_|refine ipn ?_|refine ibe ?_)|refine acw ?_|refine ucv ?_|refine anw ?_|refine oa ?_|refine ld ?_|refine ldl ?_|refine lnm ?_|refine ixmn ?_|refine ixm ?_|refine li ?_|refine lb ?_|refine lv ?_|refine ln ?_|refine ixn ?_|refine ix ?_|refine le ?_|refine sr ?_|refine soi ?_|refine sob ?_|refine scm ?_|refine sclm ?_|refine schm ?_|refine gy ?_|refine gn ?_|refine gnn ?_|refine gu ?_|(refine gsi (fun hB=>?_) (fun hB=>?_) <;> try (exfalso;omega))|(refine gsn (fun hB=>?_) (fun hB=>?_) <;> try (exfalso;omega))|(refine gs (fun hB=>?_) (fun hB=>?_) <;> try (exfalso;omega)))|(refine gc ?_;first|refine ct ?_|refine cf ?_|(refine ci (fun hB=>?_) (fun hB=>?_) <;> try (exfalso;omega))|(refine cn (fun hB=>?_) (fun hB=>?_) <;> try (exfalso;omega))|(refine cb (fun hB=>?_) (fun hB=>?_) <;> try (exfalso;omega)))|refine sq ?_|refine rg ?_|refine xc ?_|refine nl ?_|refine sk ?_|refine bk ?_|refine xe ?_|refine rt ?_|refine xb ?_
  all_goals exact r1 ⟨congrArg Value.bool (decide_eq_true hs2),rfl⟩
 ·refine Tr.enter env _ Tryz.func5 (by kernel_rfl) rfl Tryz.ntmps5 rfl (by repeat (first | exact has00 | refine has01 ?_)) fun w0=>?_
  repeat' first|(refine gca ?_;first|(refine ca awake23_tr ?_;rintro _ _ ⟨rfl,rfl⟩)|(refine ca (Pick_tr kk 4 (by decide)) ?_;rintro _ _ ⟨rfl,rfl⟩)|(refine ca (Pick_tr nn 5 (by decide)) ?_;rintro _ _ ⟨rfl,rfl⟩;rw [hn])|(refine ca hT ?_;rintro _ _ ⟨o,rfl,ho,rfl⟩)|(refine ca (hW o) ?_;rintro _ _ ⟨n1,d1,rfl,hn1',hd1,rfl⟩)|(refine ca (hF o) ?_;rintro _ _ ⟨n2,d2,rfl,hn2,hd2,rfl⟩)|(refine ca hone ?_;rintro _ _ ⟨n3,d3,rfl,hn3,hd3,rfl⟩)|(refine ca (hC1 n2 d2 n3 d3 hn2 hd2 hn3 hd3) ?_;rintro _ _ ⟨rfl,rfl⟩)|(refine ca (hI n1 d1) ?_;rintro _ _ ⟨rfl,rfl⟩)|(refine ca (hG o) ?_;rintro _ _ ⟨n4,d4,rfl,hn4,hd4,rfl⟩)|(refine ca (hC2 n4 d4 n2 d2 hn4 hd4 hn2 hd2) ?_;rintro _ _ ⟨rfl,rfl⟩))|(refine aw (m:=1 + pick kk 4) ?_;rw [hk])|(refine aw (m:=(n:Int) + 1) ?_;rw [hn1])|refine al fun c=>?_|refine srz ?_|refine lda ?_|(refine wo ?_;first|(refine ao ?_;first|refine aw ?_|refine aw6 ?_|refine oa ?_|refine adiv ?_|refine amod ?_|refine shr1 ?_|refine shr ?_|refine umod ?_|refine isl ?_|refine ipe ?_|refine ipn ?_|refine ibe ?_)|refine acw ?_|refine ucv ?_|refine anw ?_|refine oa ?_|refine ld ?_|refine ldl ?_|refine lnm ?_|refine ixmn ?_|refine ixm ?_|refine li ?_|refine lb ?_|refine lv ?_|refine ln ?_|refine ixn ?_|refine ix ?_|refine le ?_|refine sr ?_|refine soi ?_|refine sob ?_|refine scm ?_|refine sclm ?_|refine schm ?_|refine gy ?_|refine gn ?_|refine gnn ?_|refine gu ?_|(refine gsi (fun hB=>?_) (fun hB=>?_) <;> try (exfalso;omega))|(refine gsn (fun hB=>?_) (fun hB=>?_) <;> try (exfalso;omega))|(refine gs (fun hB=>?_) (fun hB=>?_) <;> try (exfalso;omega)))|(refine gc ?_;first|refine ct ?_|refine cf ?_|(refine ci (fun hB=>?_) (fun hB=>?_) <;> try (exfalso;omega))|(refine cn (fun hB=>?_) (fun hB=>?_) <;> try (exfalso;omega))|(refine cb (fun hB=>?_) (fun hB=>?_) <;> try (exfalso;omega)))|refine sq ?_|refine rg ?_|refine xc ?_|refine nl ?_|refine sk ?_|refine bk ?_|refine xe ?_|refine rt ?_|refine xb ?_
  all_goals exact r1 ⟨rfl,rfl⟩
end Go.Art
