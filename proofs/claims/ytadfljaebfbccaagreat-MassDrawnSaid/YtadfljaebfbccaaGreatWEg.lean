/- Texts put together: Ze Zf Zh Va Gc Rq Vb Vc Vg Vm StopO Vi Vj Vk As Vh Gp. Conditions: none. -/
import Derived.Test.YtadfljaebfbccaaGreatWEf
set_option linter.unusedSimpArgs false
set_option linter.unusedVariables false
namespace Go.Art
open Go Go.Proofs Go.RowKit
structure DvG where
 j:Nat
 qs:List Nat
 rs:List Nat
 Q:Nat
section
variable {P:Program} {E:Env P} {n:Sh} {X:Cx} {s:List K} {fr:Fr} {A:List Ch} {ops:Array Oper} {rest:List Oper} {d:Nat} {ty t t':TypeId} {pos:String} {after:Array Edge} {x:Operand}
theorem glo (h:TO E n X s ops (⟨some d,.load t x,ty,pos,after,none⟩ :: rest) fr A):TO E n X s ops (⟨some d,.load t x,ty,pos,after,none⟩ :: rest) fr A:=h
end
attribute [local irreducible] Fit pt own ro vw mpc lpt vels rels mow lrc dfr
end Go.Art
namespace Go.Art
open Go Go.Proofs Go.RowKit
attribute [local irreducible] Fit pt own ro vw mpc lpt vels rels mow lrc dfr
end Go.Art
namespace Go.Art
open Go Go.Proofs Go.RowKit
def pasc (n:Nat):List (List Int):=(List.range (n + 1)).map fun j=>Zs (dg (chs n j))
theorem pasc_len (n:Nat):(pasc n).length = n + 1:=by simp [pasc]
theorem pasc_get (n j:Nat) (h:j ≤ n):(pasc n).getD j [] = Zs (dg (chs n j)):=by
 simp [pasc,List.getD_eq_getElem?_getD,List.getElem?_range (show j < n + 1 by omega)]
theorem pasc_take (n i:Nat) (h:i ≤ n):(pasc n).take (i + 1) = (pasc n).take i ++ [Zs (dg (chs n i))]:=by
 rw [take_succ' (by rw [pasc_len];omega) [],pasc_get n i h]
abbrev TNN:TypeId:=89
theorem owl_takeF {e:TypeId} {g:Int→Value} {hs:List Value} {ls:List (List Int)} {A F:List Ch} (hl:hs.length = ls.length) {i:Nat} (h:i < ls.length) (hf:Fit A [owl e g hs ls] F):Im A (own e (hs.getD i nS) ((ls.getD i []).map g) :: bnd ((owls e g hs ls).eraseIdx i) :: F):=Im.trans hf (owl_take hl h F)
structure NxG where
 i:Nat
 o:Value
 hs:List Value
attribute [local irreducible] Fit pt own ro vw mpc lpt vels rels mow lrc dfr
attribute [local irreducible] lmp lme mit velg relg bnd owl
theorem Rnext_tr (v:Value) (hs:List Value) (n:Nat) (hn:n ≤ 65536):Tr Tryz.prog 152 [v] [vw v hs,velg wU hs (pasc n)] [] fun u D=>∃ hs',u.oneCell' = true∧hs'.length = n + 2∧D = [own TN u hs',owl T64 wU hs' (pasc (n + 1))]:=by
 have hpl:=pasc_len n
 have hO:=ROf_tr 1 (by decide)
 have e1:dg 1 = dg (chs (n + 1) 0):=by rw [chs_zero]
 rw [e1,Us_eq] at hO
 refine Tr.enter env _ Tryz.func152 (by kernel_rfl) rfl Tryz.ntmps152 rfl (by repeat (first | exact has00 | refine has01 ?_)) fun w0=>?_
 refine TC.elg (g:=wU) (hs:=hs) (ls:=pasc n) (fun hll=>?_)
 repeat' first|(refine gca ?_;first|(refine ca hO ?_;rintro o1 _ ⟨ho1,rfl⟩))|(refine sli (vs:=[o1]) (fun q1=>?_) (h1:=one_cons ho1 one_nil);refine TO.one (v:=q1) (xs:=[o1]) fun hq1=>?_)|(refine wo ?_;first|refine oa ?_)|refine sq ?_|refine rg ?_|refine xc ?_|refine nl ?_|refine bk ?_
 refine TC.im (owl_nil (e:=T64) (g:=wU) _) ?_
 refine TC.im (owl_push (hs:=[]) (ls:=[]) (v:=o1) (l:=Zs (dg (chs (n + 1) 0))) rfl fitA) ?_
 refine TC.loop (ι:=NxG) (fun g=>[(4,I g.i),(3,g.o)]) (fun g=>[own TN g.o g.hs,owl T64 wU g.hs ((pasc (n + 1)).take g.i)]) (fun g=>(1 ≤ g.i∧g.i ≤ n + 1)∧g.hs.length = g.i∧g.o.oneCell' = true) (fun g=>n + 1 - g.i) ⟨1,q1,[o1]⟩ [0] ⟨⟨Nat.le_refl _,by dsimp only;omega⟩,rfl,hq1⟩ ?_ (hf:=by dsimp only;rw [show (pasc (n + 1)).take 1 = [] ++ [Zs (dg (chs (n + 1) 0))] from pasc_take (n + 1) 0 (Nat.zero_le _)];exact fitA)
 rintro ⟨i,o,hs2⟩ ⟨⟨hi1,hi2⟩,h2,ho⟩
 dsimp only at hi1 hi2 h2 ho ⊢
 by_cases hlt:i < n + 1
 ·have hH:∀ (F:List Ch) (j:Nat),j ≤ n→Has F (velg wU hs (pasc n))→Has F (vw (hs.getD j nS) (Us (dg (chs n j)))):=fun F j hj h=>by
   have:=has_elg h (i:=j) (by omega)
   rwa [pasc_get n j hj,← Us_eq] at this
  have hk:((i:Int) - 1).toNat = i - 1:=by omega
  have hA:=RAdd_tr (hs.getD ((i:Int) - 1).toNat nS) (hs.getD i nS) (dg (chs n (i - 1))) (dg (chs n i)) (Dg_dg _) (Dg_dg _) (by have:=chs_len n (i - 1);omega) (by have:=chs_len n i;omega)
  have hsum:chs n (i - 1) + chs n i = chs (n + 1) i:=by
   obtain ⟨k,rfl⟩ : ∃ k,i = k + 1:=⟨i - 1,by omega⟩
   rfl
  rw [nv_dg,nv_dg,hsum,Us_eq (dg (chs (n + 1) i))] at hA
  have hpt:=pasc_take (n + 1) i (by omega)
  have hll2:((pasc (n + 1)).take i).length = i:=by rw [List.length_take,pasc_len];omega
  have hg1:hs[((i:Int) - 1).toNat]? = some (hs.getD ((i:Int) - 1).toNat nS):=by rw [List.getD_eq_getElem?_getD,List.getElem?_eq_getElem (by omega)];rfl
  have hg2:hs[i]? = some (hs.getD i nS):=by rw [List.getD_eq_getElem?_getD,List.getElem?_eq_getElem (by omega)];rfl
  repeat' first|(refine wo ?_;first|(refine ao ?_;first|refine oa ?_)|refine oa ?_|refine ln ?_)|(refine gc ?_;first|(refine ci (fun hB=>?_) (fun hB=>?_) <;> try (exfalso;omega)))|refine sq ?_|refine rg ?_|refine xc ?_|refine nl ?_|refine sk ?_|refine bk ?_
  refine rs (fun w=>Sl w v hs) ?_ (fun w hw=>has_sl (xs:=hs) hw hasA)
  refine tka 0 ?_
  refine tka 1 ?_
  refine tka 2 ?_
  refine tkw 3 ((i:Int) - 1) ?_
  refine tk 4 (v:=.pointer (some (addrAt v ((i:Int) - 1).toNat))) (fun w h=>R_idx (E:=env) (i:=(i:Int) - 1) rfl rfl rfl rfl h ⟨by omega,by omega⟩) ?_
  refine tk 5 (v:=hs.getD ((i:Int) - 1).toNat nS) (fun w h=>R_load (E:=env) rfl rfl rfl (h.cell hg1)) ?_
  refine tka 6 ?_
  refine tka 7 ?_
  refine tk 8 (v:=.pointer (some (addrAt v i))) (fun w h=>R_idx (E:=env) (i:=(i:Int)) rfl rfl rfl rfl h ⟨by omega,by omega⟩) ?_
  refine tk 9 (v:=hs.getD i nS) (fun w h=>R_load (E:=env) rfl rfl rfl (h.cell hg2)) ?_
  refine t1 10 ?_
  refine ca hA ?_ (hp:=has1 (by rw [hk];exact hH _ _ (by omega) hasA) (has1 (hH _ _ (by omega) hasA) has0))
  rintro av _ ⟨hav,rfl⟩
  refine nl ?_
  refine te (fun w hw=>has_sl (xs:=hs) hw hasA) ?_
  refine t1 11 ?_
  refine sli (vs:=[av]) (fun q2=>?_) (h1:=one_cons hav one_nil)
  refine nl ?_
  refine te (fun w hw=>has_sl (xs:=hs) hw hasA) ?_
  refine t1 12 ?_
  refine ap (xs:=hs2) (news:=[av]) (fun o2=>?_) (h1:=one_cons hav one_nil)
  refine TO.one (v:=o2) (xs:=hs2 ++ [av]) fun ho2=>?_
  refine nl ?_
  refine te (fun w hw=>has_sl (xs:=hs) hw hasA) ?_
  refine tka 13 ?_
  refine t0 ?_
  refine TX.im (owl_push (l:=Zs (dg (chs (n + 1) i))) (by rw [h2,hll2]) fitA) ?_
  repeat' first|(refine wo ?_;first|(refine ao ?_;first|refine aw ?_)|refine oa ?_)|refine rg ?_|refine xc ?_|refine nl ?_|refine xb ?_
  exact lp ⟨i + 1,o2,hs2 ++ [av]⟩ ⟨⟨by dsimp only;omega,hlt⟩,by simp [h2],ho2⟩ (hf:=by dsimp only;rw [hpt];exact fitA)
 ·obtain rfl:i = n + 1:=by omega
  have hpt:=pasc_take (n + 1) (n + 1) (Nat.le_refl _)
  have hpa:(pasc (n + 1)).take (n + 1 + 1) = pasc (n + 1):=List.take_of_length_le (by rw [pasc_len];omega)
  have hO2:=ROf_tr 1 (by decide)
  have e2:dg 1 = dg (chs (n + 1) (n + 1)):=by rw [chs_self]
  rw [e2,Us_eq] at hO2
  have hll2:((pasc (n + 1)).take (n + 1)).length = n + 1:=by rw [List.length_take,pasc_len];omega
  repeat' first|(refine gca ?_;first|(refine ca hO2 ?_;rintro o3 _ ⟨ho3,rfl⟩))|(refine sli (vs:=[o3]) (fun q3=>?_) (h1:=one_cons ho3 one_nil))|(refine ap (xs:=hs2) (news:=[o3]) (fun o4=>?_) (h1:=one_cons ho3 one_nil);refine TO.one (v:=o4) (xs:=hs2 ++ [o3]) fun ho4=>?_)|(refine wo ?_;first|(refine ao ?_;first|refine oa ?_)|refine oa ?_|refine ln ?_)|(refine gc ?_;first|(refine ci (fun hB=>?_) (fun hB=>?_) <;> try (exfalso;omega)))|refine sq ?_|refine rg ?_|refine xc ?_|refine nl ?_|refine xe ?_|refine rt ?_
  refine TX.im (owl_push (l:=Zs (dg (chs (n + 1) (n + 1)))) (by rw [h2,hll2]) fitA) ?_
  rw [← hpt,hpa]
  exact r1 ⟨hs2 ++ [o3],ho4,by simp [h2],rfl⟩
theorem Rrow_tr (n:Nat) (hn:n ≤ 65536):Tr Tryz.prog 114 [I n] [] [] fun u D=>∃ hs,u.oneCell' = true∧hs.length = n + 1∧D = [own TN u hs,owl T64 wU hs (pasc n)]:=by
 have hO:=ROf_tr 1 (by decide)
 have e1:dg 1 = dg (chs 0 0):=rfl
 rw [e1,Us_eq] at hO
 refine Tr.enter env _ Tryz.func114 (by kernel_rfl) rfl Tryz.ntmps114 rfl (by repeat (first | exact has00 | refine has01 ?_)) fun w0=>?_
 repeat' first|(refine gca ?_;first|(refine ca hO ?_;rintro o1 _ ⟨ho1,rfl⟩))|(refine sli (vs:=[o1]) (fun q1=>?_) (h1:=one_cons ho1 one_nil);refine TO.one (v:=q1) (xs:=[o1]) fun hq1=>?_)|(refine wo ?_;first|refine oa ?_)|refine sq ?_|refine rg ?_|refine xc ?_|refine nl ?_|refine bk ?_
 refine TC.im (owl_nil (e:=T64) (g:=wU) _) ?_
 refine TC.im (owl_push (hs:=[]) (ls:=[]) (v:=o1) (l:=Zs (dg (chs 0 0))) rfl fitA) ?_
 refine TC.loop (ι:=NxG) (fun g=>[(4,I g.i),(3,g.o)]) (fun g=>[own TN g.o g.hs,owl T64 wU g.hs (pasc g.i)]) (fun g=>g.i ≤ n∧g.hs.length = g.i + 1∧g.o.oneCell' = true) (fun g=>n - g.i) ⟨0,q1,[o1]⟩ [0] ⟨Nat.zero_le _,rfl,hq1⟩ ?_ (hf:=by dsimp only;rw [show pasc 0 = [] ++ [Zs (dg (chs 0 0))] from rfl];exact fitA)
 rintro ⟨i,o,hs2⟩ ⟨hi,h2,ho⟩
 dsimp only at hi h2 ho ⊢
 by_cases hlt:i < n
 ·repeat' first|(refine gca ?_;first|(refine ca (Rnext_tr o hs2 i (by omega)) ?_ (hp:=has1 hasA (has1 (has_owl (by rw [h2,pasc_len]) memA) has0));rintro o2 _ ⟨hs3,ho2,hl3,rfl⟩))|(refine wo ?_;first|(refine ao ?_;first|refine aw ?_|refine oa ?_)|refine oa ?_)|(refine gc ?_;first|(refine ci (fun hB=>?_) (fun hB=>?_) <;> try (exfalso;omega)))|refine sq ?_|refine rg ?_|refine xc ?_|refine nl ?_|refine sk ?_|refine bk ?_|refine xb ?_
  exact lp ⟨i + 1,o2,hs3⟩ ⟨hlt,hl3,ho2⟩
 ·obtain rfl:i = n:=by omega
  repeat' first|(refine wo ?_;first|(refine ao ?_;first|refine oa ?_)|refine oa ?_)|(refine gc ?_;first|(refine ci (fun hB=>?_) (fun hB=>?_) <;> try (exfalso;omega)))|refine sq ?_|refine rg ?_|refine xc ?_|refine nl ?_|refine xe ?_|refine rt ?_
  exact r1 ⟨hs2,ho,h2,rfl⟩
theorem RChoose_tr (n k:Nat) (hn:n ≤ 65536) (hk:k ≤ n):Tr Tryz.prog 69 [I n,I k] [] [] fun u D=>eNat u D (chs n k) 0:=by
 have hpl:=pasc_len n
 refine Tr.enter env _ Tryz.func69 (by kernel_rfl) rfl Tryz.ntmps69 rfl (by repeat (first | exact has00 | refine has01 ?_)) fun w0=>?_
 repeat' first|(refine gca ?_;first|(refine ca (Rrow_tr n hn) ?_;rintro o _ ⟨hs,ho,hl,rfl⟩;have hg:hs[k]? = some (hs.getD k nS):=(by rw [List.getD_eq_getElem?_getD,List.getElem?_eq_getElem (by omega)];rfl)))|refine le (xs:=hs) ?_ (hj:=hg)|(refine wo ?_;first|(refine ao ?_;first|refine oa ?_)|refine oa ?_|refine ixn ?_|refine gy ?_)|(refine gc ?_;first|(refine ci (fun hB=>?_) (fun hB=>?_) <;> try (exfalso;omega)))|refine sq ?_|refine rg ?_|refine xc ?_|refine nl ?_|refine sk ?_|refine bk ?_|refine rt ?_|refine xb ?_
 refine TX.im (owl_takeF (e:=T64) (g:=wU) (hs:=hs) (ls:=pasc n) (by rw [hl,hpl]) (i:=k) (by omega) fitA) ?_
 rw [pasc_get n k hk,← Us_eq]
 refine TX.one (v:=hs.getD k nS) (xs:=Us (dg (chs n k))) fun ho2=>?_
 exact r2 ⟨hs.getD k nS,rfl,ho2,rfl⟩
end Go.Art
namespace Go.Art
open Go Go.Proofs Go.RowKit
theorem chs_bnd:∀ n d,chs n d ≤ 2 ^ n
 | 0,0=>by simp [chs]
 | 0,d + 1=>by simp [chs]
 | n + 1,0=>by rw [show chs (n + 1) 0 = 1 from rfl];exact Nat.one_le_two_pow
 | n + 1,d + 1=>by
  rw [show chs (n + 1) (d + 1) = chs n d + chs n (d + 1) from rfl,Nat.pow_succ]
  have:=chs_bnd n d;have:=chs_bnd n (d + 1);omega
theorem risR_bnd {d f k:Nat} (hk:k ≤ 40):(risR d f k).length ≤ 1099511627776:=by
 rw [risR_len]
 refine Nat.le_trans (chs_bnd _ _) ?_
 exact Nat.le_trans (Nat.pow_le_pow_right (by decide) (show k - f ≤ 40 by omega)) (by decide)
def risJ (d f k j:Nat):List (List Int):=(risR d (f + j + 1) k).map fun l=>((f + j:Nat):Int) :: l
theorem risR_succ (d f k:Nat):risR (d + 1) f k = (List.range (k - f)).flatMap (risJ d f k):=rfl
structure RsG where
 i:Nat
 v:Value
 hs:List Value
attribute [local irreducible] Fit pt own ro vw mpc lpt vels rels mow lrc dfr
attribute [local irreducible] lmp lme mit velg relg bnd owl risJ
theorem rising23_tr:∀ (d f k:Nat),k ≤ 40→d ≤ 40→Tr Tryz.prog 36 [I f,I k,I d] [] [] fun u D=>∃ hs,u.oneCell' = true∧hs.length = (risR d f k).length∧D = [own TLs u hs,owl TLI I hs (risR d f k)]
 | 0,f,k,hk,hd=>by
  refine Tr.enter env _ Tryz.func36 (by kernel_rfl) rfl Tryz.ntmps36 rfl (by repeat (first | exact has00 | refine has01 ?_)) fun w0=>?_
  repeat' first|refine sli (vs:=[nS]) (fun q2=>?_) (h1:=one_cons rfl one_nil)|(refine wo ?_;first|(refine ao ?_;first|refine oa ?_)|refine oa ?_)|(refine gc ?_;first|refine ct ?_)|refine sq ?_|refine rg ?_|refine xc ?_|refine nl ?_|refine rt ?_
  refine TX.one (v:=q2) (xs:=[nS]) fun ho=>?_
  refine TX.im (owl_nil (e:=TLI) (g:=I) _) ?_
  refine TX.im (own_nil TLI _) ?_
  refine TX.im (owl_push (hs:=[]) (ls:=[]) (v:=nS) (l:=[]) rfl fitA) ?_
  exact r1 ⟨[nS],ho,rfl,rfl⟩
 | d + 1,f,k,hk,hd=>by
  have ih:=fun f=>rising23_tr d f k hk (by omega)
  have hbnd:=@risR_bnd
  have hdx:((d + 1:Nat):Int) - 1 = (d:Int):=by omega
  refine Tr.enter env _ Tryz.func36 (by kernel_rfl) rfl Tryz.ntmps36 rfl (by repeat (first | exact has00 | refine has01 ?_)) fun w0=>?_
  repeat' first|(refine wo ?_;first|(refine ao ?_;first|refine oa ?_)|refine oa ?_)|(refine gc ?_;first|refine cf ?_)|refine sq ?_|refine rg ?_|refine xc ?_|refine nl ?_|refine sk ?_|refine bk ?_
  refine TC.im (owl_nil (e:=TLI) (g:=I) _) ?_
  refine TC.im (own_nil TLs _) ?_
  refine TC.loop (ι:=RsG) (fun g=>[(8,I ((f + g.i:Nat):Int)),(7,g.v)]) (fun g=>[own TLs g.v g.hs,owl TLI I g.hs ((List.range g.i).flatMap (risJ d f k))]) (fun g=>g.i ≤ k - f∧g.v.oneCell' = true∧g.hs.length = ((List.range g.i).flatMap (risJ d f k)).length) (fun g=>k - f - g.i) ⟨0,nS,[]⟩ [0,1,2] ⟨Nat.zero_le _,rfl,rfl⟩ ?_
  rintro ⟨i,v,hs⟩ ⟨hi,hv,hl⟩
  dsimp only at hi hv hl ⊢
  by_cases hlt:i < k - f
  ·have h1:=ih (f + i + 1)
   have hj:risJ d f k i = (risR d (f + i + 1) k).map fun l=>((f + i:Nat):Int) :: l:=by unfold risJ;rfl
   have hfs:=fm_succ (risJ d f k) i
   have hlL:=@risR_bnd d (f + i + 1) k hk
   have hel:=fun l (h:l ∈ risR d (f + i + 1) k)=>(risR_mem d (f + i + 1) k l h).1
   have hbig:((List.range i).flatMap (risJ d f k)).length + (risR d (f + i + 1) k).length ≤ 1099511627776:=by
    obtain ⟨r,hr⟩:=fm_pre (risJ d f k) (show i + 1 ≤ k - f from hlt)
    have h2:=@risR_bnd (d + 1) f k hk
    rw [risR_succ,hr,hfs,hj] at h2
    simp only [List.length_append,List.length_map] at h2
    omega
   rw [hj] at hfs
   clear hj ih hbnd
   generalize risR d (f + i + 1) k = L at *
   generalize (List.range i).flatMap (risJ d f k) = M at *
   repeat' first|(refine gca ?_;first|(refine ca h1 ?_;rintro lv _ ⟨ks,hlv,hkl,rfl⟩))|refine aw (m:=((f + i + 1:Nat):Int)) ?_|refine aw (m:=(d:Int)) ?_ (h:=by rw [← hdx];rfl)|(refine wo ?_;first|(refine ao ?_;first|refine oa ?_)|refine oa ?_)|(refine gc ?_;first|(refine ci (fun hB=>?_) (fun hB=>?_) <;> try (exfalso;omega)))|refine sq ?_|refine rg ?_|refine xc ?_|refine nl ?_|refine sk ?_|refine bk ?_
   refine TC.loop (ι:=RsG) (fun g=>[(10,I g.i),(7,g.v)]) (fun g=>[own TLs g.v g.hs,owl TLI I g.hs (M ++ (L.take g.i).map fun l=>((f + i:Nat):Int) :: l)]) (fun g=>g.i ≤ L.length∧g.v.oneCell' = true∧g.hs.length = (M ++ (L.take g.i).map fun l=>((f + i:Nat):Int) :: l).length) (fun g=>L.length - g.i) ⟨0,v,hs⟩ [0,1,2,8,9] ⟨Nat.zero_le _,hv,by simpa using hl⟩ ?_ (hf:=by dsimp only;rw [List.take_zero,List.map_nil,List.append_nil];exact fitA)
   clear hl hv
   rintro ⟨j,v,hs⟩ ⟨hj,hv,hl⟩
   dsimp only at hj hv hl ⊢
   by_cases hjl:j < L.length
   ·have hmem:L.getD j [] ∈ L:=by rw [List.getD_eq_getElem?_getD,List.getElem?_eq_getElem hjl];exact List.getElem_mem hjl
    have hll:=hel _ hmem
    have hg1:ks[j]? = some (ks.getD j nS):=by rw [List.getD_eq_getElem?_getD,List.getElem?_eq_getElem (by omega)];rfl
    have hH:∀ F,owl TLI I ks L ∈ F→Has F (vw (ks.getD j nS) (Is (L.getD j []))):=fun F h=>has_elg (g:=I) (hs:=ks) (ls:=L) (has_owl (e:=TLI) hkl h) hjl
    have hst:M ++ (L.take (j + 1)).map (fun l=>((f + i:Nat):Int) :: l) = (M ++ (L.take j).map fun l=>((f + i:Nat):Int) :: l) ++ [((f + i:Nat):Int) :: L.getD j []]:=by
     rw [take_succ' hjl [],List.map_append,List.append_assoc];rfl
    have hml:(M ++ (L.take j).map fun l=>((f + i:Nat):Int) :: l).length ≤ 1099511627776:=by simp only [List.length_append,List.length_map,List.length_take];omega
    clear hel hmem h1
    generalize hrow:L.getD j [] = row at *
    generalize M ++ (L.take j).map (fun l=>((f + i:Nat):Int) :: l) = M1 at *
    repeat' first|refine slii [((f + i:Nat):Int)] fun v1=>?_|refine le (xs:=ks) ?_ (hj:=hg1)|(refine api (l:=[((f + i:Nat):Int)]) (news:=row) (fun o1=>?_) (hu:=hH _ memA) (hl:=by simp only [List.length_cons,List.length_nil];omega);refine TO.one (v:=o1) (xs:=Is (((f + i:Nat):Int) :: row)) fun ho1=>?_)|refine sli (vs:=[o1]) (fun q2=>?_) (h1:=one_cons ho1 one_nil)|(refine ap (xs:=hs) (news:=[o1]) (fun o2=>?_) (h1:=one_cons ho1 one_nil);refine TO.one (v:=o2) (xs:=hs ++ [o1]) fun ho2=>?_)|(refine wo ?_;first|(refine ao ?_;first|refine aw ?_|refine oa ?_)|refine oa ?_|refine ln ?_|refine ixn ?_)|(refine gc ?_;first|(refine ci (fun hB=>?_) (fun hB=>?_) <;> try (exfalso;omega)))|refine sq ?_|refine rg ?_|refine xc ?_|refine nl ?_|refine sk ?_|refine bk ?_|refine xb ?_
    refine TX.im (owl_push (hs:=hs) (ls:=M1) (v:=o1) (l:=((f + i:Nat):Int) :: row) hl fitA) ?_
    exact lp ⟨j + 1,o2,hs ++ [o1]⟩ ⟨hjl,ho2,by dsimp only;rw [hst];simp [hl]⟩ (hf:=by dsimp only;rw [hst];exact fitA)
   ·obtain rfl:j = L.length:=by omega
    rw [List.take_length] at hl ⊢
    rw [← hfs] at hl ⊢
    repeat' first|(refine wo ?_;first|(refine ao ?_;first|refine aw ?_|refine oa ?_)|refine oa ?_|refine ln ?_)|(refine gc ?_;first|(refine ci (fun hB=>?_) (fun hB=>?_) <;> try (exfalso;omega)))|refine sq ?_|refine rg ?_|refine xc ?_|refine nl ?_|refine xe ?_|refine xb ?_
    exact lp ⟨i + 1,v,hs⟩ ⟨hlt,hv,hl⟩
  ·obtain rfl:i = k - f:=by omega
   rw [← risR_succ] at hl ⊢
   repeat' first|(refine wo ?_;first|(refine ao ?_;first|refine oa ?_)|refine oa ?_)|(refine gc ?_;first|(refine ci (fun hB=>?_) (fun hB=>?_) <;> try (exfalso;omega)))|refine sq ?_|refine rg ?_|refine xc ?_|refine nl ?_|refine xe ?_|refine rt ?_
   exact r1 ⟨hs,hv,hl,rfl⟩
end Go.Art
namespace Go.Art
open Go Go.Proofs Go.RowKit
attribute [local irreducible] Fit pt own ro vw mpc lpt vels rels mow lrc dfr
theorem RSoCheck_tr (s:Value) (t:List Int) (k:Int):Tr Tryz.prog 34 [s,I k] [vw s (Is t)] [] fun v D=>v = I (solE t k)∧D = []:=by
 by_cases hg:k < 1∨65536 < k∨t.length < 1∨k < t.length
 ·rw [show solE t k = 13 from if_pos hg]
  refine Tr.enter env _ Tryz.func34 (by kernel_rfl) rfl Tryz.ntmps34 rfl (by repeat (first | exact has00 | refine has01 ?_)) fun w0=>?_
  refine TC.leni (l:=t) fun htl=>?_
  repeat' first|(refine wo ?_;first|(refine ao ?_;first|refine oa ?_)|refine oa ?_|refine lnm ?_|refine gy ?_|refine gn ?_|(refine gsi (fun hB=>?_) (fun hB=>?_) <;> try (exfalso;omega)))|(refine gc ?_;first|refine ct ?_|(refine ci (fun hB=>?_) (fun hB=>?_) <;> try (exfalso;omega)))|refine sq ?_|refine rg ?_|refine xc ?_|refine nl ?_|refine rt ?_
  all_goals first | exact r1 ⟨rfl,rfl⟩ | (exfalso;omega)
 rw [show solE t k = if t.all wOk && t.any wPos then 0 else 13 from if_neg hg]
 refine Tr.enter env _ Tryz.func34 (by kernel_rfl) rfl Tryz.ntmps34 rfl (by repeat (first | exact has00 | refine has01 ?_)) fun w0=>?_
 refine TC.leni (l:=t) fun htl=>?_
 repeat' first|(refine wo ?_;first|(refine ao ?_;first|refine oa ?_)|refine oa ?_|refine lnm ?_|refine gy ?_|(refine gsi (fun hB=>?_) (fun hB=>?_) <;> try (exfalso;omega)))|(refine gc ?_;first|(refine ci (fun hB=>?_) (fun hB=>?_) <;> try (exfalso;omega)))|refine sq ?_|refine rg ?_|refine xc ?_|refine nl ?_|refine sk ?_|refine bk ?_
 refine TC.loop (ι:=Nat × Bool) (fun i=>[(6,I i.1),(5,.bool i.2)]) (fun _=>[]) (fun i=>i.1 ≤ t.length∧(t.take i.1).all wOk = true∧i.2 = (t.take i.1).any wPos) (fun i=>t.length - i.1) (0,false) [0,1] ⟨by simp,rfl,rfl⟩ ?_
 rintro ⟨i,so⟩ ⟨h1,h2,h3⟩
 dsimp only at h1 h2 h3 ⊢
 by_cases hi:i < t.length
 ·have ha:=take_all (p:=wOk) hi
  have hb:=take_any (p:=wPos) hi
  have hc:=all_of_take (p:=wOk) hi
  generalize hy:t.getD i 0 = y at *
  repeat' first|refine lie hy ?_|(refine wo ?_;first|(refine ao ?_;first|refine aw ?_|refine oa ?_)|refine oa ?_|refine lnm ?_|refine ixmn ?_|refine gy ?_|refine gn ?_|(refine gsi (fun hB=>?_) (fun hB=>?_) <;> try (exfalso;omega))|(refine gs (fun hB=>?_) (fun hB=>?_) <;> try (exfalso;omega)))|(refine gc ?_;first|refine ct ?_|(refine ci (fun hB=>?_) (fun hB=>?_) <;> try (exfalso;omega)))|refine sq ?_|refine rg ?_|refine xc ?_|refine nl ?_|refine sk ?_|refine bk ?_|refine rt ?_|refine xb ?_
  ·refine r1 ⟨?_,rfl⟩
   rw [hc (by simp [wOk];omega)];rfl
  ·refine r1 ⟨?_,rfl⟩
   rw [hc (by simp [wOk];omega)];rfl
  ·have hw:wOk y = true:=by simp [wOk];omega
   exact lp (i + 1,true) ⟨by dsimp only;omega,by dsimp only;rw [ha,h2,hw];rfl,by dsimp only;rw [hb,← h3,hB];rfl⟩
  ·have hw:wOk y = true:=by simp [wOk];omega
   exact lp (i + 1,decide (0 < y)) ⟨by dsimp only;omega,by dsimp only;rw [ha,h2,hw];rfl,by dsimp only;rw [hb,← h3,hB];rfl⟩
 ·obtain rfl:i = t.length:=by omega
  rw [List.take_length] at h2 h3
  repeat' first|(refine wo ?_;first|(refine ao ?_;first|refine oa ?_)|refine oa ?_|refine lnm ?_)|(refine gc ?_;first|(refine ci (fun hB=>?_) (fun hB=>?_) <;> try (exfalso;omega))|(refine cb (fun hB=>?_) (fun hB=>?_) <;> try (exfalso;omega)))|refine sq ?_|refine rg ?_|refine xc ?_|refine nl ?_|refine sk ?_|refine xe ?_|refine rt ?_
  ·refine r1 ⟨?_,rfl⟩
   rw [h2,← h3,show so = false by simpa using hB];rfl
  ·refine r1 ⟨?_,rfl⟩
   rw [h2,← h3,show so = true by simpa using hB];rfl
end Go.Art
namespace Go.Art
open Go Go.Proofs Go.RowKit
theorem bnd_app (C D F:List Ch):Im (bnd C :: bnd D :: F) (bnd (C ++ D) :: F):=by
 refine (un_bnd C (bnd D :: F)).trans ((Im.app (un_bnd D F) C).trans ?_)
 have:=im_bnd (C ++ D) F
 rwa [List.append_assoc] at this
theorem owl_join {e:TypeId} {g:Int→Value} {hs hs2:List Value} {ls ls2:List (List Int)} {A F:List Ch} (hl:hs.length = ls.length) (hf:Fit A [owl e g hs ls,owl e g hs2 ls2] F):Im A (owl e g (hs ++ hs2) (ls ++ ls2) :: F):=by
 refine Im.trans hf ?_
 have:=bnd_app (owls e g hs ls) (owls e g hs2 ls2) F
 have e1:owls e g (hs ++ hs2) (ls ++ ls2) = owls e g hs ls ++ owls e g hs2 ls2:=by unfold owls;rw [List.zipWith_append hl]
 unfold owl
 rw [e1]
 exact this
theorem owl_ones {e:TypeId} {g:Int→Value} {hs:List Value} {ls:List (List Int)} {A:List Ch} (hl:hs.length = ls.length) (h:owl e g hs ls ∈ A) (w:World) (hw:Sat A w):∀ c ∈ hs,c.oneCell' = true:=fun c hc=>by
 obtain ⟨i,hi,rfl⟩:=List.mem_iff_getElem.1 hc
 have h1:Sat (owls e g hs ls) w:=hw.h _ h
 have h2:OwnO w e (hs.getD i nS) ((ls.getD i []).map g):=h1.h _ (List.mem_of_getElem? (owls_get hl (by omega)))
 rw [List.getD_eq_getElem?_getD,List.getElem?_eq_getElem hi] at h2
 rcases h2 with ⟨h3,_⟩ | ⟨b,o,cap,cur,h3,_⟩
 ·show Value.oneCell' hs[i] = true;rw [show hs[i] = _ from h3];rfl
 ·show Value.oneCell' hs[i] = true;rw [show hs[i] = _ from h3];rfl
structure RlG where
 i:Nat
 o:Value
 hs:List Value
attribute [local irreducible] Fit pt own ro vw mpc lpt vels rels mow lrc dfr
attribute [local irreducible] lmp lme mit velg relg bnd owl dfrl
def cntR (n S:Nat):Prop:=(n ≤ 4096→n = S)∧(4096 < n→4096 < S)∧n ≤ 8193
end Go.Art
namespace Go.Art
open Go Go.Proofs Go.RowKit
def szL (t:List Int) (k i:Nat):List (List Int):=if t.getD i 0 = 0 then [] else risR (i + 1) 0 k
theorem setP_zero (t:List Int) (k:Nat):setP t k 0 = []:=rfl
theorem setP_succ (t:List Int) (k n:Nat):setP t k (n + 1) = setP t k n ++ szL t k n:=fm_succ _ _
theorem setP_pre (t:List Int) (k:Nat) {i n:Nat} (h:i ≤ n):∃ r,setP t k n = setP t k i ++ r:=fm_pre _ h
theorem szL_len {t:List Int} {k i:Nat}:(szL t k i).length = if t.getD i 0 = 0 then 0 else chs k (i + 1):=by
 unfold szL
 split
 ·rfl
 ·rw [risR_len];rfl
theorem setP_bnd {t:List Int} {k:Nat} (hk:k ≤ 40):∀ n,(setP t k n).length ≤ n * 1099511627776
 | 0=>by simp [setP_zero]
 | n + 1=>by
  rw [setP_succ,List.length_append,Nat.succ_mul]
  have h1:=setP_bnd hk (t:=t) n
  have h2:(szL t k n).length ≤ 1099511627776:=by
   unfold szL;split
   ·simp
   ·exact risR_bnd hk
  omega
theorem solE_13 {t:List Int} {k:Int} (hz:¬ solE t k = 0):solE t k = 13:=by
 unfold solE at hz ⊢
 split
 ·rfl
 ·split
  ·rename_i a b;exact absurd (by rw [if_neg a,if_pos b]) hz
  ·rfl
theorem setsW_err {t:List Int} {k:Int} (h:¬ solE t k = 0):setsW t k = ([],13):=if_neg h
theorem setsW_long {t:List Int} {k:Int} (h:solE t k = 0) (h2:4096 < (setP t k.toNat t.length).length):setsW t k = ([],4):=by unfold setsW;rw [if_pos h,if_pos h2]
theorem setsW_ok {t:List Int} {k:Int} (h:solE t k = 0) (h2:¬ 4096 < (setP t k.toNat t.length).length):setsW t k = (setP t k.toNat t.length,0):=by unfold setsW;rw [if_pos h,if_neg h2]
attribute [local irreducible] Fit pt own ro vw mpc lpt vels rels mow lrc dfr
attribute [local irreducible] lmp lme mit velg relg bnd owl
theorem many23_tr (s:Value) (t:List Int) (k:Nat) (hk:k ≤ 40) (hl:t.length ≤ k) (hw:∀ w ∈ t,0 ≤ w):Tr Tryz.prog 35 [s,I k] [vw s (Is t)] [] fun u D=>(∃ r:Int,u = I r∧(4096 < r ↔ 4096 < (setP t k t.length).length))∧D = []:=by
 refine Tr.enter env _ Tryz.func35 (by kernel_rfl) rfl Tryz.ntmps35 rfl (by repeat (first | exact has00 | refine has01 ?_)) fun w0=>?_
 refine TC.leni (v:=s) (l:=t) fun htl=>?_
 repeat' first|(refine wo ?_;first|refine oa ?_)|refine sq ?_|refine rg ?_|refine xc ?_|refine nl ?_|refine bk ?_
 refine TC.loop (ι:=Nat) (fun i=>[(6,I i),(5,I ((setP t k i).length:Int))]) (fun _=>[]) (fun i=>i ≤ t.length) (fun i=>t.length - i) 0 [0,1] (Nat.zero_le _) ?_ (hs:=by rw [setP_zero];(repeat (refine Sub.cons rfl (by first | rfl | go_num) ?_));exact Sub.nil)
 rintro i hi
 obtain ⟨r,hr⟩:=setP_pre t k hi
 have hrl:(setP t k i).length ≤ (setP t k t.length).length:=by rw [hr,List.length_append];omega
 have hb:=setP_bnd hk (t:=t) i
 have hib:i * 1099511627776 ≤ 40 * 1099511627776:=Nat.mul_le_mul_right _ (by omega)
 have hfull:i = t.length→setP t k i = setP t k t.length:=fun h=>by rw [h]
 by_cases hlt:i < t.length
 ·have hss:=setP_succ t k i
  have hsz:=@szL_len t k i
  obtain ⟨r2,hr2⟩:=setP_pre t k (show i + 1 ≤ t.length from hlt)
  have hrl2:(setP t k (i + 1)).length ≤ (setP t k t.length).length:=by rw [hr2,List.length_append];omega
  have hC:=RChoose_tr k (i + 1) (by omega) (by omega)
  have hc0:0 < chs k (i + 1):=Nat.pos_of_ne_zero (chs_pos (by omega))
  have hc1:=Nat.le_trans (chs_bnd k (i + 1)) (Nat.le_trans (Nat.pow_le_pow_right (by decide) hk) (show 2 ^ 40 ≤ 1099511627776 by decide))
  unfold eNat at hC
  rw [dg_one (by omega) (by omega)] at hC
  obtain ⟨xs,hxs⟩ : ∃ xs,xs = [chs k (i + 1)]:=⟨_,rfl⟩
  have hxl:xs.length = 1:=by rw [hxs];rfl
  have hxg:xs.getD 0 0 = chs k (i + 1):=by rw [hxs];rfl
  rw [← hxs] at hC
  clear hxs
  have hti:=hw (t.getD i 0) (by rw [List.getD_eq_getElem?_getD,List.getElem?_eq_getElem hlt];exact List.getElem_mem hlt)
  have hs1:(setP t k (i + 1)).length = (setP t k i).length + (szL t k i).length:=by rw [hss,List.length_append]
  rw [hsz] at hs1
  clear hr hr2 hss hsz
  obtain ⟨N,hN⟩ : ∃ N,N = (setP t k t.length).length:=⟨_,rfl⟩
  obtain ⟨m,hm⟩ : ∃ m,m = (setP t k i).length:=⟨_,rfl⟩
  obtain ⟨m2,hm2⟩ : ∃ m,m = (setP t k (i + 1)).length:=⟨_,rfl⟩
  rw [← hN] at hrl hrl2 ⊢
  rw [← hm] at hrl hb hs1 ⊢
  rw [← hm2] at hrl2 hs1
  obtain ⟨c,hc⟩ : ∃ c,c = chs k (i + 1):=⟨_,rfl⟩
  rw [← hc] at hc0 hc1 hs1
  obtain ⟨y,hy⟩ : ∃ y,t.getD i 0 = y:=⟨_,rfl⟩
  rw [hy] at hs1 hti
  clear hN hm
  rw [← hc] at hxg
  clear hc hfull
  by_cases hyz:0 < y
  ·rw [if_neg (by omega)] at hs1
   repeat' first|(refine gca ?_;first|(refine ca hC ?_;rintro _ _ ⟨o,rfl,ho,rfl⟩))|refine lie hy ?_|(refine aw (m:=((i + 1:Nat):Int)) ?_)|(refine glo ?_;refine lue (l:=xs) (j:=0) hxg ?_)|(refine mnn ?_)|(refine aw (m:=(m2:Int)) ?_ (h:=by rw [hs1];rfl))|(refine wo ?_;first|(refine ao ?_;first|refine oa ?_)|refine acw ?_|refine oa ?_|refine lnm ?_|refine ixmn ?_|refine ixm ?_|refine gy ?_|(refine gsi (fun hB=>?_) (fun hB=>?_) <;> try (exfalso;omega)))|(refine gc ?_;first|(refine ci (fun hB=>?_) (fun hB=>?_) <;> try (exfalso;omega)))|refine sq ?_|refine rg ?_|refine xc ?_|refine nl ?_|refine sk ?_|refine bk ?_|refine xe ?_|refine rt ?_|refine xb ?_
   all_goals first | exact lp (i + 1) hlt (hs:=by rw [← hm2];(repeat (refine Sub.cons rfl (by first | rfl | go_num) ?_));exact Sub.nil) | (refine r1 ⟨⟨_,rfl,?_⟩,rfl⟩;omega)
  ·rw [if_pos (by omega)] at hs1
   repeat' first|refine lie hy ?_|(refine mnn ?_)|(refine wo ?_;first|(refine ao ?_;first|refine aw ?_|refine oa ?_)|refine oa ?_|refine lnm ?_|refine ixmn ?_|refine gy ?_|(refine gsi (fun hB=>?_) (fun hB=>?_) <;> try (exfalso;omega)))|(refine gc ?_;first|(refine ci (fun hB=>?_) (fun hB=>?_) <;> try (exfalso;omega)))|refine sq ?_|refine rg ?_|refine xc ?_|refine nl ?_|refine sk ?_|refine bk ?_|refine xe ?_|refine rt ?_|refine xb ?_
   all_goals first | exact lp (i + 1) hlt (hs:=by rw [← hm2,hs1];(repeat (refine Sub.cons rfl (by first | rfl | go_num) ?_));exact Sub.nil) | (refine r1 ⟨⟨_,rfl,?_⟩,rfl⟩;omega)
 ·obtain rfl:i = t.length:=by omega
  repeat' first|refine mnn ?_|(refine wo ?_;first|(refine ao ?_;first|refine oa ?_)|refine oa ?_|refine lnm ?_|refine gn ?_|(refine gsi (fun hB=>?_) (fun hB=>?_) <;> try (exfalso;omega)))|(refine gc ?_;first|refine cf ?_)|refine sq ?_|refine rg ?_|refine xc ?_|refine nl ?_|refine xe ?_|refine rt ?_
  all_goals (refine r1 ⟨⟨_,rfl,?_⟩,rfl⟩;omega)
structure SrG where
 i:Nat
 v:Value
 hs:List Value
attribute [local irreducible] setP szL solE
theorem Sets23_tr (s:Value) (t:List Int) (k:Int) (hk:k ≤ 40∨65536 < k):Tr Tryz.prog 13 [s,I k] [vw s (Is t)] []
  fun u D=>∃ v hs,u = tup2 v (I (setsW t k).2)∧v.oneCell' = true∧hs.length = (setsW t k).1.length∧D = [own TLs v hs,owl TLI I hs (setsW t k).1]:=by
 have hC:=RSoCheck_tr s t k
 by_cases hz:solE t k = 0
 rotate_left
 ·rw [setsW_err hz]
  have h13:solE t k = 13:=solE_13 hz
  rw [h13] at hC
  refine Tr.enter env _ Tryz.func13 (by kernel_rfl) rfl Tryz.ntmps13 rfl (by repeat (first | exact has00 | refine has01 ?_)) fun w0=>?_
  repeat' first|(refine gca ?_;first|(refine ca hC ?_;rintro _ _ ⟨rfl,rfl⟩))|(refine wo ?_;first|(refine ao ?_;first|refine oa ?_)|refine oa ?_)|(refine gc ?_;first|refine ct ?_)|refine sq ?_|refine rg ?_|refine xc ?_|refine nl ?_|refine rt ?_
  refine TX.im (owl_nil (e:=TLI) (g:=I) _) ?_
  refine TX.im (own_nil TLs _) ?_
  exact r2 ⟨nS,[],rfl,rfl,rfl,rfl⟩
 rw [hz] at hC
 obtain ⟨z1,z2,z3,_⟩:=solE_zero hz
 obtain ⟨kn,rfl⟩ : ∃ kn:Nat,k = kn:=⟨k.toNat,by omega⟩
 have hlong:=@setsW_long t kn hz
 have hok:=@setsW_ok t kn hz
 rw [Int.toNat_natCast] at hlong hok
 have hM:=many23_tr s t kn (by omega) (by omega) (fun w hw=>(z3 w hw).1)
 have hp:=@setP_pre t kn
 have hti:=fun i (h:i < t.length)=>(z3 (t.getD i 0) (by rw [List.getD_eq_getElem?_getD,List.getElem?_eq_getElem h];exact List.getElem_mem h)).1
 clear z3 hz
 refine Tr.enter env _ Tryz.func13 (by kernel_rfl) rfl Tryz.ntmps13 rfl (by repeat (first | exact has00 | refine has01 ?_)) fun w0=>?_
 repeat' first|(refine gca ?_;first|(refine ca hC ?_;rintro _ _ ⟨rfl,rfl⟩)|(refine ca hM ?_;rintro _ _ ⟨⟨r,rfl,hr⟩,rfl⟩))|(refine wo ?_;first|(refine ao ?_;first|refine oa ?_)|refine oa ?_)|(refine gc ?_;first|refine cf ?_|(refine ci (fun hB=>?_) (fun hB=>?_) <;> try (exfalso;omega)))|refine sq ?_|refine rg ?_|refine xc ?_|refine nl ?_|refine sk ?_|refine bk ?_|refine rt ?_
 ·rw [hlong (by omega)]
  refine TX.im (owl_nil (e:=TLI) (g:=I) _) ?_
  refine TX.im (own_nil TLs _) ?_
  exact r2 ⟨nS,[],rfl,rfl,rfl,rfl⟩
 rw [hok (by omega)]
 clear hM hC hlong hok
 refine TC.im (owl_nil (e:=TLI) (g:=I) _) ?_
 refine TC.im (own_nil TLs _) ?_
 refine TC.loop (ι:=SrG) (fun g=>[(7,I g.i),(6,g.v)]) (fun g=>[own TLs g.v g.hs,owl TLI I g.hs (setP t kn g.i)]) (fun g=>g.i ≤ t.length∧g.v.oneCell' = true∧g.hs.length = (setP t kn g.i).length) (fun g=>t.length - g.i) ⟨0,nS,[]⟩ [0,1] ⟨Nat.zero_le _,rfl,by rw [setP_zero];rfl⟩ ?_ (hf:=by dsimp only;rw [setP_zero];exact fitA)
 rintro ⟨i,v,hs⟩ ⟨hi,hv,hl⟩
 dsimp only at hi hv hl ⊢
 by_cases hlt:i < t.length
 ·have hss:=setP_succ t kn i
  have h0:=hti i hlt
  obtain ⟨r2,hr2⟩:=@hp (i + 1) t.length hlt
  have hb1:(setP t kn (i + 1)).length ≤ 4096:=by
   have:(setP t kn (i + 1)).length ≤ (setP t kn t.length).length:=by rw [hr2,List.length_append];omega
   omega
  clear hti hp hr2
  by_cases hy:t.getD i 0 = 0
  ·rw [show szL t kn i = [] by unfold szL;exact if_pos hy,List.append_nil] at hss
   repeat' first|refine lie hy ?_|(refine wo ?_;first|(refine ao ?_;first|refine aw ?_|refine oa ?_)|refine oa ?_|refine lnm ?_|refine ixmn ?_)|(refine gc ?_;first|refine cf ?_|(refine ci (fun hB=>?_) (fun hB=>?_) <;> try (exfalso;omega)))|refine sq ?_|refine rg ?_|refine xc ?_|refine nl ?_|refine sk ?_|refine bk ?_|refine xb ?_
   exact lp ⟨i + 1,v,hs⟩ ⟨hlt,hv,by dsimp only;rw [hss];exact hl⟩ (hf:=by dsimp only;rw [hss];exact fitA)
  ·have hR:=rising23_tr (i + 1) 0 kn (by omega) (by omega)
   rw [← show szL t kn i = risR (i + 1) 0 kn by unfold szL;exact if_neg hy] at hR
   have hsl:(setP t kn i).length + (szL t kn i).length ≤ 4096:=by rw [← List.length_append,← hss];omega
   clear hb1
   generalize szL t kn i = L at *
   generalize setP t kn i = M at *
   generalize hy2:t.getD i 0 = y at *
   repeat' first|(refine gca ?_;first|(refine ca hR ?_;rintro u2 _ ⟨ks,hu2,hkl,rfl⟩;refine TO.fact (owl_ones (e:=TLI) (g:=I) (hs:=ks) hkl memA) fun ho2=>?_))|refine lie hy2 ?_|(refine aw (m:=((i + 1:Nat):Int)) ?_)|(refine ap (xs:=hs) (news:=ks) (fun o5=>?_) (h1:=ho2) (hby:=by omega) (h63:=by omega);refine TO.one (v:=o5) (xs:=hs ++ ks) fun ho5=>?_)|(refine wo ?_;first|(refine ao ?_;first|refine oa ?_)|refine oa ?_|refine lnm ?_|refine ixmn ?_)|(refine gc ?_;first|(refine ci (fun hB=>?_) (fun hB=>?_) <;> try (exfalso;omega)))|refine sq ?_|refine rg ?_|refine xc ?_|refine nl ?_|refine sk ?_|refine bk ?_|refine xb ?_
   refine TX.im (owl_join (hs:=hs) (hs2:=ks) hl fitA) ?_
   rw [← hss]
   exact lp ⟨i + 1,o5,hs ++ ks⟩ ⟨hlt,ho5,by dsimp only;rw [hss,List.length_append,List.length_append];omega⟩
 ·obtain rfl:i = t.length:=by omega
  repeat' first|(refine wo ?_;first|(refine ao ?_;first|refine oa ?_)|refine oa ?_|refine lnm ?_)|(refine gc ?_;first|(refine ci (fun hB=>?_) (fun hB=>?_) <;> try (exfalso;omega)))|refine sq ?_|refine rg ?_|refine xc ?_|refine nl ?_|refine xe ?_|refine rt ?_
  exact r2 ⟨v,hs,rfl,hv,hl,rfl⟩
end Go.Art
namespace Go.Art
open Go Go.Proofs Go.RowKit
structure StG where
 i:Nat
 v:Value
 hs:List Value
 Ds:List Nat
attribute [local irreducible] Fit pt own ro vw mpc lpt vels rels mow lrc dfr
attribute [local irreducible] lmp lme mit velg relg bnd owl dfrl setP szL solE
theorem MSets_tr (tv:Value) (t:List Int) (k:Int):Tr Tryz.prog 12 [tv,I k] [vw tv (Is t)] []
  fun u D=>∃ v hs,u = tup2 v (I (setsW t k).2)∧v.oneCell' = true∧hs.length = (setsW t k).1.length∧D = [own TLs v hs,owl TLI I hs (setsW t k).1]:=by
 have hC:=SoCheck_tr tv t k
 by_cases hz:solE t k = 0
 rotate_left
 ·rw [setsW_err hz]
  have h13:solE t k = 13:=solE_13 hz
  rw [h13] at hC
  refine Tr.enterM env _ Tryz.func12 (by kernel_rfl) rfl Tryz.ntmps12 rfl (by repeat (first | exact has00 | refine has01 ?_)) fun w0=>?_
  repeat' first|(refine gca ?_;first|(refine ca hC ?_;rintro _ _ ⟨rfl,rfl⟩))|refine al fun c=>?_|(refine wo ?_;first|(refine ao ?_;first|refine oa ?_)|refine oa ?_|refine sr ?_)|(refine gc ?_;first|refine ct ?_)|refine sq ?_|refine rg ?_|refine xc ?_|refine nl ?_|refine rt ?_
  refine TX.im (dfrl_nil _) ?_
  refine TX.im (owl_nil (e:=TLI) (g:=I) _) ?_
  refine TX.im (own_nil TLs _) ?_
  exact mcc (Ds:=[]) (T:=TLL) (T2:=TEr) ⟨nS,[],rfl,rfl,rfl,rfl⟩
 rw [hz] at hC
 obtain ⟨z1,z2,z3,_⟩:=solE_zero hz
 obtain ⟨kn,rfl⟩ : ∃ kn:Nat,k = kn:=⟨k.toNat,by omega⟩
 have hlong:=@setsW_long t kn hz
 have hok:=@setsW_ok t kn hz
 rw [Int.toNat_natCast] at hlong hok
 clear z3 hz
 have hp:=@setP_pre t kn
 refine Tr.enterM env _ Tryz.func12 (by kernel_rfl) rfl Tryz.ntmps12 rfl (by repeat (first | exact has00 | refine has01 ?_)) fun w0=>?_
 refine TC.leni (v:=tv) (l:=t) fun htl=>?_
 repeat' first|(refine gca ?_;first|(refine ca hC ?_;rintro _ _ ⟨rfl,rfl⟩))|refine al fun c=>?_|(refine wo ?_;first|(refine ao ?_;first|refine oa ?_)|refine oa ?_|refine lnm ?_)|(refine gc ?_;first|refine cf ?_)|refine sq ?_|refine rg ?_|refine xc ?_|refine nl ?_|refine sk ?_|refine bk ?_
 rename_i c4 c5
 clear hC
 refine TC.im (owl_nil (e:=TLI) (g:=I) _) ?_
 refine TC.im (own_nil TLs _) ?_
 refine TC.im (dfrl_nil _) ?_
 refine TC.loopD (ι:=StG) (fun g=>g.Ds) (fun g=>[(16,I g.i)]) (fun g=>[dfrl g.Ds,pt c [g.v] TLL,own TLs g.v g.hs,owl TLI I g.hs (setP t kn g.i),pt c4 [nS] TLL,pt c5 [I 0] TEr]) (fun g=>g.i ≤ t.length∧g.v.oneCell' = true∧g.hs.length = (setP t kn g.i).length∧(setP t kn g.i).length ≤ 4096) (fun g=>t.length - g.i) ⟨0,nS,[],[]⟩ [0,1,4,5,6,14,15] ⟨Nat.zero_le _,rfl,by rw [setP_zero];rfl,by rw [setP_zero];exact Nat.zero_le _⟩ ?_ (hf:=by dsimp only;rw [setP_zero];exact fitA)
 rintro ⟨i,v,hs,Ds⟩ ⟨hi,hv,hl,hl2⟩
 dsimp only at hi hv hl hl2 ⊢
 by_cases hlt:i < t.length
 ·have hss:=setP_succ t kn i
  obtain ⟨r2,hr2⟩:=@hp (i + 1) t.length hlt
  clear hp
  by_cases hti:t.getD i 0 = 0
  ·rw [show szL t kn i = [] by unfold szL;exact if_pos hti,List.append_nil] at hss
   repeat' first|refine lie hti ?_|(refine wo ?_;first|(refine ao ?_;first|refine aw ?_|refine oa ?_)|refine oa ?_|refine ixmn ?_)|(refine gc ?_;first|refine ct ?_|(refine ci (fun hB=>?_) (fun hB=>?_) <;> try (exfalso;omega)))|refine sq ?_|refine rg ?_|refine xc ?_|refine nl ?_|refine sk ?_|refine bk ?_|refine xe ?_
   exact lpD ⟨i + 1,v,hs,Ds⟩ ⟨hlt,hv,by dsimp only;rw [hss];exact hl,by dsimp only;rw [hss];exact hl2⟩ (hf:=by dsimp only;rw [hss];exact fitA)
  ·have hO:=of_tr nS (kn:Int) ((0:Nat):Int) ((i + 1:Nat):Int) rfl
   have hseq:=fun pd ps pf pk=>of1_seq (i + 1) 0 kn [] pd ps pf pk nS (by omega) (by omega) (by simp;omega) rfl
   rw [risL_nil,← show szL t kn i = risR (i + 1) 0 kn by unfold szL;exact if_neg hti] at hseq
   rw [hr2,hss] at hlong
   clear hr2 hok
   generalize szL t kn i = L at *
   generalize setP t kn i = M at *
   generalize hy:t.getD i 0 = y at *
   repeat' first|(refine gca ?_;first|(refine ca hO ?_;rintro _ _ ⟨pd,ps,pf,pk,rfl,rfl⟩))|refine lie hy ?_|(refine aw (m:=((i + 1:Nat):Int)) ?_)|(refine wo ?_;first|(refine ao ?_;first|refine oa ?_)|refine oa ?_|refine ixmn ?_)|(refine gc ?_;first|(refine ci (fun hB=>?_) (fun hB=>?_) <;> try (exfalso;omega)))|refine sq ?_|refine rg ?_|refine xc ?_|refine nl ?_|refine sk ?_|refine bk ?_
   have hS:=@SeqO.run _ _ _ _ _ _ (hseq pd ps pf pk)
   clear hseq hO
   rw [show owl TLI I hs M = owl TLI I hs (M ++ L.take 0) by rw [List.take_zero,List.append_nil]]
   refine TC.range [lpt pd [I ((i + 1:Nat):Int)] TLI,lpt ps [nS] TLs,lpt pf [I ((0:Nat):Int)] TLI,lpt pk [I kn] TLI,vw nS (Is [])] [pt c [v] TLL,pt c5 [I 0] TEr,pt c4 [nS] TLL,own TLs v hs,owl TLI I hs (M ++ L.take 0)] (fun l2 rec Dm pend B'=>∃ v hs j,hs.length = M.length + j∧v.oneCell' = true∧((pend = none∧j = L.length∧M.length + j ≤ 4096∧B' = [dfr Dm,pt c [v] TLL,pt c5 [I 0] TEr,pt c4 [nS] TLL,own TLs v hs,owl TLI I hs (M ++ L.take j)])∨(pend = some .ret∧4096 < M.length + L.length∧B' = [dfr Dm,pt c [v] TLL,pt c5 [I 4] TEr,pt c4 [nS] TLL,own TLs v hs,owl TLI I hs (M ++ L.take j)]))) ?_ ?_
   ·intro rec l2 Dm hr
    refine Tr.unb (hS (α:=RwsG) l2 (fun g=>bnd [lrc l2 rec (bif g.st then .done else .ready) (bif g.st then some .ret else none),dfr Dm,pt c [g.v] TLL,pt c5 [I (bif g.st then 4 else 0)] TEr,pt c4 [nS] TLL,own TLs g.v g.hs,owl TLI I g.hs (M ++ L.take g.i)]) (fun g j=>g.st = false∧g.i = j∧g.hs.length = M.length + j∧M.length + j ≤ 4096∧g.v.oneCell' = true) (fun g=>g.st = true∧4096 < M.length + L.length∧g.hs.length = M.length + g.i∧g.v.oneCell' = true) ⟨v,hs,0,false⟩ ⟨rfl,rfl,hl,hl2,hv⟩ (fun p=>bnd_nob (nb1 (nb1 (nb1 (nb1 (nb1 (nb1 (nb1 nb0)))))))) ?_) ?_
    ·rintro ⟨v,hs,j,st⟩ j' x hx ⟨g1,g2,g3,g4,g5⟩ hj
     dsimp only at g1 g2 g3 g4 g5
     subst g1
     subst g2
     have hll:(L.take j).length = j:=by rw [List.length_take];omega
     have htk:=take_succ' hj []
     refine Ty.bndX ?_
     generalize L.getD j [] = row at *
     show Ty _ _ _ _ (lrc l2 rec .ready none :: [dfr Dm,pt c [v] TLL,pt c5 [I 0] TEr,pt c4 [nS] TLL,own TLs v hs,owl TLI I hs (M ++ L.take j),own TLI x (Is row)]) _
     refine Ty.intro env hr (by repeat (first | exact has00 | refine has01 ?_)) fun w1=>?_
     by_cases hfull:M.length + j = 4096
     ·have hlb:4096 < M.length + L.length:=by omega
      repeat' first|refine xbeg ?_|(refine wo ?_;first|(refine ao ?_;first|refine oa ?_)|refine oa ?_|refine ld ?_|refine ln ?_|refine sr ?_)|(refine gc ?_;first|(refine ci (fun hB=>?_) (fun hB=>?_) <;> try (exfalso;omega)))|refine sq ?_|refine rg ?_|refine xc ?_|refine nl ?_|refine bk ?_|refine rt ?_
      exact yr ⟨⟨v,hs,j,true⟩,rfl,.inr ⟨rfl,rfl,hlb,g3,g5⟩⟩
     ·repeat' first|refine xbeg ?_|refine sli (vs:=[x]) (fun q2=>?_) (h1:=one_cons hx one_nil)|(refine ap (xs:=hs) (news:=[x]) (fun o2=>?_) (h1:=one_cons hx one_nil);refine TO.one (v:=o2) (xs:=hs ++ [x]) fun ho2=>?_)|(refine wo ?_;first|(refine ao ?_;first|refine oa ?_)|refine oa ?_|refine ld ?_|refine ln ?_|refine sr ?_)|(refine gc ?_;first|(refine ci (fun hB=>?_) (fun hB=>?_) <;> try (exfalso;omega)))|refine sq ?_|refine rg ?_|refine xc ?_|refine nl ?_|refine sk ?_|refine bk ?_|refine xb ?_
      refine TX.im (owl_push (hs:=hs) (ls:=M ++ L.take j) (v:=x) (l:=row) (by rw [List.length_append,hll];exact g3) fitA) ?_
      rw [List.append_assoc,← htk]
      exact yn ⟨⟨o2,hs ++ [x],j + 1,false⟩,rfl,.inl ⟨rfl,rfl,rfl,by simp [g3];omega,by omega,ho2⟩⟩
    ·rintro _ _ ⟨⟨v,hs,j,st⟩,rfl,⟨g1,g2,g3,g4,g5⟩ | ⟨g1,g2,g3,g4⟩⟩
     ·dsimp only at g1 g2 g3 g4 g5
      subst g1
      exact ⟨_,rfl,.ready,none,_,rfl,by decide,v,hs,j,by omega,g5,.inl ⟨rfl,by omega,by omega,rfl⟩⟩
     ·dsimp only at g1 g2 g3 g4
      subst g1
      exact ⟨_,rfl,.done,some .ret,_,rfl,by decide,v,hs,j,g3,g4,.inr ⟨rfl,g2,rfl⟩⟩
   ·rintro l2 rec Dm pend B' ⟨v,hs,j,g1,g2,⟨rfl,g3,g4,rfl⟩ | ⟨rfl,g3,rfl⟩⟩
    ·show TX env _ _ _ _ _ _
     refine TX.im (dfrl_push (D:=Dm) (Ds:=Ds) fitA) ?_
     rw [g3,List.take_length,← hss]
     repeat' first|(refine wo ?_;first|(refine ao ?_;first|refine aw ?_)|refine oa ?_)|refine rg ?_|refine xc ?_|refine nl ?_|refine xb ?_
     exact lpD ⟨i + 1,v,hs,Dm :: Ds⟩ ⟨hlt,g2,by dsimp only;rw [hss,List.length_append];omega,by dsimp only;rw [hss,List.length_append];omega⟩
    ·show TC env _ _ _ _ _ _
     rw [hlong (by simp only [List.length_append];omega)]
     refine TC.im (dfrl_push (D:=Dm) (Ds:=Ds) fitA) ?_
     repeat' first|refine rt ?_
     refine TX.im (owl_nil (e:=TLI) (g:=I) _) ?_
     refine TX.im (own_nil TLs _) ?_
     exact mcc (Ds:=Dm :: Ds) (T:=TLL) (T2:=TEr) ⟨nS,[],rfl,rfl,rfl,rfl⟩
 ·obtain rfl:i = t.length:=by omega
  rw [hok (by omega)]
  repeat' first|(refine wo ?_;first|(refine ao ?_;first|refine oa ?_)|refine ld ?_|refine sr ?_)|(refine gc ?_;first|(refine ci (fun hB=>?_) (fun hB=>?_) <;> try (exfalso;omega)))|refine sq ?_|refine rg ?_|refine xc ?_|refine nl ?_|refine xe ?_|refine rt ?_
  exact mcc (Ds:=Ds) (T:=TLL) (T2:=TEr) ⟨v,hs,rfl,hv,hl,rfl⟩
end Go.Art
namespace Go.Art
open Go Go.Proofs Go.RowKit
def refE (t:List Int) (k n:Int):Int:=if solE t k = 0 then (if n < 0∨4096 < n then 3 else 0) else 13
theorem refE_zero {t:List Int} {k n:Int} (h:refE t k n = 0):solE t k = 0∧0 ≤ n∧n ≤ 4096:=by
 unfold refE at h
 split at h
 ·split at h
  ·cases h
  ·exact ⟨by assumption,by omega,by omega⟩
 ·cases h
def prodC (k:Nat):Nat→Nat
 | 0=>1
 | i + 1=>prodC k i * chs k (i + 1)
def prodX (k d:Nat):Nat→Nat
 | 0=>1
 | i + 1=>if i + 1 = d then prodX k d i else prodX k d i * chs k (i + 1)
theorem prodX_lt {k d:Nat}:∀ {n:Nat},n < d→prodX k d n = prodC k n
 | 0,_=>rfl
 | n + 1,h=>by unfold prodX prodC;rw [if_neg (by omega),prodX_lt (by omega)]
theorem prodX_mul {k d:Nat} (h1:1 ≤ d):∀ {n:Nat},d ≤ n→prodX k d n * chs k d = prodC k n
 | 0,h=>by omega
 | n + 1,h=>by
  unfold prodX prodC
  by_cases e:n + 1 = d
  ·rw [if_pos e,prodX_lt (by omega),e]
  ·rw [if_neg e,← prodX_mul h1 (by omega),Nat.mul_assoc,Nat.mul_comm (chs k (n + 1)),← Nat.mul_assoc]
theorem prodC_pos {k:Nat}:∀ {n:Nat},n ≤ k→prodC k n ≠ 0
 | 0,_=>Nat.one_ne_zero
 | n + 1,h=>by unfold prodC;exact Nat.mul_ne_zero (prodC_pos (by omega)) (chs_pos (by omega))
theorem prodC_le {k:Nat} (hk:k ≤ 40):∀ n,prodC k n ≤ 1099511627776 ^ n
 | 0=>by simp [prodC]
 | n + 1=>by
  unfold prodC
  rw [Nat.pow_succ]
  exact Nat.mul_le_mul (prodC_le hk n) (Nat.le_trans (chs_bnd k (n + 1)) (Nat.le_trans (Nat.pow_le_pow_right (by decide) hk) (by decide)))
theorem prodX_le {k d n:Nat} (h1:1 ≤ d) (h2:d ≤ n) (h3:n ≤ k):prodX k d n ≤ prodC k n:=by
 rw [← prodX_mul h1 h2]
 exact Nat.le_mul_of_pos_right _ (Nat.pos_of_ne_zero (chs_pos (by omega)))
def oneS (t:List Int) (k:Nat):Nat:=t.sum.toNat * prodC k t.length
def wS (t:List Int) (k d:Nat):Nat:=(t.getD (d - 1) 0).toNat * prodX k d t.length
def itemS (t:List Int) (k:Nat):List (List Int × Nat):=(setP t k t.length).map fun s=>(s,wS t k s.length)
theorem itemS_len (t:List Int) (k:Nat):(itemS t k).length = (setP t k t.length).length:=by simp [itemS]
theorem itemS_fst (t:List Int) (k:Nat):(itemS t k).map (·.1) = setP t k t.length:=by unfold itemS;rw [List.map_map];exact List.map_id _
theorem le_sum {t:List Int} (h:∀ w ∈ t,0 ≤ w):∀ w ∈ t,w ≤ t.sum:=by
 induction t with
 | nil=>intro w hw;cases hw
 | cons a r ih=>
  intro w hw
  have h1:0 ≤ r.sum:=by
   clear ih hw
   induction r with
   | nil=>simp
   | cons b s ih2=>
    have:=h b (by simp)
    have:=ih2 fun w hw=>h w (by rcases List.mem_cons.1 hw with rfl | hw;simp;simp [hw])
    simp only [List.sum_cons];omega
  rw [List.sum_cons]
  have ha:=h a (by simp)
  rcases List.mem_cons.1 hw with rfl | hw
  ·omega
  ·have:=ih (fun w hw=>h w (by simp [hw])) w hw;omega
theorem oneS_pos {t:List Int} {k:Nat} (hz:solE t k = 0):oneS t k ≠ 0:=by
 obtain ⟨z1,z2,z3,z4⟩:=solE_zero hz
 have:=sum_posT z3 z4
 exact Nat.mul_ne_zero (by omega) (prodC_pos (by omega))
theorem oneS_lt {t:List Int} {k:Nat} (hz:solE t k = 0) (hk:k ≤ 40) (hl:t.length ≤ 12):oneS t k < 18446744073709551616 ^ 10:=by
 obtain ⟨z1,z2,z3,z4⟩:=solE_zero hz
 have h1:=(sum_wOk z3).2
 have h2:t.sum.toNat ≤ 268435456:=by
  have:(16777215:Int) * t.length ≤ 16777215 * 12:=by omega
  omega
 have h3:=prodC_le hk t.length
 have h4:1099511627776 ^ t.length ≤ 1099511627776 ^ 12:=Nat.pow_le_pow_right (by decide) hl
 have h5:oneS t k ≤ 268435456 * 1099511627776 ^ 12:=Nat.mul_le_mul h2 (Nat.le_trans h3 h4)
 exact Nat.lt_of_le_of_lt h5 (by decide)
theorem wS_le {t:List Int} {k d:Nat} (hz:solE t k = 0) (h1:1 ≤ d) (h2:d ≤ t.length):wS t k d ≤ oneS t k:=by
 obtain ⟨z1,z2,z3,z4⟩:=solE_zero hz
 have hm:t.getD (d - 1) 0 ∈ t:=by rw [List.getD_eq_getElem?_getD,List.getElem?_eq_getElem (by omega)];exact List.getElem_mem (by omega)
 have:=le_sum (fun w hw=>(z3 w hw).1) _ hm
 exact Nat.mul_le_mul (by omega) (prodX_le h1 h2 (by omega))
theorem cha_eq {t:List Int} {k d:Nat} (hz:solE t k = 0) (h1:1 ≤ d) (h2:d ≤ t.length):mkRat (t.getD (d - 1) 0) (chs k d * t.sum.toNat) = mkRat ((wS t k d:Nat):Int) (oneS t k):=by
 obtain ⟨z1,z2,z3,z4⟩:=solE_zero hz
 have hs:=sum_posT z3 z4
 have hm:t.getD (d - 1) 0 ∈ t:=by rw [List.getD_eq_getElem?_getD,List.getElem?_eq_getElem (by omega)];exact List.getElem_mem (by omega)
 have h0:=(z3 _ hm).1
 have hx:prodX k d t.length ≠ 0:=fun e=>by
  have:=prodX_mul (k:=k) h1 h2
  rw [e,Nat.zero_mul] at this
  exact prodC_pos (k:=k) (n:=t.length) (by omega) this.symm
 have:=mk_scale (t.getD (d - 1) 0).toNat (chs k d * t.sum.toNat) (prodX k d t.length) (Nat.mul_ne_zero (chs_pos (by omega)) (by omega)) hx
 rw [Int.toNat_of_nonneg h0] at this
 rw [this]
 congr 1
 unfold oneS
 rw [← prodX_mul (k:=k) h1 h2]
 grind
theorem itemS_mem {t:List Int} {k:Nat} {s:List Int × Nat} (h:s ∈ itemS t k):(1 ≤ s.1.length∧s.1.length ≤ t.length)∧s.2 = wS t k s.1.length∧s.1 ∈ risR s.1.length 0 k:=by
 obtain ⟨l,hl,rfl⟩:=List.mem_map.1 h
 obtain ⟨a1,a2,_,a4⟩:=setP_mem hl
 exact ⟨⟨a1,a2⟩,rfl,a4⟩
theorem itemS_le {t:List Int} {k:Nat} (hz:solE t k = 0):∀ s ∈ itemS t k,s.2 ≤ oneS t k:=fun s h=>by
 obtain ⟨a1,a2,_⟩:=itemS_mem h
 rw [a2];exact wS_le hz a1.1 a1.2
theorem itemS_pos {t:List Int} {k:Nat} (hz:solE t k = 0):0 < (itemS t k).length:=by
 obtain ⟨z1,z2,z3,w,hw,hw0⟩:=solE_zero hz
 obtain ⟨i,hi,rfl⟩:=List.mem_iff_getElem.1 hw
 rw [itemS_len]
 obtain ⟨r,hr⟩:=setP_pre t k (show i + 1 ≤ t.length from hi)
 have h1:(szL t k i).length ≠ 0:=by
  rw [szL_len,if_neg (by simp [List.getD_eq_getElem?_getD,hi];omega)]
  exact chs_pos (by omega)
 rw [hr,setP_succ]
 simp only [List.length_append];omega
def massW (W:List (List Int)→Bool) (t:List Int) (k n:Int):Fr3 × Int:=
 if refE t k n = 0 then (if (setsW t k).2 = 0 then sumW W (itemS t k.toNat) (oneS t k.toNat) n.toNat else (rqn,4)) else (rqn,refE t k n)
structure DrG where
 i:Nat
 v:Value
 hs:List (Value × Value)
attribute [local irreducible] Fit pt own ro vw mpc lpt vels rels mow lrc dfr
attribute [local irreducible] lmp lme mit velg relg bnd owl setP szL solE risR chaW oneS wS
theorem mrefuses_tr (tv:Value) (t:List Int) (k n:Int):Tr Tryz.prog 47 [tv,I k,I n] [vw tv (Is t)] [] fun u D=>u = I (refE t k n)∧D = []:=by
 have hC:=SoCheck_tr tv t k
 have h13:=@solE_13 t k
 unfold refE
 refine Tr.enter env _ Tryz.func47 (by kernel_rfl) rfl Tryz.ntmps47 rfl (by repeat (first | exact has00 | refine has01 ?_)) fun w0=>?_
 by_cases hz:solE t k = 0
 ·rw [hz] at hC
  rw [if_pos hz]
  repeat' first|(refine gca ?_;first|(refine ca hC ?_;rintro _ _ ⟨rfl,rfl⟩))|(refine wo ?_;first|(refine ao ?_;first|refine oa ?_)|refine oa ?_|refine gy ?_|refine gn ?_|(refine gsi (fun hB=>?_) (fun hB=>?_) <;> try (exfalso;omega)))|(refine gc ?_;first|refine ct ?_|refine cf ?_|(refine ci (fun hB=>?_) (fun hB=>?_) <;> try (exfalso;omega)))|refine sq ?_|refine rg ?_|refine xc ?_|refine nl ?_|refine sk ?_|refine bk ?_|refine rt ?_|refine xb ?_
  all_goals first | exact r1 ⟨by rw [if_pos (by omega)],rfl⟩ | exact r1 ⟨by rw [if_neg (by omega)],rfl⟩
 ·rw [h13 hz] at hC
  rw [if_neg hz]
  repeat' first|(refine gca ?_;first|(refine ca hC ?_;rintro _ _ ⟨rfl,rfl⟩))|(refine wo ?_;first|(refine ao ?_;first|refine oa ?_)|refine oa ?_)|(refine gc ?_;first|refine ct ?_)|refine sq ?_|refine rg ?_|refine xc ?_|refine nl ?_|refine bk ?_|refine rt ?_
  exact r1 ⟨rfl,rfl⟩
abbrev itmC (v:Value) (ss:List Value) (hs:List (Value × Value)) (L:List (List Int × Nat)) (D:Nat):List Ch:=[oww TIm 4 v L.length (ics ss (fracs L D) hs),owl TLI I ss (L.map (·.1)),ofr hs (fracs L D)]
theorem drawn_err (tv:Value) (t:List Int) (k n:Int) (hz:refE t k n ≠ 0):Tr Tryz.prog 37 [tv,I k,I n] [vw tv (Is t)] [] fun u D=>u = tup2 nS (I (refE t k n))∧D = []:=by
 have hR:=mrefuses_tr tv t k n
 generalize refE t k n = e at *
 refine Tr.enter env _ Tryz.func37 (by kernel_rfl) rfl Tryz.ntmps37 rfl (by repeat (first | exact has00 | refine has01 ?_)) fun w0=>?_
 repeat' first|(refine gca ?_;first|(refine ca hR ?_;rintro _ _ ⟨rfl,rfl⟩))|(refine wo ?_;first|(refine ao ?_;first|refine oa ?_)|refine oa ?_)|(refine gc ?_;first|(refine cn (fun hB=>?_) (fun hB=>?_) <;> try (exfalso;omega)))|refine sq ?_|refine rg ?_|refine xc ?_|refine nl ?_|refine rt ?_
 exact r2 ⟨rfl,rfl⟩
theorem drawn_long (tv:Value) (t:List Int) (k n:Int) (hz:refE t k n = 0) (h2:setsW t k = ([],4)):Tr Tryz.prog 37 [tv,I k,I n] [vw tv (Is t)] [] fun u D=>u = tup2 nS (I 4)∧D = []:=by
 have hR:=mrefuses_tr tv t k n
 have hS:=MSets_tr tv t k
 rw [hz] at hR
 rw [h2] at hS
 refine Tr.enter env _ Tryz.func37 (by kernel_rfl) rfl Tryz.ntmps37 rfl (by repeat (first | exact has00 | refine has01 ?_)) fun w0=>?_
 repeat' first|(refine gca ?_;first|(refine ca hR ?_;rintro _ _ ⟨rfl,rfl⟩)|(refine ca hS ?_;rintro _ _ ⟨v,hs,rfl,hv,hl,rfl⟩))|(refine wo ?_;first|(refine ao ?_;first|refine oa ?_)|refine oa ?_|refine ln ?_)|(refine gc ?_;first|refine cf ?_)|refine sq ?_|refine rg ?_|refine xc ?_|refine nl ?_|refine sk ?_|refine bk ?_
 obtain rfl:hs = []:=List.length_eq_zero_iff.1 hl
 refine TC.loop (ι:=Nat) (fun i=>[(31,I i)]) (fun _=>[]) (fun i=>i = 0) (fun i=>0) 0 [11,10,30] rfl ?_
 rintro i rfl
 repeat' first|(refine wo ?_;first|(refine ao ?_;first|refine oa ?_)|refine oa ?_)|(refine gc ?_;first|refine cf ?_)|refine sq ?_|refine rg ?_|refine xc ?_|refine nl ?_|refine xe ?_|refine rt ?_
 exact r2 ⟨rfl,rfl⟩
theorem drawn_tr (tv:Value) (t:List Int) (k:Nat) (n:Int) (hz:refE t k n = 0) (h2:setsW t k = (setP t k t.length,0)) (h3:(setP t k t.length).length ≤ 4096):Tr Tryz.prog 37 [tv,I k,I n] [vw tv (Is t)] []
  fun u D=>∃ v ss hs,u = tup2 v (I 0)∧v.oneCell' = true∧ss.length = (itemS t k).length∧hs.length = (itemS t k).length∧D = itmC v ss hs (itemS t k) (oneS t k):=by
 have hR:=mrefuses_tr tv t k n
 have hS:=MSets_tr tv t k
 obtain ⟨hsz,_⟩:=refE_zero hz
 rw [hz] at hR
 rw [h2] at hS
 have hCh:=fun d=>ChaW_tr tv t k d
 have hmem:=@itemS_mem t k
 have hce:=fun d h1 h2=>cha_eq (d:=d) hsz h1 h2
 have hcw:∀ d:Nat,1 ≤ d→d ≤ t.length→chaW t k d = (rqf (mkRat (t.getD (d - 1) 0) (chs k d * t.sum.toNat)),0):=fun d h1 h2=>by
  unfold chaW
  rw [if_pos hsz,if_neg (by omega),Int.toNat_natCast,Int.toNat_natCast,show (((d:Int) - 1).toNat) = d - 1 by omega]
 obtain ⟨L,hL⟩ : ∃ L,L = itemS t k:=⟨_,rfl⟩
 have hLl:L.length ≤ 4096:=by rw [hL,itemS_len];exact h3
 rw [← itemS_fst,← hL] at hS
 simp only [← hL] at hmem ⊢
 have hgl:∀ i,i < L.length→L.getD i ([],0) ∈ L:=fun i h=>by rw [List.getD_eq_getElem?_getD,List.getElem?_eq_getElem h];exact List.getElem_mem h
 have hlen:∀ s ∈ L,s.1.length ≤ t.length:=fun s hs=>(hmem hs).1.2
 have hch:∀ i,i < L.length→chaW t k ((L.getD i ([],0)).1.length) = (rqf ((fracs L (oneS t k)).getD i 0),0):=fun i h=>by
  obtain ⟨a1,a2,_⟩:=hmem (hgl i h)
  rw [hcw _ a1.1 a1.2,hce _ a1.1 a1.2,fracs_get h,a2]
 have hfl:(fracs L (oneS t k)).length = L.length:=by simp
 have hll:(L.map fun s:List Int × Nat=>s.1).length = L.length:=List.length_map ..
 have hfg:=fun i (h:i < L.length)=>fst_get (L:=L) h
 clear hL hz h2 h3 hmem hce hcw hgl
 unfold itmC
 generalize fracs L (oneS t k) = Q at *
 rw [hll] at hS
 refine Tr.enter env _ Tryz.func37 (by kernel_rfl) rfl Tryz.ntmps37 rfl (by repeat (first | exact has00 | refine has01 ?_)) fun w0=>?_
 refine TC.leni (v:=tv) (l:=t) fun htl=>?_
 repeat' first|(refine gca ?_;first|(refine ca hR ?_;rintro _ _ ⟨rfl,rfl⟩)|(refine ca hS ?_;rintro _ _ ⟨sv,ss,rfl,hsv,hsl,rfl⟩))|(refine wo ?_;first|(refine ao ?_;first|refine oa ?_)|refine oa ?_|refine ln ?_)|(refine gc ?_;first|refine cf ?_)|refine sq ?_|refine rg ?_|refine xc ?_|refine nl ?_|refine sk ?_|refine bk ?_
 refine TC.im (oww_nil TIm 4 _) (TC.im (owl_nil (e:=T64) (g:=wU) _) ?_)
 refine TC.fact (owl_ones (e:=TLI) (g:=I) (hs:=ss) (ls:=L.map fun s=>s.1) (by rw [hll];exact hsl) memA) fun hso=>?_
 refine TC.loop (ι:=DrG) (fun g=>[(31,I g.i),(11,g.v)]) (fun g=>[oww TIm 4 g.v g.i (ics (ss.take g.i) (Q.take g.i) g.hs),ofr g.hs (Q.take g.i)]) (fun g=>g.i ≤ L.length∧g.v.oneCell' = true∧g.hs.length = g.i) (fun g=>L.length - g.i) ⟨0,nS,[]⟩ [0,1,10,29,30] ⟨Nat.zero_le _,rfl,rfl⟩ ?_
 rintro ⟨i,v,hs⟩ ⟨hi,hv,hl⟩
 dsimp only at hi hv hl ⊢
 by_cases hlt:i < L.length
 ·have hg1:ss[i]? = some (ss.getD i nS):=by rw [List.getD_eq_getElem?_getD,List.getElem?_eq_getElem (by omega)];rfl
  have hs1:(ss.getD i nS).oneCell' = true:=hso _ (by rw [List.getD_eq_getElem?_getD,List.getElem?_eq_getElem (by omega)];exact List.getElem_mem (by omega))
  have hsl1:∀ F,owl TLI I ss (L.map fun s=>s.1) ∈ F→Has F (vw (ss.getD i nS) (Is (L.getD i ([],0)).1)):=fun F h=>by
   have:=has_elg (g:=I) (hs:=ss) (ls:=L.map fun s=>s.1) (has_owl (e:=TLI) (by rw [hll];exact hsl) h) (i:=i) (by rw [hll];exact hlt)
   rwa [hfg i hlt] at this
  have hc:=hch i hlt
  have hC1:=hCh ((L.getD i ([],0)).1.length:Int)
  rw [hc] at hC1
  have hst:=take_succ' (show i < ss.length by omega) nS
  have hqt:=take_succ' (show i < Q.length by omega) 0
  have hqtl:(Q.take i).length = i:=by rw [List.length_take];omega
  have hra:=fun vn vd=>ics_app (ss:=ss.take i) (rs:=[ss.getD i nS]) (qs:=Q.take i) (ps:=[Q.getD i 0]) (hs:=hs) (gs:=[(vn,vd)]) (by simp only [List.length_take];omega) (by rw [hqtl];exact hl)
  simp only [← hst,← hqt,ics_one] at hra
  have hrl:=hlen (L.getD i ([],0)) (by rw [List.getD_eq_getElem?_getD,List.getElem?_eq_getElem hlt];exact List.getElem_mem hlt)
  unfold FW at hC1
  dsimp only at hC1
  clear hso hch hCh hfg hst hc hlen
  generalize (L.getD i ([],0)).1 = row at *
  generalize ss.getD i nS = s1 at *
  generalize Q.getD i 0 = q at *
  repeat' first|(refine gca ?_;first|(refine ca hC1 ?_;rintro _ _ ⟨vn,vd,rfl,hvn,hvd,rfl⟩))|refine le (xs:=ss) ?_ (hj:=hg1)|(refine lnm (l:=row) ?_ (hh:=hsl1 _ memA))|refine al fun c14=>?_|refine srz ?_|refine lda ?_|refine bdm ?_|refine slws (sz:=4) (xs:=irow s1 q (vn,vd)) (fun g2=>?_)|refine apw (sz:=4) (M:=1) (N:=i) (xs:=ics (ss.take i) (Q.take i) hs) (ys:=irow s1 q (vn,vd)) (by decide) rfl (one_cons hs1 (one_cons rfl (one_cons hvn (one_cons hvd one_nil)))) (fun o2 ho2=>?_) (hu:=has_oww memA)|(refine wo ?_;first|(refine ao ?_;first|refine aw ?_|refine oa ?_)|refine oa ?_|refine ixn ?_)|(refine gc ?_;first|(refine ci (fun hB=>?_) (fun hB=>?_) <;> try (exfalso;omega)))|refine sq ?_|refine rg ?_|refine xc ?_|refine nl ?_|refine sk ?_|refine bk ?_|refine xb ?_
  refine TX.im (ofr_snoc (qs:=Q.take i) (by rw [hqtl];exact hl) q vn vd fitA) ?_
  rw [← hqt]
  exact lp ⟨i + 1,o2,hs ++ [(vn,vd)]⟩ ⟨hlt,ho2,by simp [hl]⟩ (hf:=by dsimp only;rw [hra];exact fitA)
 ·obtain rfl:i = L.length:=by omega
  rw [List.take_of_length_le (show ss.length ≤ L.length by omega),List.take_of_length_le (show Q.length ≤ L.length by omega)]
  repeat' first|(refine wo ?_;first|(refine ao ?_;first|refine oa ?_)|refine oa ?_)|(refine gc ?_;first|(refine ci (fun hB=>?_) (fun hB=>?_) <;> try (exfalso;omega)))|refine sq ?_|refine rg ?_|refine xc ?_|refine nl ?_|refine xe ?_|refine rt ?_
  exact r2 ⟨v,ss,hs,rfl,hv,by omega,hl,rfl⟩
theorem setsW_cases {t:List Int} {k:Nat} (hz:solE t k = 0):(setsW t k = (setP t k t.length,0)∧(setP t k t.length).length ≤ 4096)∨setsW t k = ([],4):=by
 by_cases h:4096 < (setP t k t.length).length
 ·exact .inr (setsW_long hz (by rw [Int.toNat_natCast];exact h))
 ·refine .inl ⟨?_,by omega⟩
  have:=setsW_ok hz (by rw [Int.toNat_natCast];exact h)
  rwa [Int.toNat_natCast] at this
noncomputable abbrev failW (k:Int) (ls:List (List Int)):Bool:=decide (0 < (largeR k ls).length)
theorem MFail_tr (tv:Value) (t:List Int) (k n:Int) (hl:t.length ≤ 12) (hk:k ≤ 40∨65536 < k) (hn:n ≤ 12∨4096 < n):Tr Tryz.prog 21 [tv,I k,I n] [vw tv (Is t)] [] (FW (massW (failW k) t k n)):=by
 unfold massW
 by_cases hz:refE t k n = 0
 rotate_left
 ·rw [if_neg hz]
  have hD:=drawn_err tv t k n hz
  refine Tr.mono (R:=fun u D=>u = tup2 rv0 (I (refE t k n))∧D = [own T64 nS (Us []),own T64 nS (Us [])]) ?_ fun u D h=>FW.of0 h
  generalize refE t k n = e at *
  refine Tr.enter env _ Tryz.func21 (by kernel_rfl) rfl Tryz.ntmps21 rfl (by repeat (first | exact has00 | refine has01 ?_)) fun w0=>?_
  repeat' first|(refine gca ?_;first|(refine ca hD ?_;rintro _ _ ⟨rfl,rfl⟩))|refine al fun c=>?_|refine bdz ?_|refine srz ?_|(refine wo ?_;first|(refine ao ?_;first|refine oa ?_)|refine oa ?_)|(refine gc ?_;first|(refine cn (fun hB=>?_) (fun hB=>?_) <;> try (exfalso;omega)))|refine sq ?_|refine rg ?_|refine xc ?_|refine nl ?_|refine rt ?_
  refine TX.im (own_nil T64 _) (TX.im (own_nil T64 _) ?_)
  exact rca (cs:=[.bool false,nS,nS]) (vs:=[.bool false,nS,nS]) (T:=TRt) ⟨rfl,rfl⟩
 rw [if_pos hz]
 obtain ⟨hsz,hn0,hn1⟩:=refE_zero hz
 obtain ⟨z1,z2,_⟩:=solE_zero hsz
 obtain ⟨kn,rfl⟩ : ∃ kn:Nat,k = kn:=⟨k.toNat,by omega⟩
 obtain ⟨nn,rfl⟩ : ∃ nn:Nat,n = nn:=⟨n.toNat,by omega⟩
 rw [Int.toNat_natCast,Int.toNat_natCast]
 rcases setsW_cases hsz with ⟨h1,h2⟩ | h1
 rotate_left
 ·rw [h1,if_neg (by decide)]
  have hD:=drawn_long tv t kn nn hz h1
  refine Tr.mono (R:=fun u D=>u = tup2 rv0 (I 4)∧D = [own T64 nS (Us []),own T64 nS (Us [])]) ?_ fun u D h=>FW.of0 h
  refine Tr.enter env _ Tryz.func21 (by kernel_rfl) rfl Tryz.ntmps21 rfl (by repeat (first | exact has00 | refine has01 ?_)) fun w0=>?_
  repeat' first|(refine gca ?_;first|(refine ca hD ?_;rintro _ _ ⟨rfl,rfl⟩))|refine al fun c=>?_|refine bdz ?_|refine srz ?_|(refine wo ?_;first|(refine ao ?_;first|refine oa ?_)|refine oa ?_)|(refine gc ?_;first|refine ct ?_)|refine sq ?_|refine rg ?_|refine xc ?_|refine nl ?_|refine rt ?_
  refine TX.im (own_nil T64 _) (TX.im (own_nil T64 _) ?_)
  exact rca (cs:=[.bool false,nS,nS]) (vs:=[.bool false,nS,nS]) (T:=TRt) ⟨rfl,rfl⟩
 rw [h1,if_pos rfl]
 have hD:=drawn_tr tv t kn nn hz h1 h2
 have hLp:=itemS_pos hsz
 have hLb:=itemS_le hsz
 have hO0:=oneS_pos hsz
 have hO1:=oneS_lt hsz (by omega) hl
 have hS:=fun v hv ss hs a b=>Sum_tr v hv ss hs (itemS t kn) (oneS t kn) nn (kn:Int) 40 (failW kn) a b hLp hLb hO0 hO1 (by omega) (fun v l hl hi=>fails_trm (kn:Int) v (l.map fun i=>ss.getD i nS) (selS (itemS t kn) l) (by unfold selS;rw [List.length_map];omega))
 clear hLb hO0 hO1 h1 h2 hLp
 generalize sumW (failW kn) (itemS t kn) (oneS t kn) nn = sw at *
 generalize itemS t kn = L at *
 generalize oneS t kn = D1 at *
 obtain ⟨⟨s1,s2,s3⟩,e⟩:=sw
 unfold FW at hS ⊢
 dsimp only at hS ⊢
 unfold itmC at hD
 have hll:(L.map fun s:List Int × Nat=>s.1).length = L.length:=List.length_map ..
 have hfl:(fracs L D1).length = L.length:=List.length_map ..
 refine Tr.enter env _ Tryz.func21 (by kernel_rfl) rfl Tryz.ntmps21 rfl (by repeat (first | exact has00 | refine has01 ?_)) fun w0=>?_
 repeat' first|(refine gca ?_;first|(refine ca hD ?_;rintro _ _ ⟨v,ss,hs,rfl,hv,hss,hhs,rfl⟩)|(refine ca (hS v hv ss hs hss hhs) ?_ (hp:=has1 (has_oww memA) (has1 (has_owl (e:=TLI) (by rw [hll];exact hss) memA) (has1 (has_ofr (by rw [hfl];exact hhs) memA) has0)));rintro _ _ ⟨vn,vd,rfl,hvn,hvd,rfl⟩))|refine al fun c=>?_|refine srz ?_|(refine wo ?_;first|(refine ao ?_;first|refine oa ?_)|refine oa ?_)|(refine gc ?_;first|refine cf ?_)|refine sq ?_|refine rg ?_|refine xc ?_|refine nl ?_|refine sk ?_|refine rt ?_
 exact rca (cs:=[.bool s1,vn,vd]) (vs:=[.bool s1,vn,vd]) (T:=TRt) ⟨vn,vd,rfl,hvn,hvd,rfl⟩
theorem MWhole_tr (tv:Value) (t:List Int) (k n:Int) (hl:t.length ≤ 12) (hk:k ≤ 40∨65536 < k) (hn:n ≤ 12∨4096 < n):Tr Tryz.prog 20 [tv,I k,I n] [vw tv (Is t)] [] (FW (massW (fun _=>true) t k n)):=by
 unfold massW
 by_cases hz:refE t k n = 0
 rotate_left
 ·rw [if_neg hz]
  have hD:=drawn_err tv t k n hz
  refine Tr.mono (R:=fun u D=>u = tup2 rv0 (I (refE t k n))∧D = [own T64 nS (Us []),own T64 nS (Us [])]) ?_ fun u D h=>FW.of0 h
  generalize refE t k n = e at *
  refine Tr.enter env _ Tryz.func20 (by kernel_rfl) rfl Tryz.ntmps20 rfl (by repeat (first | exact has00 | refine has01 ?_)) fun w0=>?_
  repeat' first|(refine gca ?_;first|(refine ca hD ?_;rintro _ _ ⟨rfl,rfl⟩))|refine al fun c=>?_|refine bdz ?_|refine srz ?_|(refine wo ?_;first|(refine ao ?_;first|refine oa ?_)|refine oa ?_)|(refine gc ?_;first|(refine cn (fun hB=>?_) (fun hB=>?_) <;> try (exfalso;omega)))|refine sq ?_|refine rg ?_|refine xc ?_|refine nl ?_|refine rt ?_
  refine TX.im (own_nil T64 _) (TX.im (own_nil T64 _) ?_)
  exact rca (cs:=[.bool false,nS,nS]) (vs:=[.bool false,nS,nS]) (T:=TRt) ⟨rfl,rfl⟩
 rw [if_pos hz]
 obtain ⟨hsz,hn0,hn1⟩:=refE_zero hz
 obtain ⟨z1,z2,_⟩:=solE_zero hsz
 obtain ⟨kn,rfl⟩ : ∃ kn:Nat,k = kn:=⟨k.toNat,by omega⟩
 obtain ⟨nn,rfl⟩ : ∃ nn:Nat,n = nn:=⟨n.toNat,by omega⟩
 rw [Int.toNat_natCast,Int.toNat_natCast]
 rcases setsW_cases hsz with ⟨h1,h2⟩ | h1
 rotate_left
 ·rw [h1,if_neg (by decide)]
  have hD:=drawn_long tv t kn nn hz h1
  refine Tr.mono (R:=fun u D=>u = tup2 rv0 (I 4)∧D = [own T64 nS (Us []),own T64 nS (Us [])]) ?_ fun u D h=>FW.of0 h
  refine Tr.enter env _ Tryz.func20 (by kernel_rfl) rfl Tryz.ntmps20 rfl (by repeat (first | exact has00 | refine has01 ?_)) fun w0=>?_
  repeat' first|(refine gca ?_;first|(refine ca hD ?_;rintro _ _ ⟨rfl,rfl⟩))|refine al fun c=>?_|refine bdz ?_|refine srz ?_|(refine wo ?_;first|(refine ao ?_;first|refine oa ?_)|refine oa ?_)|(refine gc ?_;first|refine ct ?_)|refine sq ?_|refine rg ?_|refine xc ?_|refine nl ?_|refine rt ?_
  refine TX.im (own_nil T64 _) (TX.im (own_nil T64 _) ?_)
  exact rca (cs:=[.bool false,nS,nS]) (vs:=[.bool false,nS,nS]) (T:=TRt) ⟨rfl,rfl⟩
 rw [h1,if_pos rfl]
 have hD:=drawn_tr tv t kn nn hz h1 h2
 have hLp:=itemS_pos hsz
 have hLb:=itemS_le hsz
 have hO0:=oneS_pos hsz
 have hO1:=oneS_lt hsz (by omega) hl
 have hS:=fun v hv ss hs a b=>Sum_tr v hv ss hs (itemS t kn) (oneS t kn) nn (kn:Int) 39 (fun _=>true) a b hLp hLb hO0 hO1 (by omega) (fun v l hl hi=>(all_trm (kn:Int) v).pre (fun _ h=>nomatch h) (by repeat (first | exact has00 | refine has01 ?_)))
 clear hLb hO0 hO1 h1 h2 hLp
 generalize sumW (fun _=>true) (itemS t kn) (oneS t kn) nn = sw at *
 generalize itemS t kn = L at *
 generalize oneS t kn = D1 at *
 obtain ⟨⟨s1,s2,s3⟩,e⟩:=sw
 unfold FW at hS ⊢
 dsimp only at hS ⊢
 unfold itmC at hD
 have hll:(L.map fun s:List Int × Nat=>s.1).length = L.length:=List.length_map ..
 have hfl:(fracs L D1).length = L.length:=List.length_map ..
 refine Tr.enter env _ Tryz.func20 (by kernel_rfl) rfl Tryz.ntmps20 rfl (by repeat (first | exact has00 | refine has01 ?_)) fun w0=>?_
 repeat' first|(refine gca ?_;first|(refine ca hD ?_;rintro _ _ ⟨v,ss,hs,rfl,hv,hss,hhs,rfl⟩)|(refine ca (hS v hv ss hs hss hhs) ?_ (hp:=has1 (has_oww memA) (has1 (has_owl (e:=TLI) (by rw [hll];exact hss) memA) (has1 (has_ofr (by rw [hfl];exact hhs) memA) has0)));rintro _ _ ⟨vn,vd,rfl,hvn,hvd,rfl⟩))|refine al fun c=>?_|refine srz ?_|(refine wo ?_;first|(refine ao ?_;first|refine oa ?_)|refine oa ?_)|(refine gc ?_;first|refine cf ?_)|refine sq ?_|refine rg ?_|refine xc ?_|refine nl ?_|refine sk ?_|refine rt ?_
 exact rca (cs:=[.bool s1,vn,vd]) (vs:=[.bool s1,vn,vd]) (T:=TRt) ⟨vn,vd,rfl,hvn,hvd,rfl⟩
end Go.Art
namespace Go.Art
open Go Go.Proofs Go.RowKit
def unkS (ls:List (List Int)) (U:List Int):List Int:=U.filter fun s=>!(ls.any fun l=>l.contains s && l.all fun x=>x == s || !U.contains x)
def unkC (ls:List (List Int)):Nat→List Int→List Int
 | 0,U=>U
 | n + 1,U=>unkC ls n (unkS ls U)
theorem unkC_fix {ls:List (List Int)} {U:List Int} (h:unkS ls U = U):∀ n,unkC ls n U = U
 | 0=>rfl
 | n + 1=>by unfold unkC;rw [h];exact unkC_fix h n
theorem unkC_stable {ls:List (List Int)}:∀ (n:Nat) (U:List Int),U.length ≤ n→unkS ls (unkC ls n U) = unkC ls n U
 | 0,U,h=>by
  obtain rfl:U = []:=List.length_eq_zero_iff.1 (by omega)
  rfl
 | n + 1,U,h=>by
  unfold unkC
  by_cases e:unkS ls U = U
  ·rw [e,unkC_fix e,e]
  ·refine unkC_stable n _ ?_
   have h1:(unkS ls U).length ≤ U.length:=List.length_filter_le _ _
   have h2:(unkS ls U).length ≠ U.length:=fun h3=>e (List.filter_eq_self.2 (List.length_filter_eq_length_iff.1 h3))
   omega
theorem unkC_inv {ls:List (List Int)} {P:List Int→Prop} (hs:∀ U,P U→P (unkS ls U)):∀ n U,P U→P (unkC ls n U)
 | 0,U,h=>h
 | n + 1,U,h=>unkC_inv hs n _ (hs U h)
theorem unkC_large {k:Int} {ls:List (List Int)} (hE:stopE k ls = 0):largeL k ls = (belowI k).filter fun s=>(unkC ls k.toNat (belowI k)).contains s:=by
 obtain ⟨k1,k2,hset⟩:=stopE_zero hE
 have hst:=unkC_stable (ls:=ls) k.toNat (belowI k) (by rw [belowI_len];omega)
 have hsound:=unkC_inv (ls:=ls) (P:=fun U=>∀ s,0 ≤ s→s < k→s ∉ U→Kn ls s) (fun U hU s h0 h1 hs=>by
  by_cases hm:s ∈ U
  ·have h2:¬ (!(ls.any fun l=>l.contains s && l.all fun x=>x == s || !U.contains x)) = true:=fun h3=>hs (List.mem_filter.2 ⟨hm,h3⟩)
   simp only [Bool.not_eq_true',Bool.not_eq_false] at h2
   obtain ⟨l,hl,h3⟩:=List.any_eq_true.1 h2
   simp only [Bool.and_eq_true,List.contains_iff_mem,List.all_eq_true,Bool.or_eq_true,beq_iff_eq,Bool.not_eq_true'] at h3
   refine Kn.mk l s hl h3.1 fun x hx hne=>?_
   have hx2:=(isSet_iff.1 (hset l hl)).2.2 x hx
   rcases h3.2 x hx with h4 | h4
   ·exact absurd h4 hne
   ·refine hU x hx2.1 hx2.2 fun h5=>?_
    have:U.contains x = true:=List.contains_iff_mem.2 h5
    rw [h4] at this;cases this
  ·exact hU s h0 h1 hm) k.toNat (belowI k) (fun s h0 h1 hs=>absurd (mem_belowI.2 ⟨h0,h1⟩) hs)
 generalize unkC ls k.toNat (belowI k) = U at *
 have hc:∀ l ∈ ls,cnt (fun s=>U.contains s) l ≠ 1:=fun l hl h=>by
  obtain ⟨s,hs,hp,hx⟩:=cnt_one h
  have hm:s ∈ U:=List.contains_iff_mem.1 hp
  rw [← hst] at hm
  have h2:=(List.mem_filter.1 hm).2
  rw [show (ls.any fun l=>l.contains s && l.all fun x=>x == s || !U.contains x) = true from List.any_eq_true.2 ⟨l,hl,by
   simp only [Bool.and_eq_true,List.contains_iff_mem,List.all_eq_true,Bool.or_eq_true,beq_iff_eq,Bool.not_eq_true']
   refine ⟨hs,fun x hxl=>?_⟩
   by_cases hq:U.contains x = true
   ·exact .inl (hx x hxl hq)
   ·exact .inr (by simpa using hq)⟩] at h2
  cases h2
 refine (known_of (k:=k) (ls:=ls) (fun s=>U.contains s) fun s h0 h1=>⟨fun h hk=>?_,fun h=>?_⟩).2
 ·have:=Kn.not (p:=fun s=>U.contains s) (fun l hl=>isSet_nodup (hset l hl)) hc hk
  rw [h] at this;cases this
 ·cases hq:U.contains s with
  | true=>rfl
  | false=>exact absurd (hsound s h0 h1 fun hm=>by have:=List.contains_iff_mem.2 hm;rw [hq] at this;cases this) h
def failC (k:Int) (ls:List (List Int)):Bool:=decide (stopE k ls = 0) && !((belowI k).filter fun s=>(unkC ls k.toNat (belowI k)).contains s).isEmpty
theorem failW_eq (k:Int) (ls:List (List Int)):failW k ls = failC k ls:=by
 unfold failW failC largeR
 by_cases h:stopE k ls = 0
 ·rw [if_pos h,unkC_large h,decide_eq_true h,Bool.true_and]
  cases (belowI k).filter fun s=>(unkC ls k.toNat (belowI k)).contains s <;> rfl
 ·rw [if_neg h,decide_eq_false h];rfl
theorem failW_fun (k:Int):failW k = failC k:=funext fun ls=>failW_eq k ls
theorem massW_ok {W:List (List Int)→Bool} {t:List Int} {k n:Int} {q:Rat} (h1:refE t k n = 0) (h2:(setsW t k).2 = 0) (h3:(itemS t k.toNat).length ≤ 4096∧(itemS t k.toNat).length ^ n.toNat ≤ 4096) (h4:mkRat ((natG W (itemS t k.toNat) n.toNat [] 1:Nat):Int) (oneS t k.toNat ^ n.toNat) = q):massW W t k n = (rqf q,0):=by
 unfold massW sumW
 rw [if_pos h1,if_pos h2,if_pos h3,h4]
theorem mass1:massW (failW 2) [1,1] 2 2 = (rqf (mkRat 3 8),0):=by
 rw [failW_fun]
 exact massW_ok (by decide) (by decide) (by decide) (by decide)
end Go.Art
set_option maxRecDepth 4000
namespace Go.Art
open Go Go.Proofs Go.RowKit
attribute [local irreducible] Fit pt own ro vw mpc lpt vels rels mow lrc dfr
attribute [local irreducible] lmp lme mit
abbrev Bs (l:List Bool):List Value:=l.map .bool
section
variable {P:Program} {E:Env P} {n:Sh} {X:Cx} {s:List K} {fr:Fr} {A A':List Ch} {ops:Array Oper} {rest:List Oper} {d:Nat} {ty t el:TypeId} {pos:String} {after:Array Edge} {v z:Value} {x y:Operand} {by_:Nat}
end
def unk (kb:List Bool) (l:List Int):List Int:=l.filter fun x=>!kb.getD x.toNat false
def lastL (kb:List Bool) (l:List Int):Int:=match unk kb l with
 | [x]=>x
 | _=>-1
def falses (kb:List Bool):Nat:=kb.countP (fun b=>!b)
structure ClI (k:Int) (ls:List (List Int)) (kb:List Bool):Prop where
 len:kb.length = k.toNat
 kn:∀ x,0 ≤ x→x < k→kb.getD x.toNat false = true→Kn ls x
structure ClG where
 i:Nat
 kb:List Bool
 more:Bool
end Go.Art
namespace Go.Art
open Go Go.Proofs Go.RowKit
structure RuG2 where
 r:Nat
 o:Value
attribute [local irreducible] Fit pt own ro vw mpc lpt vels rels mow lrc dfr
attribute [local irreducible] lmp lme mit velg relg bnd owl
end Go.Art
namespace Go.Art
open Go Go.Proofs Go.RowKit
abbrev wts (L:List (List Int × Nat)):List (List Int):=L.map fun s=>Zs (dg s.2)
structure MsG where
 i:Nat
 o:Value
attribute [local irreducible] Fit pt own ro vw mpc lpt vels rels mow lrc dfr
attribute [local irreducible] lmp lme mit velg relg bnd owl natG
end Go.Art
namespace Go.Art
open Go Go.Proofs Go.RowKit
structure CoG where
 i:Nat
 ov:Value
 hs:List Value
 ls:List (List Int)
structure CiG where
 q:Nat
 hs:List Value
 ls:List (List Int)
structure CwG where
 i:Nat
 v:Value
attribute [local irreducible] Fit pt own ro vw mpc lpt vels rels mow lrc dfr
attribute [local irreducible] lmp lme mit velg relg bnd owl natG setP szL solE risR
end Go.Art
namespace Go.Art
open Go
theorem sum_at {f g:Nat→Int} {a:Nat}:∀ {n:Nat},a < n→(∀ c,c < n→c ≠ a→f c = g c)→((List.range n).map f).sum = ((List.range n).map g).sum + (f a - g a)
 | 0,h,_=>absurd h (Nat.not_lt_zero _)
 | n + 1,h,hh=>by
  simp only [List.range_succ,List.map_append,List.sum_append,List.map_cons,List.map_nil,List.sum_cons,List.sum_nil]
  by_cases e:a = n
  ·subst e
   rw [show (List.range a).map f = (List.range a).map g from List.map_congr_left fun c hc=>hh c (by have:=List.mem_range.1 hc;omega) (by have:=List.mem_range.1 hc;omega)]
   omega
  ·have:=sum_at (f:=f) (g:=g) (a:=a) (n:=n) (by omega) fun c hc hca=>hh c (by omega) hca
   have:=hh n (by omega) (fun k=>e k.symm)
   omega
theorem sum_at2 {f g:Nat→Int} {a b n:Nat} (ha:a < n) (hb:b < n) (hab:a ≠ b) (h:∀ c,c < n→c ≠ a→c ≠ b→f c = g c):((List.range n).map f).sum = ((List.range n).map g).sum + (f a - g a) + (f b - g b):=by
 rw [sum_at (f:=f) (g:=fun c=>if c = a then g c else f c) ha (fun c _ hca=>by rw [if_neg hca])]
 rw [sum_at (f:=fun c=>if c = a then g c else f c) (g:=g) hb (fun c hc hcb=>by
  by_cases e:c = a
  ·rw [if_pos e]
  ·rw [if_neg e];exact h c hc e hcb)]
 rw [if_pos rfl,if_neg (fun k=>hab k.symm)]
 omega
theorem sum_single {n j:Nat} (h:j < n) (x:Int):((List.range n).map fun c=>if c = j then x else 0).sum = x:=by
 have:=sum_at (f:=fun c=>if c = j then x else 0) (g:=fun _=>0) h (fun c _ hc=>if_neg hc)
 have z:((List.range n).map fun _=>(0:Int)).sum = 0:=by
  clear this h
  induction n with
  | zero=>rfl
  | succ n ih=>rw [List.range_succ,List.map_append,List.sum_append,ih];rfl
 rw [this,z,if_pos rfl];omega
def shw (all:Int) (u:AlS) (c j:Nat):Int:=
 if (c:Int) ∈ u.B ++ u.A then (if c = j then u.rest.getD c 0 else 0) else ((if c = j then u.cut.getD c 0 else 0) + (if u.oth.getD c 0 = j then all - u.cut.getD c 0 else 0))
structure AlM (t:List Int) (all:Int) (u:AlS):Prop where
 op:∀ c:Nat,c < t.length→(c:Int) ∈ u.B ++ u.A→u.cut.getD c 0 = all∧u.oth.getD c 0 = c
 mass:∀ j:Nat,j < t.length→((List.range t.length).map fun c=>shw all u c j).sum = t.getD j 0 * t.length
theorem alIn_rest (t:List Int) (all:Int):∀ n,n ≤ t.length→(alIn t all n).rest.length = t.length∧(∀ c,c < n→(alIn t all n).rest.getD c 0 = t.getD c 0 * t.length∧((c:Int) ∈ (alIn t all n).B ++ (alIn t all n).A ↔ t.getD c 0 * t.length ≠ all))∧(∀ x ∈ (alIn t all n).B ++ (alIn t all n).A,0 ≤ x∧x < n)
 | 0,_=>⟨by simp [alIn],fun c h=>absurd h (Nat.not_lt_zero _),fun x h=>by simp [alIn] at h⟩
 | n + 1,h=>by
  obtain ⟨h0,h1,h2⟩:=alIn_rest t all n (by omega)
  have hm:∀ x,x ∈ (alIn t all (n + 1)).B ++ (alIn t all (n + 1)).A ↔ (x ∈ (alIn t all n).B ++ (alIn t all n).A∨(x = (n:Int)∧t.getD n 0 * t.length ≠ all)):=fun x=>by
   show x ∈ (if t.getD n 0 * t.length < all then srt ((n:Int) :: (alIn t all n).B) else (alIn t all n).B) ++ (if t.getD n 0 * t.length < all then (alIn t all n).A else if t.getD n 0 * t.length > all then srt ((n:Int) :: (alIn t all n).A) else (alIn t all n).A) ↔ _
   by_cases c1:t.getD n 0 * t.length < all
   ·rw [if_pos c1,if_pos c1,List.mem_append,(srt_perm _).mem_iff,List.mem_cons,List.mem_append]
    constructor
    ·rintro ((e | e) | e)
     ·exact .inr ⟨e,by omega⟩
     ·exact .inl (.inl e)
     ·exact .inl (.inr e)
    ·rintro ((e | e) | ⟨e,_⟩)
     ·exact .inl (.inr e)
     ·exact .inr e
     ·exact .inl (.inl e)
   ·rw [if_neg c1,if_neg c1]
    by_cases c2:t.getD n 0 * t.length > all
    ·rw [if_pos c2,List.mem_append,(srt_perm _).mem_iff,List.mem_cons,List.mem_append]
     constructor
     ·rintro (e | e | e)
      ·exact .inl (.inl e)
      ·exact .inr ⟨e,by omega⟩
      ·exact .inl (.inr e)
     ·rintro ((e | e) | ⟨e,_⟩)
      ·exact .inl e
      ·exact .inr (.inr e)
      ·exact .inr (.inl e)
    ·rw [if_neg c2]
     exact ⟨.inl,fun e=>e.resolve_right fun k=>k.2 (by omega)⟩
  refine ⟨by show ((alIn t all n).rest.set n _).length = _;rw [List.length_set];exact h0,fun c hc=>?_,fun x hx=>?_⟩
  ·have hr:(alIn t all (n + 1)).rest.getD c 0 = if n = c then t.getD n 0 * t.length else (alIn t all n).rest.getD c 0:=getD_set _ _ _ _ (by omega)
   rw [hr,hm]
   by_cases e:n = c
   ·subst e
    rw [if_pos rfl]
    refine ⟨rfl,fun k=>?_,fun k=>.inr ⟨rfl,k⟩⟩
    rcases k with k | k
    ·have:=(h2 _ k).2;omega
    ·exact k.2
   ·rw [if_neg e]
    obtain ⟨g1,g2⟩:=h1 c (by omega)
    refine ⟨g1,fun k=>?_,fun k=>.inl (g2.2 k)⟩
    rcases k with k | k
    ·exact g2.1 k
    ·omega
  ·rcases (hm x).1 hx with k | k
   ·have:=h2 x k;omega
   ·omega
theorem AlM.start {t:List Int} (hw:∀ w ∈ t,0 ≤ w∧w ≤ 16777215) (hl:t.length ≤ 65536) (ha:0 < t.sum):AlM t t.sum (alIn t t.sum t.length):=by
 have hJ:=AlJ.all hw hl ha t.length (Nat.le_refl _)
 obtain ⟨h0,h1,h2⟩:=alIn_rest t t.sum t.length (Nat.le_refl _)
 refine ⟨fun c hc _=>⟨hJ.cut c hc,hJ.oth c hc⟩,fun j hj=>?_⟩
 rw [← sum_single hj (t.getD j 0 * t.length)]
 refine congrArg List.sum (List.map_congr_left fun c hc=>?_)
 have hc:=List.mem_range.1 hc
 obtain ⟨g1,g2⟩:=h1 c hc
 unfold shw
 by_cases e:(c:Int) ∈ (alIn t t.sum t.length).B ++ (alIn t t.sum t.length).A
 ·rw [if_pos e]
  by_cases k:c = j
  ·rw [if_pos k,if_pos k,← k];exact g1
  ·rw [if_neg k,if_neg k]
 ·rw [if_neg e,hJ.cut c hc,hJ.oth c hc]
  have:t.getD c 0 * t.length = t.sum:=Classical.byContradiction fun k=>e (g2.2 k)
  by_cases k:c = j
  ·rw [if_pos k,if_pos k,if_pos (by omega),← k];omega
  ·rw [if_neg k,if_neg k,if_neg (by omega)];omega
theorem AlM.step {t:List Int} {all:Int} {u:AlS} {i j:Int} {B A:List Int} (hI:AlI t all u) (h:AlM t all u) (hB:u.B = i :: B) (hA:u.A = j :: A):AlM t all (alStep all u i j B A):=by
 have hbi:=hI.B i (by rw [hB];simp)
 have haj:=hI.A j (by rw [hA];simp)
 have hnd:=hI.nd
 rw [hB,hA] at hnd
 obtain ⟨n1,n2,n3⟩:=List.nodup_append.1 hnd
 obtain ⟨hiB,nB⟩:=List.nodup_cons.1 n1
 obtain ⟨hjA,nA⟩:=List.nodup_cons.1 n2
 have hij:i ≠ j:=n3 i (by simp) j (by simp)
 have hiA:i ∉ A:=fun hm=>n3 i (by simp) i (by simp [hm]) rfl
 have hjB:j ∉ B:=fun hm=>n3 j (by simp [hm]) j (by simp) rfl
 have hlr:=hI.lr
 have hlc:=hI.lc
 have hlo:=hI.lo
 obtain ⟨⟨i0,i1⟩,i2,i3⟩:=hbi
 obtain ⟨⟨j0,j1⟩,j2,j3,j4⟩:=haj
 obtain ⟨a,rfl⟩ : ∃ a:Nat,i = a:=⟨i.toNat,by omega⟩
 obtain ⟨b,rfl⟩ : ∃ b:Nat,j = b:=⟨j.toNat,by omega⟩
 rw [Int.toNat_natCast] at i2 i3 j2 j3
 have hab:a ≠ b:=fun e=>hij (by rw [e])
 have ha:a < t.length:=by omega
 have hb:b < t.length:=by omega
 obtain ⟨oa1,oa2⟩:=h.op a ha (by rw [hB];simp)
 obtain ⟨ob1,ob2⟩:=h.op b hb (by rw [hA];simp)
 obtain ⟨ri,hri⟩ : ∃ ri,ri = u.rest.getD a 0:=⟨_,rfl⟩
 obtain ⟨r,hr⟩ : ∃ r,r = u.rest.getD b 0 - (all - ri):=⟨_,rfl⟩
 have hS:alStep all u a b B A = ⟨u.rest.set b r,u.cut.set a ri,u.oth.set a b,if r > all then B else if r < all then srt ((b:Int) :: B) else B,if r > all then (b:Int) :: A else A⟩:=by
  rw [hr,hri]
  rfl
 have hmem:∀ c:Nat,(c:Int) ∈ (alStep all u a b B A).B ++ (alStep all u a b B A).A ↔ (((c:Int) ∈ u.B ++ u.A∧c ≠ a∧c ≠ b)∨(c = b∧r ≠ all)):=fun c=>by
  rw [hS]
  have hcB:(c:Int) ∈ B→c ≠ a∧c ≠ b:=fun k=>⟨fun e=>hiB (by rw [← e];exact k),fun e=>hjB (by rw [← e];exact k)⟩
  have hcA:(c:Int) ∈ A→c ≠ a∧c ≠ b:=fun k=>⟨fun e=>hiA (by rw [← e];exact k),fun e=>hjA (by rw [← e];exact k)⟩
  have hu:(c:Int) ∈ u.B ++ u.A ↔ (c = a∨(c:Int) ∈ B)∨(c = b∨(c:Int) ∈ A):=by
   rw [hB,hA,List.mem_append,List.mem_cons,List.mem_cons]
   constructor
   ·rintro ((e | e) | (e | e))
    ·exact .inl (.inl (by omega))
    ·exact .inl (.inr e)
    ·exact .inr (.inl (by omega))
    ·exact .inr (.inr e)
   ·rintro ((e | e) | (e | e))
    ·exact .inl (.inl (by rw [e]))
    ·exact .inl (.inr e)
    ·exact .inr (.inl (by rw [e]))
    ·exact .inr (.inr e)
  rw [hu]
  show (c:Int) ∈ (if r > all then B else if r < all then srt ((b:Int) :: B) else B) ++ (if r > all then (b:Int) :: A else A) ↔ _
  by_cases c1:r > all
  ·rw [if_pos c1,if_pos c1,List.mem_append,List.mem_cons]
   constructor
   ·rintro (e | e | e)
    ·exact .inl ⟨.inl (.inr e),hcB e⟩
    ·exact .inr ⟨by omega,by omega⟩
    ·exact .inl ⟨.inr (.inr e),hcA e⟩
   ·rintro (⟨(e | e) | (e | e),k1,k2⟩ | ⟨e,_⟩)
    ·exact absurd e k1
    ·exact .inl e
    ·exact absurd e k2
    ·exact .inr (.inr e)
    ·exact .inr (.inl (by rw [e]))
  ·rw [if_neg c1,if_neg c1]
   by_cases c2:r < all
   ·rw [if_pos c2,List.mem_append,(srt_perm _).mem_iff,List.mem_cons]
    constructor
    ·rintro ((e | e) | e)
     ·exact .inr ⟨by omega,by omega⟩
     ·exact .inl ⟨.inl (.inr e),hcB e⟩
     ·exact .inl ⟨.inr (.inr e),hcA e⟩
    ·rintro (⟨(e | e) | (e | e),k1,k2⟩ | ⟨e,_⟩)
     ·exact absurd e k1
     ·exact .inl (.inr e)
     ·exact absurd e k2
     ·exact .inr e
     ·exact .inl (.inl (by rw [e]))
   ·rw [if_neg c2,List.mem_append]
    constructor
    ·rintro (e | e)
     ·exact .inl ⟨.inl (.inr e),hcB e⟩
     ·exact .inl ⟨.inr (.inr e),hcA e⟩
    ·rintro (⟨(e | e) | (e | e),k1,k2⟩ | ⟨_,e⟩)
     ·exact absurd e k1
     ·exact .inl e
     ·exact absurd e k2
     ·exact .inr e
     ·omega
 have hc1:∀ c:Nat,(alStep all u a b B A).cut.getD c 0 = if a = c then ri else u.cut.getD c 0:=fun c=>by rw [hS];exact getD_set _ _ _ _ (by omega)
 have hc2:∀ c:Nat,(alStep all u a b B A).oth.getD c 0 = if a = c then (b:Int) else u.oth.getD c 0:=fun c=>by rw [hS];exact getD_set _ _ _ _ (by omega)
 have hc3:∀ c:Nat,(alStep all u a b B A).rest.getD c 0 = if b = c then r else u.rest.getD c 0:=fun c=>by rw [hS];exact getD_set _ _ _ _ (by omega)
 refine ⟨fun c hc hm=>?_,fun J hJ=>?_⟩
 ·rw [hc1,hc2]
  rcases (hmem c).1 hm with ⟨k1,k2,k3⟩ | ⟨k1,k2⟩
  ·rw [if_neg (fun e=>k2 e.symm),if_neg (fun e=>k2 e.symm)];exact h.op c hc k1
  ·subst k1
   rw [if_neg hab,if_neg hab];exact ⟨ob1,ob2⟩
 ·rw [sum_at2 (f:=fun c=>shw all (alStep all u a b B A) c J) (g:=fun c=>shw all u c J) ha hb hab (fun c hc k1 k2=>?_),h.mass J hJ]
  ·have e1:shw all (alStep all u a b B A) a J = (if a = J then ri else 0) + (if (b:Int) = J then all - ri else 0):=by
    unfold shw
    rw [if_neg (fun k=>by rcases (hmem a).1 k with k | k;exact k.2.1 rfl;exact hab k.1),hc1,hc2,if_pos rfl,if_pos rfl]
   have e2:shw all u a J = if a = J then ri else 0:=by
    unfold shw
    rw [if_pos (by rw [hB];simp),hri]
   have e3:shw all u b J = if b = J then u.rest.getD b 0 else 0:=by
    unfold shw
    rw [if_pos (by rw [hA];simp)]
   have e4:shw all (alStep all u a b B A) b J = if b = J then r else 0:=by
    unfold shw
    by_cases k:r = all
    ·rw [if_neg (fun q=>by rcases (hmem b).1 q with q | q;exact q.2.2 rfl;exact q.2 k),hc1,hc2,if_neg hab,if_neg hab,ob1,ob2]
     by_cases q:b = J
     ·rw [if_pos q,if_pos q,if_pos (by omega)];omega
     ·rw [if_neg q,if_neg q,if_neg (by omega)];omega
    ·rw [if_pos ((hmem b).2 (.inr ⟨rfl,k⟩)),hc3,if_pos rfl]
   rw [e1,e2,e3,e4]
   by_cases q:b = J
   ·rw [if_pos q,if_pos q,if_pos (show (b:Int) = J by omega)];omega
   ·rw [if_neg q,if_neg q,if_neg (show ¬ (b:Int) = J by omega)];omega
  ·show shw all (alStep all u a b B A) c J = shw all u c J
   have q1:=(hc1 c).trans (if_neg (fun e=>k1 e.symm))
   have q2:=(hc2 c).trans (if_neg (fun e=>k1 e.symm))
   have q3:=(hc3 c).trans (if_neg (fun e=>k2 e.symm))
   unfold shw
   rw [q1,q2,q3]
   by_cases q:(c:Int) ∈ u.B ++ u.A
   ·rw [if_pos q,if_pos ((hmem c).2 (.inl ⟨q,k1,k2⟩))]
   ·rw [if_neg q,if_neg (fun p=>by rcases (hmem c).1 p with p | p;exact q p.1;exact k2 p.1)]
theorem AlM.end {t:List Int} {all:Int} (ha:0 < all∧all ≤ 1099511627776) (m:Nat):∀ u,alMu u ≤ m→AlI t all u→AlM t all u→AlM t all (alEnd all u):=by
 induction m with
 | zero=>
  intro u hm h k
  have hB:u.B = []:=List.eq_nil_of_length_eq_zero (by unfold alMu at hm;omega)
  rw [alEnd_stop hB];exact k
 | succ m ih=>
  intro u hm h k
  cases hB:u.B with
  | nil=>rw [alEnd_stop hB];exact k
  | cons i B=>
   cases hA:u.A with
   | nil=>exact absurd hA (h.more (by rw [hB];simp))
   | cons j A=>
    rw [alEnd_step hB hA]
    have:=alStep_mu (all:=all) hB hA
    exact ih _ (by omega) (h.step ha hB hA) (AlM.step h k hB hA)
theorem alF_share {t:List Int} (hw:∀ w ∈ t,0 ≤ w∧w ≤ 16777215) (hl:1 ≤ t.length∧t.length ≤ 65536) (ha:0 < t.sum) (J:Nat) (hJ:J < t.length) :
  ((List.range t.length).map fun c=>(if c = J then (alF t).cut.getD c 0 else 0) + (if (alF t).oth.getD c 0 = J then t.sum - (alF t).cut.getD c 0 else 0)).sum = t.getD J 0 * t.length∧∀ c,c < t.length→0 ≤ (alF t).cut.getD c 0∧(alF t).cut.getD c 0 ≤ t.sum:=by
 have hs:=sum_bound hw
 have hall:0 < t.sum∧t.sum ≤ 1099511627776:=by omega
 have hI0:=(AlJ.all hw hl.2 ha t.length (Nat.le_refl _)).done ha
 obtain ⟨hI,hB⟩:=AlI.end hall _ _ (Nat.le_refl _) hI0
 have hM:=AlM.end hall _ _ (Nat.le_refl _) hI0 (AlM.start hw hl.2 ha)
 change AlI t t.sum (alF t) at hI
 change AlM t t.sum (alF t) at hM
 change (alF t).B = [] at hB
 have hA:(alF t).A = []:=Classical.byContradiction fun k=>by
  have h1:=sum_pos (l:=(alF t).A) (f:=fun j=>(alF t).rest.getD j.toNat 0 - t.sum) (fun j hj=>by have:=(hI.A j hj).2.1;omega) k
  have h2:=hI.sum
  rw [hB] at h2
  simp only [List.map_nil,List.sum_nil] at h2
  omega
 refine ⟨?_,hI.cut⟩
 rw [← hM.mass J hJ]
 refine congrArg List.sum (List.map_congr_left fun c hc=>?_)
 unfold shw
 exact (if_neg (show ¬ (c:Int) ∈ (alF t).B ++ (alF t).A by rw [hA,hB];simp)).symm
open Go Go.Proofs Go.RowKit
theorem fall_le (n:Nat):∀ d,fall n d ≤ n ^ d
 | 0=>by simp [fall]
 | d + 1=>by
  rw [show fall n (d + 1) = fall n d * (n - d) from rfl,Nat.pow_succ]
  exact Nat.mul_le_mul (fall_le n d) (Nat.sub_le _ _)
theorem fall_split (n d:Nat):∀ e,fall n (d + e) = fall n d * fall (n - d) e
 | 0=>by simp [fall]
 | e + 1=>by
  rw [show d + (e + 1) = (d + e) + 1 by omega,show fall n (d + e + 1) = fall n (d + e) * (n - (d + e)) from rfl,fall_split n d e,show fall (n - d) (e + 1) = fall (n - d) e * (n - d - e) from rfl,Nat.mul_assoc,show n - (d + e) = n - d - e by omega]
def rowS (k:Nat) (l:List Int):List Int:=srt (ordF 0 (upto k) (l.drop 2))
def oneR (t:List Int) (k:Nat):Nat:=fall k k * t.length * t.sum.toNat
def wR (k:Nat) (l:List Int):Nat:=fall (k - (l.length - 2)) (k - (l.length - 2))
abbrev rowsA (t:List Int) (k:Nat):List (List Int):=allL t.sum (alF t).cut (alF t).oth k
def itemR (t:List Int) (k:Nat):List (List Int × Nat):=(rowsA t k).map fun l=>(rowS k l,wR k l)
theorem itemR_len (t:List Int) (k:Nat):(itemR t k).length = (rowsA t k).length:=by simp [itemR]
theorem alias_ok {t:List Int} {k:Nat} (hz:solE t k = 0):rwE t.sum (alF t).cut (alF t).oth k = 0∧(alF t).cut.length = t.length∧0 < t.sum:=by
 obtain ⟨z1,z2,z3,z4⟩:=solE_zero hz
 have hp:=sum_posT z3 z4
 obtain ⟨h1,h2,_⟩:=alF_ok z3 (by omega) hp
 refine ⟨?_,h2,hp⟩
 unfold rwE
 rw [if_pos h1,if_neg (by omega)]
theorem oneR_pos {t:List Int} {k:Nat} (hz:solE t k = 0):oneR t k ≠ 0:=by
 obtain ⟨_,h2,h3⟩:=alias_ok hz
 obtain ⟨z1,z2,_⟩:=solE_zero hz
 exact Nat.mul_ne_zero (Nat.mul_ne_zero (fall_pos (Nat.le_refl k)) (by omega)) (by omega)
theorem oneR_lt {t:List Int} {k:Nat} (hz:solE t k = 0) (hk:k ≤ 40) (hl:t.length ≤ 12):oneR t k < 18446744073709551616 ^ 10:=by
 obtain ⟨z1,z2,z3,z4⟩:=solE_zero hz
 have h1:=(sum_wOk z3).2
 have h2:t.sum.toNat ≤ 268435456:=by
  have:(16777215:Int) * t.length ≤ 16777215 * 12:=by omega
  omega
 have h3:=fall_le k k
 have h4:k ^ k ≤ 40 ^ 40:=Nat.le_trans (Nat.pow_le_pow_left hk k) (Nat.pow_le_pow_right (by decide) hk)
 have h5:oneR t k ≤ 40 ^ 40 * 12 * 268435456:=Nat.mul_le_mul (Nat.mul_le_mul (Nat.le_trans h3 h4) hl) h2
 exact Nat.lt_of_le_of_lt h5 (by decide)
theorem row_item {t:List Int} {k:Nat} {l:List Int} (hz:solE t k = 0) (h:l ∈ rowsA t k):setW t.sum (alF t).cut (alF t).oth k (.inr (l,false)) = ((rowS k l,0),(.inr ([],false),(l.length:Int)))∧((rowS k l).length + 2 = l.length∧1 ≤ (rowS k l).length∧(rowS k l).length ≤ t.length) ∧
  meaW t.sum (alF t).cut (alF t).oth k (rowS k l).length = (rqf (mkRat ((wR k l:Nat):Int) (oneR t k)),0)∧wR k l ≤ oneR t k∧l.length ≤ 65538:=by
 obtain ⟨hr,h2,hs⟩:=alias_ok hz
 obtain ⟨c,x,js,hc,hx,hj,rfl⟩:=allL_row h
 obtain ⟨hE,k1,k2,k3⟩:=rwE_ok hr
 have hb:=alE_bnd hE
 have hin:=alPick_in hE (c:=c) (l:=x) (by omega)
 have hjl:=endsL_mem _ _ _ _ hj
 simp only [List.length_nil,Nat.zero_add] at hjl
 have hsl:(rowS k ((c:Int) :: (x:Int) :: js)).length = js.length:=by unfold rowS;rw [(srt_perm _).length_eq,ordF_len];rfl
 have hd:js.length ≤ t.length:=by omega
 have hd1:1 ≤ js.length:=by omega
 have hw:wR k ((c:Int) :: (x:Int) :: js) = fall (k - js.length) (k - js.length):=rfl
 have hsp:fall k k = fall k js.length * fall (k - js.length) (k - js.length):=by rw [← fall_split,show js.length + (k - js.length) = k by omega]
 have hone:1 ≤ fall k js.length:=fall_one (by omega)
 refine ⟨?_,⟨?_,by omega,by omega⟩,?_,?_,?_⟩
 ·rw [setW_row hr hc hx hj]
  refine Prod.ext rfl (Prod.ext rfl ?_)
  simp only [List.length_cons]
  omega
 ·rw [hsl];simp only [List.length_cons]
 ·rw [hsl,meaW_ok (d:=(js.length:Int)) hr (by omega),Int.toNat_natCast,Int.toNat_natCast,hw]
  have hm:=mk_scale 1 (fall k js.length * (alF t).cut.length * t.sum.toNat) (fall (k - js.length) (k - js.length)) (Nat.mul_ne_zero (Nat.mul_ne_zero (by omega) (by omega)) (by omega)) (fall_pos (Nat.le_refl _))
  rw [Nat.one_mul] at hm
  rw [show (1:Int) = ((1:Nat):Int) from rfl,hm]
  congr 2
  unfold oneR
  rw [hsp,h2]
  congr 1
  grind
 ·rw [hw]
  unfold oneR
  rw [hsp]
  have h3:fall (k - js.length) (k - js.length) ≤ fall k js.length * fall (k - js.length) (k - js.length):=Nat.le_mul_of_pos_left _ (by omega)
  refine Nat.le_trans h3 ?_
  rw [Nat.mul_assoc]
  exact Nat.le_mul_of_pos_right _ (Nat.mul_pos (by omega) (by omega))
 ·simp only [List.length_cons];omega
theorem itemR_le {t:List Int} {k:Nat} (hz:solE t k = 0):∀ s ∈ itemR t k,s.2 ≤ oneR t k:=fun s h=>by
 obtain ⟨l,hl,rfl⟩:=List.mem_map.1 h
 exact (row_item hz hl).2.2.2.1
theorem itemR_pos {t:List Int} {k:Nat} (hz:solE t k = 0):0 < (itemR t k).length:=by
 obtain ⟨hr,h2,hs⟩:=alias_ok hz
 obtain ⟨hE,k1,k2,k3⟩:=rwE_ok hr
 rw [itemR_len]
 have:=allL_ge hE (k:=k) (by omega)
 have h1:0 < (alF t).cut.length * t.sum.toNat:=Nat.mul_pos (by have:=alE_bnd hE;omega) (by omega)
 unfold rowsA
 omega
def massD (W:List (List Int)→Bool) (t:List Int) (k n:Int):Fr3 × Int:=
 if refE t k n = 0 then (if (itemR t k.toNat).length ≤ 4096 then sumW W (itemR t k.toNat) (oneR t k.toNat) n.toNat else (rqn,4)) else (rqn,refE t k n)
structure DwG where
 i:Nat
 v:Value
 ss:List Value
 hs:List (Value × Value)
attribute [local irreducible] Fit pt own ro vw mpc lpt vels rels mow lrc dfr
attribute [local irreducible] lmp lme mit velg relg bnd owl setP szL solE risR chaW oneS wS
theorem MDrawn_tr (tv:Value) (t:List Int) (k n:Int) (hl:t.length ≤ 12) (hk:k ≤ 40∨65536 < k) (hn:n ≤ 12∨4096 < n):Tr Tryz.prog 26 [tv,I k,I n] [vw tv (Is t)] [] (FW (massD (failW k) t k n)):=by
 unfold massD
 have hR:=mrefuses_tr tv t k n
 by_cases hz:refE t k n = 0
 rotate_left
 ·rw [if_neg hz]
  refine Tr.mono (R:=fun u D=>u = tup2 rv0 (I (refE t k n))∧D = [own T64 nS (Us []),own T64 nS (Us [])]) ?_ fun u D h=>FW.of0 h
  generalize refE t k n = e at *
  refine Tr.enter env _ Tryz.func26 (by kernel_rfl) rfl Tryz.ntmps26 rfl (by repeat (first | exact has00 | refine has01 ?_)) fun w0=>?_
  repeat' first|(refine gca ?_;first|(refine ca hR ?_;rintro _ _ ⟨rfl,rfl⟩))|refine al fun c=>?_|refine bdz ?_|refine srz ?_|(refine wo ?_;first|(refine ao ?_;first|refine oa ?_)|refine oa ?_)|(refine gc ?_;first|(refine cn (fun hB=>?_) (fun hB=>?_) <;> try (exfalso;omega)))|refine sq ?_|refine rg ?_|refine xc ?_|refine nl ?_|refine rt ?_
  refine TX.im (own_nil T64 _) (TX.im (own_nil T64 _) ?_)
  exact rca (cs:=[.bool false,nS,nS]) (vs:=[.bool false,nS,nS]) (T:=TRt) ⟨rfl,rfl⟩
 rw [if_pos hz]
 rw [hz] at hR
 obtain ⟨hsz,hn0,hn1⟩:=refE_zero hz
 obtain ⟨z1,z2,z3,z4⟩:=solE_zero hsz
 obtain ⟨kn,rfl⟩ : ∃ kn:Nat,k = kn:=⟨k.toNat,by omega⟩
 obtain ⟨nn,rfl⟩ : ∃ nn:Nat,n = nn:=⟨n.toNat,by omega⟩
 rw [Int.toNat_natCast,Int.toNat_natCast]
 obtain ⟨g1,g2,g3⟩:=alias_ok hsz
 have hM:=fun s=>Make_tr s t (by omega) z3 g3
 have hRo:=fun c o hc ho=>Rows_tr t.sum kn c o (alF t).cut (alF t).oth hc ho
 have hlen:=itemR_len t kn
 have hit:=fun l (h:l ∈ rowsA t kn)=>row_item hsz h
 have hSet:=fun c o hc ho b r sv l=>SetW_tr t.sum kn c o (alF t).cut (alF t).oth b r sv (.inr (l,false)) (okL_row l false) hc ho
 have hMea:=fun c o hc ho (d:Nat)=>MeaW_tr t.sum kn d c o (alF t).cut (alF t).oth hc ho
 have hLp:=itemR_pos hsz
 have hLb:=itemR_le hsz
 have hO0:=oneR_pos hsz
 have hO1:=oneR_lt hsz (by omega) hl
 have hsum:=fun v hv ss hs a b (hN:(itemR t kn).length ≤ 4096)=>Sum_tr v hv ss hs (itemR t kn) (oneR t kn) nn (kn:Int) 40 (failW kn) a b hLp hLb hO0 hO1 (by omega) (fun v l hl hi=>fails_trm (kn:Int) v (l.map fun i=>ss.getD i nS) (selS (itemR t kn) l) (by unfold selS;rw [List.length_map];omega))
 clear hLp hLb hO0 hO1 z4 z3 hsz hz
 have hrw:rowsW t.sum (alF t).cut (alF t).oth kn = if 4096 < (rowsA t kn).length then ([],4) else (rowsA t kn,0):=by unfold rowsW;rw [if_pos g1,Int.toNat_natCast]
 rw [hrw] at hRo
 have hLe:itemR t kn = (rowsA t kn).map fun l=>(rowS kn l,wR kn l):=rfl
 clear hrw
 generalize oneR t kn = D1 at *
 generalize rowsA t kn = rows at *
 generalize t.sum = tot at *
 generalize (alF t).cut = cut at *
 generalize (alF t).oth = oth at *
 obtain ⟨L,hLL⟩ : ∃ L,L = itemR t kn:=⟨_,rfl⟩
 rw [← hLL] at hLe hsum hlen ⊢
 clear hLL
 by_cases hbig:4096 < rows.length
 ·rw [if_pos hbig] at hRo
  rw [if_neg (by omega)]
  refine Tr.mono (R:=fun u D=>u = tup2 rv0 (I 4)∧D = [own T64 nS (Us []),own T64 nS (Us [])]) ?_ fun u D h=>FW.of0 h
  clear hit hsum hSet hMea
  refine Tr.enter env _ Tryz.func26 (by kernel_rfl) rfl Tryz.ntmps26 rfl (by repeat (first | exact has00 | refine has01 ?_)) fun w0=>?_
  repeat' first|(refine gca ?_;first|(refine ca hR ?_;rintro _ _ ⟨rfl,rfl⟩)|(refine ca (hM _) ?_;rintro _ _ ⟨cv,ov,rfl,rfl,hcv,hov⟩)|(refine ca (hRo cv ov hcv hov) ?_;rintro _ _ ⟨rv1,hs,rfl,hrv,hlr,rfl⟩))|refine al fun c=>?_|refine bdz ?_|refine srz ?_|refine lda ?_|(refine wo ?_;first|(refine ao ?_;first|refine oa ?_)|refine oa ?_)|(refine gc ?_;first|refine ct ?_|refine cf ?_)|refine sq ?_|refine rg ?_|refine xc ?_|refine nl ?_|refine sk ?_|refine rt ?_
  refine TX.im (own_nil T64 _) (TX.im (own_nil T64 _) ?_)
  exact rca (cs:=[.bool false,nS,nS]) (vs:=[.bool false,nS,nS]) (T:=TRt) ⟨rfl,rfl⟩
 rw [if_neg hbig] at hRo
 rw [if_pos (by omega)]
 have hsum2:=fun v hv ss hs a b=>hsum v hv ss hs a b (by omega)
 clear hsum
 generalize sumW (failW kn) L D1 nn = sw at *
 obtain ⟨⟨s1,s2,s3⟩,e⟩:=sw
 unfold FW at hsum2 ⊢
 dsimp only at hsum2 ⊢
 have hll:(L.map fun s:List Int × Nat=>s.1).length = L.length:=List.length_map ..
 have hfl:(fracs L D1).length = L.length:=List.length_map ..
 have hls:L.map (·.1) = rows.map (rowS kn):=by rw [hLe,List.map_map];rfl
 have hfr:∀ i,i < rows.length→(fracs L D1).getD i 0 = mkRat ((wR kn (rows.getD i []):Nat):Int) D1:=fun i h=>by
  rw [fracs_get (by omega),hLe]
  simp [List.getD_eq_getElem?_getD,h]
 refine Tr.enter env _ Tryz.func26 (by kernel_rfl) rfl Tryz.ntmps26 rfl (by repeat (first | exact has00 | refine has01 ?_)) fun w0=>?_
 repeat' first|(refine gca ?_;first|(refine ca hR ?_;rintro _ _ ⟨rfl,rfl⟩)|(refine ca (hM _) ?_;rintro _ _ ⟨cv,ov,rfl,rfl,hcv,hov⟩)|(refine ca (hRo cv ov hcv hov) ?_;rintro _ _ ⟨rv1,ks,rfl,hrv,hlr,rfl⟩))|refine al fun c=>?_|refine bdz ?_|refine srz ?_|refine lda ?_|(refine wo ?_;first|(refine ao ?_;first|refine oa ?_)|refine oa ?_|refine ln ?_)|(refine gc ?_;first|refine cf ?_)|refine sq ?_|refine rg ?_|refine xc ?_|refine nl ?_|refine sk ?_|refine bk ?_
 rename_i c6
 dsimp only at hlr ⊢
 refine TC.im (oww_nil TIm 4 _) (TC.im (owl_nil (e:=T64) (g:=wU) _) (TC.im (owl_nil (e:=TLI) (g:=I) _) ?_))
 refine TC.loop (ι:=DwG) (fun g=>[(45,I g.i),(13,g.v)]) (fun g=>[oww TIm 4 g.v g.i (ics g.ss ((fracs L D1).take g.i) g.hs),ofr g.hs ((fracs L D1).take g.i),owl TLI I g.ss ((L.map (·.1)).take g.i)]) (fun g=>g.i ≤ L.length∧g.v.oneCell' = true∧g.hs.length = g.i∧g.ss.length = g.i) (fun g=>L.length - g.i) ⟨0,nS,[],[]⟩ [0,1,2,6,9,43,44] ⟨Nat.zero_le _,rfl,rfl,rfl⟩ ?_
 rintro ⟨i,v,ss,hs⟩ ⟨hi,hv,hl1,hl2⟩
 dsimp only at hi hv hl1 hl2 ⊢
 by_cases hlt:i < L.length
 ·have hmem:rows.getD i [] ∈ rows:=by rw [List.getD_eq_getElem?_getD,List.getElem?_eq_getElem (by omega)];exact List.getElem_mem (by omega)
  obtain ⟨p1,p2,p3,p4,p5⟩:=hit _ hmem
  have hg1:ks[i]? = some (ks.getD i nS):=by rw [List.getD_eq_getElem?_getD,List.getElem?_eq_getElem (by omega)];rfl
  have hH:∀ F,owl TLI I ks rows ∈ F→Has F (vw (ks.getD i nS) (Is (rows.getD i []))):=fun F h=>has_elg (g:=I) (hs:=ks) (ls:=rows) (has_owl (e:=TLI) hlr h) (by omega)
  have hS1:=fun b r sv=>hSet cv ov hcv hov b r sv (rows.getD i [])
  have hM1:=hMea cv ov hcv hov (rowS kn (rows.getD i [])).length
  rw [p1] at hS1
  rw [p3,← hfr i (by omega)] at hM1
  have hst:(L.map (·.1)).take (i + 1) = (L.map (·.1)).take i ++ [rowS kn (rows.getD i [])]:=by
   rw [take_succ' (show i < (L.map fun s:List Int × Nat=>s.1).length by omega) [],hls]
   congr 2
   simp [List.getD_eq_getElem?_getD,show i < rows.length by omega]
  have hqt:=take_succ' (show i < (fracs L D1).length by omega) 0
  have hqtl:((fracs L D1).take i).length = i:=by rw [List.length_take];omega
  have hltl:((L.map (·.1)).take i).length = i:=by rw [List.length_take,hll];omega
  have hra:=fun s1 vn vd=>ics_app (ss:=ss) (rs:=[s1]) (qs:=(fracs L D1).take i) (ps:=[(fracs L D1).getD i 0]) (hs:=hs) (gs:=[(vn,vd)]) (by rw [hqtl];exact hl2) (by rw [hqtl];exact hl1)
  simp only [← hqt,ics_one] at hra
  unfold FW at hM1
  dsimp only at hM1 hS1
  clear hit hSet hMea hfr hsum2 p1 p3
  generalize rowS kn (rows.getD i []) = S at *
  generalize hrow:rows.getD i [] = row at *
  generalize (fracs L D1).getD i 0 = q at *
  repeat' first|refine le (xs:=ks) ?_ (hj:=hg1)|(refine wo ?_;first|(refine ao ?_;first|refine oa ?_)|refine oa ?_|refine ixn ?_)|(refine gc ?_;first|(refine ci (fun hB=>?_) (fun hB=>?_) <;> try (exfalso;omega)))|refine sq ?_|refine rg ?_|refine xc ?_|refine nl ?_|refine sk ?_|refine bk ?_
  refine rs (fun w=>w.heap[c]? = some (.cells [I tot,cv,ov].toArray TAl (0,0))) ?_ (fun w hw=>pt_at (b:=c) (cs:=[I tot,cv,ov]) (T:=TAl) memA hw)
  refine tk 0 (v:=.agg #[I tot,cv,ov]) (fun w h=>R_loadA (E:=env) (vs:=[I tot,cv,ov]) rfl rfl rfl rfl h rfl rfl) ?_
  refine tka 1 ?_
  refine tka 2 ?_
  refine t1 3 ?_
  refine ca (LRow_tr (ks.getD i nS) row (by omega)) ?_ (hp:=has1 (hH _ memA) has0)
  rintro _ _ ⟨b,r,sv,rfl,rfl⟩
  refine nl ?_
  refine te (fun w hw=>pt_at (b:=c) (cs:=[I tot,cv,ov]) (T:=TAl) memA hw) ?_
  refine t1 4 ?_
  refine ca (hS1 b r sv) ?_
  rintro _ _ ⟨so,sv2,rfl,rfl⟩
  refine TO.one (v:=so) (xs:=Is S) fun hso=>?_
  refine nl ?_
  refine te (fun w hw=>pt_at (b:=c) (cs:=[I tot,cv,ov]) (T:=TAl) memA hw) ?_
  refine tka 5 ?_
  refine tka 6 ?_
  refine tka 7 ?_
  refine tka 8 ?_
  refine tka 9 ?_
  refine t0 ?_
  skip
  repeat' first|(refine gca ?_;first|(refine ca hM1 ?_;rintro _ _ ⟨mn,md,rfl,hmn,hmd,rfl⟩))|(refine lnm (l:=S) ?_)|refine al fun c18=>?_|refine srz ?_|refine lda ?_|refine bdm ?_|refine slws (sz:=4) (xs:=irow so q (mn,md)) (fun g2=>?_)|refine apw (sz:=4) (M:=1) (N:=i) (xs:=ics ss ((fracs L D1).take i) hs) (ys:=irow so q (mn,md)) (by decide) rfl (one_cons hso (one_cons rfl (one_cons hmn (one_cons hmd one_nil)))) (fun o2 ho2=>?_) (hu:=has_oww memA)|(refine wo ?_;first|(refine ao ?_;first|refine aw ?_)|refine oa ?_)|refine sq ?_|refine rg ?_|refine xc ?_|refine nl ?_|refine xb ?_
  refine TX.im (ofr_snoc (qs:=(fracs L D1).take i) (by rw [hqtl];exact hl1) q mn md fitA) ?_
  refine TX.im (owl_push (hs:=ss) (ls:=(L.map (·.1)).take i) (v:=so) (l:=S) (by rw [hltl];exact hl2) fitA) ?_
  rw [← hqt,← hst]
  exact lp ⟨i + 1,o2,ss ++ [so],hs ++ [(mn,md)]⟩ ⟨hlt,ho2,by simp [hl1],by simp [hl2]⟩ (hf:=by dsimp only;rw [hra];exact fitA)
 ·obtain rfl:i = L.length:=by omega
  rw [List.take_of_length_le (show (L.map fun s:List Int × Nat=>s.1).length ≤ L.length by omega),List.take_of_length_le (show (fracs L D1).length ≤ L.length by omega)]
  repeat' first|(refine gca ?_;first|(refine ca (hsum2 v hv ss hs hl2 hl1) ?_ (hp:=has1 (has_oww memA) (has1 (has_owl (e:=TLI) (by rw [hll];exact hl2) memA) (has1 (has_ofr (by rw [hfl];exact hl1) memA) has0)));rintro _ _ ⟨vn,vd,rfl,hvn,hvd,rfl⟩))|refine srz ?_|(refine wo ?_;first|(refine ao ?_;first|refine oa ?_)|refine oa ?_)|(refine gc ?_;first|(refine ci (fun hB=>?_) (fun hB=>?_) <;> try (exfalso;omega)))|refine sq ?_|refine rg ?_|refine xc ?_|refine nl ?_|refine xe ?_|refine rt ?_
  exact rca (cs:=[.bool s1,vn,vd]) (vs:=[.bool s1,vn,vd]) (T:=TRt) ⟨vn,vd,rfl,hvn,hvd,rfl⟩
end Go.Art
namespace Go.Art
open Go
structure RaI (t:List Int) (all:Int) (u:AlS) (dn:List Bool):Prop where
 ld:dn.length = t.length
 dr:∀ c:Nat,c < t.length→dn.getD c false = true→u.rest.getD c 0 < all
 B:∀ c:Nat,c < t.length→((c:Int) ∈ u.B ↔ dn.getD c false = false∧u.rest.getD c 0 < all)
 A:∀ c:Nat,c < t.length→((c:Int) ∈ u.A ↔ all < u.rest.getD c 0)
 sB:u.B.Pairwise (· ≤ ·)
 sA:u.A.Pairwise (· ≤ ·)
end Go.Art
