/- Texts put together: Vl Rr Zj Vn Rc Vo Vp Vq. Conditions: none. -/
import Derived.Test.YtadfljaebfbccaaGreatWDh
set_option linter.unusedSimpArgs false
set_option linter.unusedVariables false
namespace Go.Art
open Go Go.Proofs Go.RowKit
theorem owl_pushF {hs:List Value} {ls:List (List Int)} {A F:List Ch} (hl:hs.length = ls.length) (v:Value) (m:List Nat) (hf:Fit A [own T64 v (Us m),owl T64 wU hs ls] F):Im A (owl T64 wU (hs ++ [v]) (ls ++ [Zs m]) :: F):=by
 refine Im.trans hf ?_
 rw [Us_eq]
 exact owl_snoc hl v (Zs m) F
theorem R_lenI {P:Program} {E:Env P} {n:Sh} {fr:Fr} {w:World} {t ty e:TypeId} {x:Operand} {v:Value} {l:List Int} (ht:lk E.und t = some (.slice e)) (hx:ev fr x = some v) (hS:Sl w v (Is l)):OpV P n fr (.call ⟨.builtin .len,#[x],#[t]⟩) ty w (I l.length) w:=by
 have:=R_len (P:=P) (n:=n) (ty:=ty) ht hx hS;rwa [Is_len] at this
theorem itemR_get {t:List Int} {k i:Nat} (h:i < (rowsA t k).length):(itemR t k).getD i ([],0) = (rowS k ((rowsA t k).getD i []),wR k ((rowsA t k).getD i [])):=by
 unfold itemR
 simp [List.getD_eq_getElem?_getD,h]
structure RvG where
 i:Nat
 v1:Value
 v2:Value
 ss:List Value
 gs:List Value
attribute [local irreducible] Fit pt own ro vw mpc lpt vels rels mow lrc dfr
attribute [local irreducible] lmp lme mit velg relg bnd owl natG setP szL solE risR
set_option maxHeartbeats 2000000 in
theorem RDrawn23_tr (tv:Value) (t:List Int) (k n:Int) (W:List (List Int)→Bool) (hW:∀ b,W b = (false || failW k b)) (hl:t.length ≤ 12) (hk:k ≤ 40∨65536 < k) (hn:n ≤ 12∨4096 < n) :
  Tr Tryz.prog 27 [tv,I k,I n] [vw tv (Is t)] [] (FW (massD W t k n)):=by
 have hC:=RSoCheck_tr tv t k
 unfold massD refE
 by_cases hsz:solE t k = 0
 rotate_left
 ·rw [if_neg hsz,if_neg (by decide)]
  rw [solE_13 hsz] at hC
  refine Tr.mono (R:=fun u D=>u = tup2 rv0 (I 13)∧D = [own T64 nS (Us []),own T64 nS (Us [])]) ?_ fun u D h=>FW.of0 h
  refine Tr.enter env _ Tryz.func27 (by kernel_rfl) rfl Tryz.ntmps27 rfl (by repeat (first | exact has00 | refine has01 ?_)) fun w0=>?_
  repeat' first|(refine gca ?_;first|(refine ca hC ?_;rintro _ _ ⟨rfl,rfl⟩))|refine al fun c=>?_|refine bdz ?_|refine srz ?_|(refine wo ?_;first|(refine ao ?_;first|refine oa ?_)|refine oa ?_)|(refine gc ?_;first|refine ct ?_)|refine sq ?_|refine rg ?_|refine xc ?_|refine nl ?_|refine rt ?_
  refine TX.im (own_nil T64 _) (TX.im (own_nil T64 _) ?_)
  exact rca (cs:=[.bool false,nS,nS]) (vs:=[.bool false,nS,nS]) (T:=TRt) ⟨rfl,rfl⟩
 rw [if_pos hsz]
 rw [hsz] at hC
 by_cases hnr:n < 0∨4096 < n
 ·rw [if_pos hnr,if_neg (by decide)]
  clear hsz
  refine Tr.mono (R:=fun u D=>u = tup2 rv0 (I 3)∧D = [own T64 nS (Us []),own T64 nS (Us [])]) ?_ fun u D h=>FW.of0 h
  refine Tr.enter env _ Tryz.func27 (by kernel_rfl) rfl Tryz.ntmps27 rfl (by repeat (first | exact has00 | refine has01 ?_)) fun w0=>?_
  repeat' first|(refine gca ?_;first|(refine ca hC ?_;rintro _ _ ⟨rfl,rfl⟩))|refine al fun c=>?_|refine bdz ?_|refine srz ?_|(refine wo ?_;first|(refine ao ?_;first|refine oa ?_)|refine oa ?_|refine gy ?_|refine gn ?_|(refine gsi (fun hB=>?_) (fun hB=>?_) <;> try (exfalso;omega)))|(refine gc ?_;first|refine ct ?_|refine cf ?_|(refine ci (fun hB=>?_) (fun hB=>?_) <;> try (exfalso;omega)))|refine sq ?_|refine rg ?_|refine xc ?_|refine nl ?_|refine sk ?_|refine rt ?_
  all_goals refine TX.im (own_nil T64 _) (TX.im (own_nil T64 _) ?_)
  all_goals exact rca (cs:=[.bool false,nS,nS]) (vs:=[.bool false,nS,nS]) (T:=TRt) ⟨rfl,rfl⟩
 rw [if_neg hnr,if_pos rfl]
 have hany:=(show t.any wPos = true by
  have hz2:=hsz
  unfold solE at hz2
  split at hz2
  ·cases hz2
  ·split at hz2
   ·rename_i h2;exact ((Bool.and_eq_true _ _).mp h2).2
   ·cases hz2)
 obtain ⟨z1,z2,z3,z4⟩:=solE_zero hsz
 obtain ⟨kn,rfl⟩ : ∃ kn:Nat,k = kn:=⟨k.toNat,by omega⟩
 obtain ⟨nn,rfl⟩ : ∃ nn:Nat,n = nn:=⟨n.toNat,by omega⟩
 rw [Int.toNat_natCast,Int.toNat_natCast]
 obtain ⟨g1,g2,g3⟩:=alias_ok hsz
 have hM:=fun s=>RMake_tr s t (by omega) z3 g3 hany
 have hRo:=fun c o hc ho=>RRows_tr t.sum kn c o (alF t).cut (alF t).oth hc ho
 have hlen:=itemR_len t kn
 have hit:=fun l (h:l ∈ rowsA t kn)=>row_item hsz h
 have hSet:=fun c o hc ho b sv l=>RSetW_tr t.sum kn c o (alF t).cut (alF t).oth b sv (.inr (l,false)) hc ho
 have hL0:=itemR_pos hsz
 have hLb:=itemR_le hsz
 have hO0:=oneR_pos hsz
 have hO1:=oneR_lt hsz (by omega) hl
 have hige:=@itemR_get t kn
 have hrw:rowsW t.sum (alF t).cut (alF t).oth kn = if 4096 < (rowsA t kn).length then ([],4) else (rowsA t kn,0):=by unfold rowsW;rw [if_pos g1,Int.toNat_natCast]
 rw [hrw] at hRo
 clear hrw
 by_cases hbig:4096 < (rowsA t kn).length
 ·rw [if_pos hbig] at hRo
  rw [if_neg (by omega)]
  refine Tr.mono (R:=fun u D=>u = tup2 rv0 (I 4)∧D = [own T64 nS (Us []),own T64 nS (Us [])]) ?_ fun u D h=>FW.of0 h
  clear hit hSet hO0 hO1 hLb hige hsz z3 z4
  generalize (alF t).cut = cut at *
  generalize (alF t).oth = oth at *
  generalize t.sum = tot at *
  refine Tr.enter env _ Tryz.func27 (by kernel_rfl) rfl Tryz.ntmps27 rfl (by repeat (first | exact has00 | refine has01 ?_)) fun w0=>?_
  repeat' first|(refine gca ?_;first|(refine ca hC ?_;rintro _ _ ⟨rfl,rfl⟩)|(refine ca (hM _) ?_;rintro _ _ ⟨cv,ov,rfl,rfl,hcv,hov⟩)|(refine ca (hRo cv ov hcv hov) ?_;rintro _ _ ⟨rv1,hs,rfl,hrv,hlr,rfl⟩))|refine al fun c=>?_|refine bdz ?_|refine srz ?_|refine lda ?_|(refine wo ?_;first|(refine ao ?_;first|refine oa ?_)|refine oa ?_|refine gy ?_|refine gn ?_)|(refine gc ?_;first|refine ct ?_|refine cf ?_|(refine ci (fun hB=>?_) (fun hB=>?_) <;> try (exfalso;omega)))|refine sq ?_|refine rg ?_|refine xc ?_|refine nl ?_|refine sk ?_|refine rt ?_
  refine TX.im (own_nil T64 _) (TX.im (own_nil T64 _) ?_)
  exact rca (cs:=[.bool false,nS,nS]) (vs:=[.bool false,nS,nS]) (T:=TRt) ⟨rfl,rfl⟩
 rw [if_neg hbig] at hRo
 rw [if_pos (show (itemR t kn).length ≤ 4096 by omega)]
 have hT:=tuples23_tr (itemR t kn).length nn ⟨hL0,by omega⟩ (by omega)
 unfold sumW
 by_cases htup:(itemR t kn).length ^ nn ≤ 4096
 rotate_left
 ·rw [if_neg fun h=>htup h.2]
  refine Tr.mono (R:=fun u D=>u = tup2 rv0 (I 4)∧D = [own T64 nS (Us []),own T64 nS (Us [])]) ?_ fun u D h=>FW.of0 h
  rw [hlen] at hT htup
  clear hit hSet hO0 hO1 hLb hige hsz z3 z4 g1
  generalize hMM:(rowsA t kn).length ^ nn = M at *
  clear hMM
  generalize rowsA t kn = rows at *
  generalize (alF t).cut = cut at *
  generalize (alF t).oth = oth at *
  generalize t.sum = tot at *
  refine Tr.enter env _ Tryz.func27 (by kernel_rfl) rfl Tryz.ntmps27 rfl (by repeat (first | exact has00 | refine has01 ?_)) fun w0=>?_
  repeat' first|(refine gca ?_;first|(refine ca hC ?_;rintro _ _ ⟨rfl,rfl⟩)|(refine ca (hM _) ?_;rintro _ _ ⟨cv,ov,rfl,rfl,hcv,hov⟩)|(refine ca (hRo cv ov hcv hov) ?_;rintro _ _ ⟨rv1,ks,rfl,hrv,hlr,rfl⟩;dsimp only at hlr;rw [← hlr] at hT)|(refine ca hT ?_;rintro _ _ ⟨⟨b,rfl,hb⟩,rfl⟩;obtain rfl:b = false:=by cases b;rfl;exact absurd (hb.1 rfl) htup))|refine al fun c=>?_|refine bdz ?_|refine srz ?_|refine lda ?_|(refine wo ?_;first|(refine ao ?_;first|refine oa ?_)|refine oa ?_|refine ln ?_|refine gy ?_)|(refine gc ?_;first|refine ct ?_|refine cf ?_|(refine ci (fun hB=>?_) (fun hB=>?_) <;> try (exfalso;omega)))|refine sq ?_|refine rg ?_|refine xc ?_|refine nl ?_|refine sk ?_|refine rt ?_
  refine TX.im (own_nil T64 _) (TX.im (own_nil T64 _) ?_)
  exact rca (cs:=[.bool false,nS,nS]) (vs:=[.bool false,nS,nS]) (T:=TRt) ⟨rfl,rfl⟩
 rw [if_pos ⟨by omega,htup⟩]
 have hsb:=sum_wOk z3
 obtain ⟨T,hTT⟩ : ∃ T:Nat,t.sum = T:=⟨t.sum.toNat,by omega⟩
 have hTb:T ≤ 268435456:=by
  have:(16777215:Int) * t.length ≤ 16777215 * 12:=by omega
  omega
 have hOf1:=ROf_tr 1 (by decide)
 have hFk:=RFalling_tr kn kn (by omega) (Nat.le_refl _)
 have hFd:=fun d=>RFalling_tr (kn - d) (kn - d) (by omega) (Nat.le_refl _)
 unfold eNat at hFk hFd
 have hfl:=fall_len (n:=kn) (by omega) kn
 have hG1:=fun o=>RGrow_tr o (dg (fall kn kn)) t.length (Dg_dg _) (by omega) (by omega)
 have hG2:=fun o=>RGrow_tr o (dg (fall kn kn * t.length)) T (Dg_dg _) (by omega) (by have:=dg_mul_len hfl (dg_len1 (n:=t.length) (by omega));omega)
 have hOne:fall kn kn * t.length * T = oneR t kn:=by unfold oneR;rw [hTT,Int.toNat_natCast]
 simp only [nv_dg,hOne] at hG1 hG2
 have hMass:=fun sv wv ss gs o1 a b hm=>masses23_tr false kn W hW sv wv ss gs (itemR t kn) (oneR t kn) a b (by omega) hO1 hLb nn nS o1 [] [] 1 rfl (by simp;omega) (by have:=dg_len1 (n:=1) (by decide);omega) hm
 have hnl:(dg (natG W (itemR t kn) nn [] 1)).length ≤ 262144:=Nat.le_trans (dg_natG hLb (by omega) hO1 nn 1 [] 1 (dg_len1 (by decide))) (by omega)
 have hOv:=fun mv ov=>over23_tr mv ov (natG W (itemR t kn) nn [] 1) (oneR t kn) nn (by omega) hO0 ((dg_len _ _).2 hO1) hnl
 unfold FQ2 at hOv
 unfold FW
 dsimp only
 have hil:(itemR t kn).length ≤ 4096:=by omega
 have hfd:=fun d=>fall_len (n:=kn - d) (by omega) (kn - d)
 clear hL0 hLb hO0 hO1 hnl hsb z3 z4 hW hOne hfl hsz
 rw [hlen] at hT htup
 obtain ⟨M,hMM⟩ : ∃ M,M = (rowsA t kn).length ^ nn:=⟨_,rfl⟩
 rw [← hMM] at hT htup
 clear hMM
 obtain ⟨q,hq⟩ : ∃ q,q = mkRat ((natG W (itemR t kn) nn [] 1:Nat):Int) (oneR t kn ^ nn):=⟨_,rfl⟩
 rw [← hq]
 simp only [← hq] at hOv
 clear hq
 generalize dg (natG W (itemR t kn) nn [] 1) = dn at *
 generalize dg (oneR t kn) = do1 at *
 obtain ⟨L,hLL⟩ : ∃ L,L = itemR t kn:=⟨_,rfl⟩
 simp only [← hLL] at hige hMass hlen hil
 clear hLL
 rw [hTT] at hM hRo hSet
 simp only [hTT] at hit
 generalize rowsA t kn = rows at *
 generalize (alF t).cut = cut at *
 generalize (alF t).oth = oth at *
 generalize dg (fall kn kn * t.length) = df1 at *
 generalize dg (fall kn kn) = df0 at *
 clear hTT g1 g2 g3
 refine Tr.enter env _ Tryz.func27 (by kernel_rfl) rfl Tryz.ntmps27 rfl (by repeat (first | exact has00 | refine has01 ?_)) fun w0=>?_
 refine TC.leni (v:=tv) (l:=t) fun htl=>?_
 repeat' first|(refine gca ?_;first|(refine ca hC ?_;rintro _ _ ⟨rfl,rfl⟩)|(refine ca (hM _) ?_;rintro _ _ ⟨cv,ov,rfl,rfl,hcv,hov⟩)|(refine ca (hRo cv ov hcv hov) ?_;rintro _ _ ⟨rv1,ks,rfl,hrv,hlr,rfl⟩;dsimp only at hlr;rw [← hlr] at hT)|(refine ca hT ?_;rintro _ _ ⟨⟨b,rfl,hb⟩,rfl⟩;obtain rfl:b = true:=hb.2 htup)|(refine ca hFk ?_;rintro _ _ ⟨o0,rfl,ho0,rfl⟩))|refine al fun c=>?_|refine bdz ?_|refine srz ?_|refine lda ?_|(refine wo ?_;first|(refine ao ?_;first|refine oa ?_)|refine oa ?_|refine ln ?_|refine gy ?_)|(refine gc ?_;first|refine cf ?_|(refine ci (fun hB=>?_) (fun hB=>?_) <;> try (exfalso;omega)))|refine sq ?_|refine rg ?_|refine xc ?_|refine nl ?_|refine sk ?_
 rename_i c6
 refine rs (fun w=>w.heap[c]? = some (.cells [I T,cv,ov].toArray TAl (0,0))∧Sl w tv (Is t)) ?_ (fun w hw=>⟨pt_at (b:=c) (cs:=[I T,cv,ov]) (T:=TAl) memA hw,has_sl (xs:=Is t) hw hasA⟩)
 refine tka 0 ?_
 refine tka 1 ?_
 refine tk 2 (v:=I t.length) (fun w h=>R_lenI (E:=env) rfl rfl h.2) ?_
 refine tk 3 (v:=Un t.length) (fun _ _=>R_ntuk (E:=env) rfl rfl rfl (by omega)) ?_
 refine tka 5 ?_
 refine tkl 6 (cs:=[I T,cv,ov]) (fun w h=>h.1) ?_
 refine tk 7 (v:=Un T) (fun _ _=>R_ntuk (E:=env) rfl rfl rfl (by omega)) ?_
 refine t1 4 ?_
 refine ca (hG1 o0) ?_
 rintro o1 _ ⟨ho1,rfl⟩
 refine nl ?_
 refine te (fun w hw=>⟨pt_at (b:=c) (cs:=[I T,cv,ov]) (T:=TAl) memA hw,has_sl (xs:=Is t) hw hasA⟩) ?_
 refine t1 8 ?_
 refine ca (hG2 o1) ?_
 rintro o2 _ ⟨ho2,rfl⟩
 refine nl ?_
 refine te (fun w hw=>⟨pt_at (b:=c) (cs:=[I T,cv,ov]) (T:=TAl) memA hw,has_sl (xs:=Is t) hw hasA⟩) ?_
 refine tka 9 ?_
 refine t0 ?_
 skip
 dsimp only
 clear hT hM hC hRo hG1 hG2 hFk
 have hfst:∀ i,i < rows.length→(L.map (·.1)).getD i [] = rowS kn (rows.getD i []):=fun i h=>by rw [fst_get (by omega),hige h]
 have hsnd:∀ i,i < rows.length→(wts L).getD i [] = Zs (dg (wR kn (rows.getD i []))):=fun i h=>by rw [wts_get (by omega),hige h]
 have hll:(L.map fun s:List Int × Nat=>s.1).length = L.length:=List.length_map ..
 have hwll:(wts L).length = L.length:=List.length_map ..
 repeat' first|(refine wo ?_;first|refine oa ?_)|refine sq ?_|refine rg ?_|refine xc ?_|refine nl ?_|refine bk ?_
 refine TC.im (own_nil TLs _) (TC.im (owl_nil (e:=TLI) (g:=I) _) (TC.im (own_nil TN _) (TC.im (owl_nil (e:=T64) (g:=wU) _) ?_)))
 refine TC.loop (ι:=RvG) (fun g=>[(16,I g.i),(14,g.v1),(15,g.v2)]) (fun g=>[own TLs g.v1 g.ss,owl TLI I g.ss ((L.map (·.1)).take g.i),own TN g.v2 g.gs,owl T64 wU g.gs ((wts L).take g.i)]) (fun g=>g.i ≤ L.length∧g.v1.oneCell' = true∧g.v2.oneCell' = true∧g.ss.length = g.i∧g.gs.length = g.i) (fun g=>L.length - g.i) ⟨0,nS,nS,[],[]⟩ [0,1,2,6,8,10,12] ⟨Nat.zero_le _,rfl,rfl,rfl,rfl⟩ ?_
 rintro ⟨i,v1,v2,ss,gs⟩ ⟨hi,hv1,hv2,hl1,hl2⟩
 dsimp only at hi hv1 hv2 hl1 hl2 ⊢
 by_cases hlt:i < L.length
 ·have hmem:rows.getD i [] ∈ rows:=by rw [List.getD_eq_getElem?_getD,List.getElem?_eq_getElem (by omega)];exact List.getElem_mem (by omega)
  obtain ⟨p1,p2,_,_,p5⟩:=hit _ hmem
  have hg1:ks[i]? = some (ks.getD i nS):=by rw [List.getD_eq_getElem?_getD,List.getElem?_eq_getElem (by omega)];rfl
  have hH:∀ F,owl TLI I ks rows ∈ F→Has F (vw (ks.getD i nS) (Is (rows.getD i []))):=fun F h=>has_elg (g:=I) (hs:=ks) (ls:=rows) (has_owl (e:=TLI) hlr h) (by omega)
  have hS1:=fun b sv=>hSet cv ov hcv hov b sv (rows.getD i [])
  rw [p1] at hS1
  have hst:(L.map (·.1)).take (i + 1) = (L.map (·.1)).take i ++ [rowS kn (rows.getD i [])]:=by
   rw [take_succ' (show i < (L.map fun s:List Int × Nat=>s.1).length by omega) [],hfst i (by omega)]
  have hwt:(wts L).take (i + 1) = (wts L).take i ++ [Zs (dg (wR kn (rows.getD i [])))]:=by
   rw [take_succ' (show i < (wts L).length by omega) [],hsnd i (by omega)]
  have hltl:((L.map (·.1)).take i).length = i:=by rw [List.length_take,hll];omega
  have hwtl:((wts L).take i).length = i:=by rw [List.length_take,hwll];omega
  have hF1:=hFd (rowS kn (rows.getD i [])).length
  have hwR:wR kn (rows.getD i []) = fall (kn - (rowS kn (rows.getD i [])).length) (kn - (rowS kn (rows.getD i [])).length):=by unfold wR;rw [show (rows.getD i []).length - 2 = (rowS kn (rows.getD i [])).length by omega]
  rw [← hwR] at hF1
  dsimp only at hS1
  clear hit hSet hfst hsnd hMass hOv hFd hfd hwR p1 hige
  generalize rowS kn (rows.getD i []) = S at *
  generalize dg (wR kn (rows.getD i [])) = wd at *
  generalize hrow:rows.getD i [] = row at *
  repeat' first|(refine wo ?_;first|(refine ao ?_;first|refine oa ?_)|refine oa ?_|refine ln ?_)|(refine gc ?_;first|(refine ci (fun hB=>?_) (fun hB=>?_) <;> try (exfalso;omega)))|refine sq ?_|refine rg ?_|refine xc ?_|refine nl ?_|refine sk ?_|refine bk ?_
  refine rs (fun w=>w.heap[c]? = some (.cells [I T,cv,ov].toArray TAl (0,0))∧Sl w rv1 ks) ?_ (fun w hw=>⟨pt_at (b:=c) (cs:=[I T,cv,ov]) (T:=TAl) memA hw,has_sl (xs:=ks) hw hasA⟩)
  refine tk 0 (v:=.agg #[I T,cv,ov]) (fun w h=>R_loadA (E:=env) (vs:=[I T,cv,ov]) rfl rfl rfl rfl h.1 rfl rfl) ?_
  refine tka 1 ?_
  refine tka 2 ?_
  refine tka 3 ?_
  refine tk 4 (v:=.pointer (some (addrAt rv1 i))) (fun w h=>R_idx (E:=env) (i:=(i:Int)) rfl rfl rfl rfl h.2 ⟨by omega,by omega⟩) ?_
  refine tk 5 (v:=ks.getD i nS) (fun w h=>R_load (E:=env) rfl rfl rfl (h.2.cell hg1)) ?_
  refine t1 6 ?_
  refine ca (RRow_tr (ks.getD i nS) row (by omega)) ?_ (hp:=has1 (hH _ memA) has0)
  rintro _ _ ⟨b,sv,rfl,rfl⟩
  refine nl ?_
  refine te (fun w hw=>⟨pt_at (b:=c) (cs:=[I T,cv,ov]) (T:=TAl) memA hw,has_sl (xs:=ks) hw hasA⟩) ?_
  refine t1 7 ?_
  refine ca (hS1 b sv) ?_
  rintro _ _ ⟨so,sv2,rfl,rfl⟩
  refine TO.one (v:=so) (xs:=Is S) fun hso=>?_
  refine nl ?_
  refine te (fun w hw=>⟨pt_at (b:=c) (cs:=[I T,cv,ov]) (T:=TAl) memA hw,has_sl (xs:=ks) hw hasA⟩) ?_
  refine tka 8 ?_
  refine tka 9 ?_
  refine tka 10 ?_
  refine tka 11 ?_
  refine tka 12 ?_
  refine t0 ?_
  skip
  repeat' first|(refine gca ?_;first|(refine ca hF1 ?_;rintro _ _ ⟨o5,rfl,ho5,rfl⟩))|(refine lnm (l:=S) ?_)|(refine aw (m:=((kn - S.length:Nat):Int)) ?_ (h:=by rw [show ((kn - S.length:Nat):Int) = (kn:Int) - S.length by omega];rfl))|refine sli (vs:=[so]) (fun q2=>?_) (h1:=one_cons hso one_nil)|(refine ap (xs:=ss) (news:=[so]) (fun o6=>?_) (h1:=one_cons hso one_nil);refine TO.one (v:=o6) (xs:=ss ++ [so]) fun ho6=>?_)|refine sli (vs:=[o5]) (fun q3=>?_) (h1:=one_cons ho5 one_nil)|(refine ap (xs:=gs) (news:=[o5]) (fun o7=>?_) (h1:=one_cons ho5 one_nil);refine TO.one (v:=o7) (xs:=gs ++ [o5]) fun ho7=>?_)|(refine wo ?_;first|(refine ao ?_;first|refine aw ?_)|refine oa ?_)|refine sq ?_|refine rg ?_|refine xc ?_|refine nl ?_|refine xb ?_
  refine TX.im (owl_push (hs:=ss) (ls:=(L.map (·.1)).take i) (v:=so) (l:=S) (by rw [hltl];exact hl1) fitA) ?_
  refine TX.im (owl_pushF (hs:=gs) (ls:=(wts L).take i) (by rw [hwtl];exact hl2) o5 wd fitA) ?_
  rw [← hst,← hwt]
  exact lp ⟨i + 1,o6,o7,ss ++ [so],gs ++ [o5]⟩ ⟨hlt,ho6,ho7,by simp [hl1],by simp [hl2]⟩
 ·obtain rfl:i = L.length:=by omega
  rw [List.take_of_length_le (show (L.map fun s:List Int × Nat=>s.1).length ≤ L.length by omega),List.take_of_length_le (show (wts L).length ≤ L.length by omega)]
  have hMs:=fun o1 hm=>hMass v1 v2 ss gs o1 hl1 hl2 hm
  clear hit hSet hfst hsnd hMass hFd hfd hige
  repeat' first|(refine gca ?_;first|(refine ca hOf1 ?_;rintro o1 _ ⟨ho1,rfl⟩)|(refine ca (hMs o1 ho1) ?_ (hp:=has1 hasA (has1 has_velg_nil (has1 hasA (has1 (has_owl (e:=TLI) (by rw [hll];exact hl1) memA) (has1 hasA (has1 (has_owl (e:=T64) (by rw [hwll];exact hl2) memA) has0))))));rintro m2 _ ⟨hm2,rfl⟩)|(refine ca (hOv m2 o2) ?_;rintro _ _ ⟨vn,vd,rfl,hvn,hvd,rfl⟩))|refine srz ?_|(refine wo ?_;first|(refine ao ?_;first|refine oa ?_)|refine oa ?_|refine ln ?_)|(refine gc ?_;first|(refine ci (fun hB=>?_) (fun hB=>?_) <;> try (exfalso;omega)))|refine sq ?_|refine rg ?_|refine xc ?_|refine nl ?_|refine xe ?_|refine rt ?_
  exact rca (cs:=[.bool (decide (q.num < 0)),vn,vd]) (vs:=[.bool (decide (q.num < 0)),vn,vd]) (T:=TRt) ⟨vn,vd,rfl,hvn,hvd,rfl⟩
end Go.Art
namespace Go.Art
open Go Go.Proofs Go.RowKit
attribute [local irreducible] Fit pt own ro vw mpc lpt vels rels mow lrc dfr
attribute [local irreducible] lmp lme mit velg relg bnd owl dfrl
theorem SameRowsT_tr (v u:Value) (hs hs2:List Value) (ls:List (List Int)) (hl:hs.length = ls.length) (hl2:hs2.length = ls.length):Tr Tryz.prog 14 [v,u] [vw v hs,velg I hs ls,vw u hs2,velg I hs2 ls] [] fun w D=>w = .bool true∧D = []:=by
 refine Tr.enter env _ Tryz.func14 (by kernel_rfl) rfl Tryz.ntmps14 rfl (by repeat (first | exact has00 | refine has01 ?_)) fun w0=>?_
 refine TC.fact (fun w hw=>vw_len (has_vw (F:=[vw v hs,velg I hs ls,vw u hs2,velg I hs2 ls] ++ []) (v:=v) (xs:=hs) memA) w hw) fun hll=>?_
 repeat' first|(refine wo ?_;first|(refine ao ?_;first|refine oa ?_)|refine oa ?_|refine ln ?_)|refine sq ?_|refine rg ?_|refine xc ?_|refine nl ?_|refine bk ?_
 refine TC.loop (ι:=Nat) (fun i=>[(6,I i),(5,.bool true)]) (fun _=>[]) (fun i=>i ≤ ls.length) (fun i=>ls.length - i) 0 [0,1] (Nat.zero_le _) ?_ (hs:=by rw [hl,hl2,show decide ((ls.length:Int) = ls.length) = true from decide_eq_true rfl];(repeat (refine Sub.cons rfl (by first | rfl | go_num) ?_));exact Sub.nil)
 rintro i hi
 by_cases hlt:i < ls.length
 ·have hg1:hs[i]? = some (hs.getD i nS):=by rw [List.getD_eq_getElem?_getD,List.getElem?_eq_getElem (by omega)];rfl
  have hg2:hs2[i]? = some (hs2.getD i nS):=by rw [List.getD_eq_getElem?_getD,List.getElem?_eq_getElem (by omega)];rfl
  have hS:=SameIntsT_tr (hs.getD i nS) (hs2.getD i nS) (ls.getD i [])
  repeat' first|refine qle (xs:=hs) ?_ (hj:=hg1)|refine qle (xs:=hs2) ?_ (hj:=hg2)|refine qca hS (v:=.bool true) (fun _ _ h=>h) ?_ (hp:=has1 (has_elg (g:=I) (hs:=hs) (ls:=ls) hasA hlt) (has1 (has_elg (g:=I) (hs:=hs2) (ls:=ls) hasA hlt) has0))|(refine wo ?_;first|(refine ao ?_;first|refine aw ?_|refine oa ?_)|refine oa ?_|refine ln ?_|refine gy ?_)|(refine gc ?_;first|(refine ci (fun hB=>?_) (fun hB=>?_) <;> try (exfalso;omega)))|refine sq ?_|refine rg ?_|refine xc ?_|refine nl ?_|refine sk ?_|refine bk ?_|refine xb ?_|refine rq ?_|refine nq ?_|(refine wq ?_;first|refine qa ?_|refine qixn ?_)
  exact lp (i + 1) hlt
 ·obtain rfl:i = ls.length:=by omega
  repeat' first|(refine wo ?_;first|(refine ao ?_;first|refine oa ?_)|refine oa ?_|refine ln ?_|refine gy ?_)|(refine gc ?_;first|(refine ci (fun hB=>?_) (fun hB=>?_) <;> try (exfalso;omega)))|refine sq ?_|refine rg ?_|refine xc ?_|refine nl ?_|refine xe ?_|refine rt ?_
  exact r1 ⟨rfl,rfl⟩
end Go.Art
namespace Go.Art
open Go Go.Proofs Go.RowKit
theorem R_nxor {P:Program} {n:Sh} {fr:Fr} {w:World} {t t' ty:TypeId} {x y:Operand} {a b:Nat} (hx:ev fr x = some (Un a)) (hy:ev fr y = some (Un b)) (ha:a < 18446744073709551616) (hb:b < 18446744073709551616):OpV P n fr (.binOp .xor t x y t') ty w (Un (a ^^^ b)) w:=R_bin hx hy (by
 show Result.ok (Value.int .u64 (IntKind.u64.wrap ((BitVec.ofInt 64 (a:Int) ^^^ BitVec.ofInt 64 (b:Int)).toNat:Int))) w = _
 have hx:a ^^^ b < 2 ^ 64:=Nat.xor_lt_two_pow (by omega) (by omega)
 rw [BitVec.toNat_xor,bv64 ha,bv64 hb,wrapN _ (a ^^^ b) (by omega)])
attribute [local irreducible] Fit pt own ro vw mpc lpt vels rels mow lrc dfr
attribute [local irreducible] lmp lme mit velg relg
theorem OverNat_tr (v:Value) (l:List Nat) (hd:Dg l):Tr Tryz.prog 65 [v] [] [own T64 v (Us l)] fun _ D=>D = []:=by
 refine Tr.enter env _ Tryz.func65 (by kernel_rfl) rfl Tryz.ntmps65 rfl (by repeat (first | exact has00 | refine has01 ?_)) fun w0=>?_
 refine TC.lenu (v:=v) (l:=l) fun hll=>?_
 repeat' first|(refine wo ?_;first|refine oa ?_)|refine sq ?_|refine rg ?_|refine xc ?_|refine nl ?_|refine bk ?_
 refine TC.loop (ι:=Nat × List Nat) (fun g=>[(2,I g.1)]) (fun g=>[own T64 v (Us g.2)]) (fun g=>g.1 ≤ l.length∧g.2.length = l.length∧Dg g.2) (fun g=>l.length - g.1) (0,l) [0] ⟨Nat.zero_le _,rfl,hd⟩ ?_
 rintro ⟨i,m⟩ ⟨hi,hm,hdm⟩
 dsimp only at hi hm hdm ⊢
 by_cases hlt:i < l.length
 ·have hx:=hdm.getD i
  have hr:m.getD i 0 ^^^ 2779096485 < 18446744073709551616:=by
   have:=Nat.xor_lt_two_pow (n:=64) (show m.getD i 0 < 2 ^ 64 from hx) (show 2779096485 < 2 ^ 64 by decide)
   exact Nat.lt_of_lt_of_eq this rfl
  repeat' first|(refine nao ?_;refine TO.val (v:=Un (m.getD i 0 ^^^ 2779096485)) (fun _ _=>R_nxor (a:=m.getD i 0) (b:=2779096485) rfl rfl hx (by decide)) ?_)|(refine wo ?_;first|(refine ao ?_;first|refine aw ?_|refine oa ?_)|refine lu ?_|refine sou ?_|refine oa ?_|refine lnm ?_|refine ixmn ?_)|(refine gc ?_;first|(refine ci (fun hB=>?_) (fun hB=>?_) <;> try (exfalso;omega)))|refine sq ?_|refine rg ?_|refine xc ?_|refine nl ?_|refine sk ?_|refine bk ?_|refine xb ?_
  exact lp (i + 1,m.set i (m.getD i 0 ^^^ 2779096485)) ⟨hlt,by dsimp only;rw [List.length_set];exact hm,hdm.set hr⟩
 ·obtain rfl:i = l.length:=by omega
  repeat' first|(refine wo ?_;first|(refine ao ?_;first|refine oa ?_)|refine oa ?_|refine lnm ?_)|(refine gc ?_;first|(refine ci (fun hB=>?_) (fun hB=>?_) <;> try (exfalso;omega)))|refine sq ?_|refine rg ?_|refine xc ?_|refine nl ?_|refine xe ?_
  exact e0 rfl
theorem OverRatio_tr (t:Fr3) (n1 d1:Value) (h1:Dg t.2.1) (h2:Dg t.2.2):Tr Tryz.prog 30 [.agg #[.bool t.1,n1,d1]] [] [own T64 n1 (Us t.2.1),own T64 d1 (Us t.2.2)] fun _ D=>D = []:=by
 refine Tr.enter env _ Tryz.func30 (by kernel_rfl) rfl Tryz.ntmps30 rfl (by repeat (first | exact has00 | refine has01 ?_)) fun w0=>?_
 repeat' first|(refine gca ?_;first|(refine ca (OverNat_tr n1 t.2.1 h1) ?_;rintro _ _ rfl)|(refine ca (OverNat_tr d1 t.2.2 h2) ?_;rintro _ _ rfl))|refine bx fun q=>?_|(refine wo ?_;first|refine oa ?_|refine ld ?_)|refine sq ?_|refine rg ?_|refine xc ?_|refine nl ?_
 exact e0 rfl
theorem SameRatioT_tr (t:Fr3) (n1 d1 n2 d2:Value):Tr Tryz.prog 29 [.agg #[.bool t.1,n1,d1],.agg #[.bool t.1,n2,d2]] [vw n1 (Us t.2.1),vw d1 (Us t.2.2),vw n2 (Us t.2.1),vw d2 (Us t.2.2)] []
  fun v D=>v = .bool true∧D = []:=(SameRatio_tr t t n1 d1 n2 d2).mono fun v D h=>by rw [decide_eq_true rfl] at h;exact h
end Go.Art
namespace Go.Art
open Go Go.Proofs Go.RowKit
theorem mass2:massW (failW 1) [1] 1 0 = (rqf (mkRat 1 1),0):=by rw [failW_fun];exact massW_ok (by decide) (by decide) (by decide) (by decide)
theorem sets1:setsW [1,3] 3 = ([[0],[1],[2],[0,1],[0,2],[1,2]],0):=by decide
attribute [local irreducible] Fit pt own ro vw mpc lpt vels rels mow lrc dfr
attribute [local irreducible] lmp lme mit velg relg bnd owl dfrl massW setsW massD
theorem dear23_tr (tv:Value) (t:List Int) (k n:Int):Tr Tryz.prog 9 [tv,I k,I n] [vw tv (Is t)] [] fun v D=>(∃ b,v = .bool b∧(b = false→t.length ≤ 12∧(k ≤ 40∨65536 < k)∧(n ≤ 12∨4096 < n)))∧D = []:=by
 refine Tr.enter env _ Tryz.func9 (by kernel_rfl) rfl Tryz.ntmps9 rfl (by repeat (first | exact has00 | refine has01 ?_)) fun w0=>?_
 by_cases h1:(12:Int) < t.length
 ·repeat' first|(refine wo ?_;first|(refine ao ?_;first|refine oa ?_)|refine oa ?_|refine lnm ?_|refine gn ?_|refine gu ?_|(refine gsi (fun hB=>?_) (fun hB=>?_) <;> try (exfalso;omega)))|refine sq ?_|refine rg ?_|refine xc ?_|refine nl ?_|refine rt ?_
  all_goals exact r1 ⟨⟨true,rfl,by intro h;cases h⟩,rfl⟩
 by_cases h2:40 < k
 ·by_cases h3:k ≤ 65536
  ·repeat' first|(refine wo ?_;first|(refine ao ?_;first|refine oa ?_)|refine oa ?_|refine lnm ?_|refine gy ?_|refine gn ?_|refine gu ?_|(refine gsi (fun hB=>?_) (fun hB=>?_) <;> try (exfalso;omega)))|refine sq ?_|refine rg ?_|refine xc ?_|refine nl ?_|refine rt ?_
   all_goals exact r1 ⟨⟨true,rfl,by intro h;cases h⟩,rfl⟩
  ·by_cases h4:12 < n
   ·by_cases h5:n ≤ 4096
    ·repeat' first|(refine wo ?_;first|(refine ao ?_;first|refine oa ?_)|refine oa ?_|refine lnm ?_|refine gy ?_|(refine gsi (fun hB=>?_) (fun hB=>?_) <;> try (exfalso;omega)))|refine sq ?_|refine rg ?_|refine xc ?_|refine nl ?_|refine rt ?_
     all_goals (refine r1 ⟨⟨_,rfl,fun h=>?_⟩,rfl⟩;simp at h;omega)
    ·repeat' first|(refine wo ?_;first|(refine ao ?_;first|refine oa ?_)|refine oa ?_|refine lnm ?_|refine gy ?_|(refine gsi (fun hB=>?_) (fun hB=>?_) <;> try (exfalso;omega)))|refine sq ?_|refine rg ?_|refine xc ?_|refine nl ?_|refine rt ?_
     all_goals (refine r1 ⟨⟨_,rfl,fun h=>?_⟩,rfl⟩;omega)
   ·repeat' first|(refine wo ?_;first|(refine ao ?_;first|refine oa ?_)|refine oa ?_|refine lnm ?_|refine gy ?_|refine gn ?_|(refine gsi (fun hB=>?_) (fun hB=>?_) <;> try (exfalso;omega)))|refine sq ?_|refine rg ?_|refine xc ?_|refine nl ?_|refine rt ?_
    all_goals (refine r1 ⟨⟨_,rfl,fun h=>?_⟩,rfl⟩;omega)
 ·by_cases h4:12 < n
  ·by_cases h5:n ≤ 4096
   ·repeat' first|(refine wo ?_;first|(refine ao ?_;first|refine oa ?_)|refine oa ?_|refine lnm ?_|refine gy ?_|refine gn ?_|(refine gsi (fun hB=>?_) (fun hB=>?_) <;> try (exfalso;omega)))|refine sq ?_|refine rg ?_|refine xc ?_|refine nl ?_|refine rt ?_
    all_goals (refine r1 ⟨⟨_,rfl,fun h=>?_⟩,rfl⟩;simp at h;omega)
   ·repeat' first|(refine wo ?_;first|(refine ao ?_;first|refine oa ?_)|refine oa ?_|refine lnm ?_|refine gy ?_|refine gn ?_|(refine gsi (fun hB=>?_) (fun hB=>?_) <;> try (exfalso;omega)))|refine sq ?_|refine rg ?_|refine xc ?_|refine nl ?_|refine rt ?_
    all_goals (refine r1 ⟨⟨_,rfl,fun h=>?_⟩,rfl⟩;omega)
  ·repeat' first|(refine wo ?_;first|(refine ao ?_;first|refine oa ?_)|refine oa ?_|refine lnm ?_|refine gy ?_|refine gn ?_|(refine gsi (fun hB=>?_) (fun hB=>?_) <;> try (exfalso;omega)))|refine sq ?_|refine rg ?_|refine xc ?_|refine nl ?_|refine rt ?_
   all_goals (refine r1 ⟨⟨_,rfl,fun h=>?_⟩,rfl⟩;omega)
theorem is23_tr (t:Fr3) (e:Int) (n1 d1:Value) (x y:Nat) (hx:x < 9223372036854775808) (hy:y < 9223372036854775808) (hy0:y ≠ 0):Tr Tryz.prog 24 [.agg #[.bool t.1,n1,d1],I e,I x,I y] [vw n1 (Us t.2.1),vw d1 (Us t.2.2)] []
  fun v D=>v = .bool (decide (e = 0∧t = rqf (mkRat x y)))∧D = []:=by
 have hP:=FPair_tr x y hx hy hy0
 unfold FQ2 at hP
 have hl:0 < (dg (mkRat (x:Int) y).den).length:=by have:=dg_len_pos (mkRat (x:Int) y).den_nz;omega
 generalize mkRat (x:Int) y = q at *
 refine Tr.enter env _ Tryz.func24 (by kernel_rfl) rfl Tryz.ntmps24 rfl (by repeat (first | exact has00 | refine has01 ?_)) fun w0=>?_
 repeat' first|(refine gca ?_;first|(refine ca hP ?_;rintro _ _ ⟨vn,vd,rfl,hvn,hvd,rfl⟩)|(refine ca (SameRatio_tr t (rqf q) n1 d1 vn vd) ?_;rintro _ _ ⟨rfl,rfl⟩))|refine bx fun b1=>?_|refine al fun b2=>?_|refine lda ?_|refine srz ?_|(refine wo ?_;first|(refine ao ?_;first|refine oa ?_)|refine oa ?_|refine ld ?_|refine lnm ?_|refine gy ?_|refine gn ?_|(refine gsi (fun hB=>?_) (fun hB=>?_) <;> try (exfalso;omega)))|refine sq ?_|refine rg ?_|refine xc ?_|refine nl ?_|refine rt ?_
 ·refine r1 ⟨?_,rfl⟩
  congr 1;exact decide_eq_decide.2 ⟨fun h=>⟨by assumption,h⟩,fun h=>h.2⟩
 ·refine r1 ⟨?_,rfl⟩
  rw [decide_eq_false fun h=>absurd h.1 (by assumption)]
theorem fails23_tr (tv:Value) (t:List Int) (k n:Int) (x y:Nat) (hx:x < 9223372036854775808) (hy:y < 9223372036854775808) (hy0:y ≠ 0) (hl:t.length ≤ 12) (hk:k ≤ 40∨65536 < k) (hn:n ≤ 12∨4096 < n) (h:massW (failW k) t k n = (rqf (mkRat x y),0)) :
  Tr Tryz.prog 31 [tv,I k,I n,I x,I y] [vw tv (Is t)] [] fun v D=>v = .bool true∧D = []:=by
 have hF:=MFail_tr tv t k n hl hk hn
 rw [h] at hF
 have hI:=fun a b=>is23_tr (rqf (mkRat x y)) 0 a b x y hx hy hy0
 simp only [and_self,decide_true] at hI
 unfold FW at hF
 dsimp only at hF
 generalize mkRat (x:Int) y = q at *
 refine Tr.enter env _ Tryz.func31 (by kernel_rfl) rfl Tryz.ntmps31 rfl (by repeat (first | exact has00 | refine has01 ?_)) fun w0=>?_
 repeat' first|(refine gca ?_;first|(refine ca hF ?_;rintro _ _ ⟨vn,vd,rfl,hvn,hvd,rfl⟩)|(refine ca (hI vn vd) ?_;rintro _ _ ⟨rfl,rfl⟩))|refine al fun c=>?_|refine srz ?_|refine lda ?_|(refine wo ?_;first|refine oa ?_)|refine sq ?_|refine rg ?_|refine xc ?_|refine nl ?_|refine rt ?_
 exact r1 ⟨rfl,rfl⟩
theorem awake23_tr:Tr Tryz.prog 10 [] [] [] fun v D=>v = .bool true∧D = []:=by
 have hS:=fun s=>MSets_tr s [1,3] 3
 rw [sets1] at hS
 dsimp only at hS
 have hF1:=fun s=>fails23_tr s [1,1] 2 2 3 8 (by decide) (by decide) (by decide) (by decide) (by decide) (by decide) mass1
 have hF2:=fun s=>fails23_tr s [1] 1 0 1 1 (by decide) (by decide) (by decide) (by decide) (by decide) (by decide) mass2
 have hR:=fun v u hs v1 v2 v3 v4 v5 v6 hl=>SameRowsT_tr v u hs [v1,v2,v3,v4,v5,v6] [[0],[1],[2],[0,1],[0,2],[1,2]] hl rfl
 refine Tr.enter env _ Tryz.func10 (by kernel_rfl) rfl Tryz.ntmps10 rfl (by repeat (first | exact has00 | refine has01 ?_)) fun w0=>?_
 repeat' first|(refine gca ?_;first|(refine ca (hS _) ?_;rintro _ _ ⟨sv,ss,rfl,hsv,hsl,rfl⟩)|(refine ca (hF1 _) ?_;rintro _ _ ⟨rfl,rfl⟩)|(refine ca (hF2 _) ?_;rintro _ _ ⟨rfl,rfl⟩)|(refine ca (hR _ _ ss _ _ _ _ _ _ hsl) ?_ (hp:=has1 hasA (has1 (has_owl (e:=TLI) hsl memA) (has1 hasA (has1 (has_elg_cons hasA (has_elg_cons hasA (has_elg_cons hasA (has_elg_cons hasA (has_elg_cons hasA (has_elg_cons hasA has_elg_nil)))))) has0))));rintro _ _ ⟨rfl,rfl⟩))|refine slz fun v hv=>?_|refine slw fun v hv=>?_|(refine wo ?_;first|(refine ao ?_;first|refine oa ?_)|refine oa ?_|refine gy ?_)|refine sq ?_|refine rg ?_|refine xc ?_|refine nl ?_|refine rt ?_
 exact r1 ⟨rfl,rfl⟩
theorem RFail23_tr (tv:Value) (t:List Int) (k n:Int) (hl:t.length ≤ 12) (hk:k ≤ 40∨65536 < k) (hn:n ≤ 12∨4096 < n):Tr Tryz.prog 25 [tv,I k,I n] [vw tv (Is t)] [] (FW (massW (failW k) t k n)):=by
 have hC:=counted23_tr false tv t k n (failW k) (fun b=>(Bool.false_or _).symm) hl hk hn
 generalize massW (failW k) t k n = m at *
 obtain ⟨⟨a,b,c⟩,e⟩:=m
 unfold FW at hC ⊢
 dsimp only at hC ⊢
 refine Tr.enter env _ Tryz.func25 (by kernel_rfl) rfl Tryz.ntmps25 rfl (by repeat (first | exact has00 | refine has01 ?_)) fun w0=>?_
 repeat' first|(refine gca ?_;first|(refine ca hC ?_;rintro _ _ ⟨vn,vd,rfl,hvn,hvd,rfl⟩))|refine al fun c=>?_|refine srz ?_|(refine wo ?_;first|refine oa ?_)|refine sq ?_|refine rg ?_|refine xc ?_|refine nl ?_|refine rt ?_
 exact rca (cs:=[.bool a,vn,vd]) (vs:=[.bool a,vn,vd]) (T:=TRt) ⟨vn,vd,rfl,hvn,hvd,rfl⟩
theorem RWhole23_tr (tv:Value) (t:List Int) (k n:Int) (hl:t.length ≤ 12) (hk:k ≤ 40∨65536 < k) (hn:n ≤ 12∨4096 < n):Tr Tryz.prog 28 [tv,I k,I n] [vw tv (Is t)] [] (FW (massW (fun _=>true) t k n)):=by
 have hC:=counted23_tr true tv t k n (fun _=>true) (fun b=>(Bool.true_or _).symm) hl hk hn
 generalize massW (fun _=>true) t k n = m at *
 obtain ⟨⟨a,b,c⟩,e⟩:=m
 unfold FW at hC ⊢
 dsimp only at hC ⊢
 refine Tr.enter env _ Tryz.func28 (by kernel_rfl) rfl Tryz.ntmps28 rfl (by repeat (first | exact has00 | refine has01 ?_)) fun w0=>?_
 repeat' first|(refine gca ?_;first|(refine ca hC ?_;rintro _ _ ⟨vn,vd,rfl,hvn,hvd,rfl⟩))|refine al fun c=>?_|refine srz ?_|(refine wo ?_;first|refine oa ?_)|refine sq ?_|refine rg ?_|refine xc ?_|refine nl ?_|refine rt ?_
 exact rca (cs:=[.bool a,vn,vd]) (vs:=[.bool a,vn,vd]) (T:=TRt) ⟨vn,vd,rfl,hvn,hvd,rfl⟩
theorem massW_dg (W:List (List Int)→Bool) (t:List Int) (k n:Int):Dg (massW W t k n).1.2.1∧Dg (massW W t k n).1.2.2:=by
 unfold massW sumW
 have h0:Dg (rqn).2.1∧Dg (rqn).2.2:=⟨Dg.nil,Dg.nil⟩
 split
 ·split
  ·split
   ·exact ⟨Dg_dg _,Dg_dg _⟩
   ·exact h0
  ·exact h0
 ·exact h0
theorem massD_dg (W:List (List Int)→Bool) (t:List Int) (k n:Int):Dg (massD W t k n).1.2.1∧Dg (massD W t k n).1.2.2:=by
 unfold massD sumW
 have h0:Dg (rqn).2.1∧Dg (rqn).2.2:=⟨Dg.nil,Dg.nil⟩
 split
 ·split
  ·split
   ·exact ⟨Dg_dg _,Dg_dg _⟩
   ·exact h0
  ·exact h0
 ·exact h0
theorem MassFails_tr (tv:Value) (t:List Int) (k n:Int):Tr Tryz.prog 6 [tv,I k,I n] [vw tv (Is t)] [] fun v D=>v = .bool true∧D = []:=by
 have hD:=dear23_tr tv t k n
 refine Tr.enter env _ Tryz.func6 (by kernel_rfl) rfl Tryz.ntmps6 rfl (by repeat (first | exact has00 | refine has01 ?_)) fun w0=>?_
 repeat' first|(refine gca ?_;first|(refine ca hD ?_;rintro _ _ ⟨⟨b,rfl,hb⟩,rfl⟩;cases b)|(refine ca awake23_tr ?_;rintro _ _ ⟨rfl,rfl⟩))|(refine wo ?_;first|refine oa ?_)|(refine gc ?_;first|refine ct ?_|refine cf ?_)|refine sq ?_|refine rg ?_|refine xc ?_|refine nl ?_|refine sk ?_|refine rt ?_
 rotate_left
 ·exact r1 ⟨rfl,rfl⟩
 obtain ⟨h1,h2,h3⟩:=hb rfl
 have hC:=CopyInts_tr tv t (by omega)
 have hF:=fun o=>MFail_tr o t k n h1 h2 h3
 have hRF:=RFail23_tr tv t k n h1 h2 h3
 have hDr:=fun o=>MDrawn_tr o t k n h1 h2 h3
 have hRD:=RDrawn23_tr tv t k n (failW k) (fun b=>(Bool.false_or _).symm) h1 h2 h3
 have hWh:=fun o=>MWhole_tr o t k n h1 h2 h3
 have hRW:=RWhole23_tr tv t k n h1 h2 h3
 have d1:=massW_dg (failW k) t k n
 have d2:=massD_dg (failW k) t k n
 have d3:=massW_dg (fun _=>true) t k n
 generalize massW (failW k) t k n = m1 at *
 generalize massD (failW k) t k n = m2 at *
 generalize massW (fun _=>true) t k n = m3 at *
 obtain ⟨t1,e1⟩:=m1
 obtain ⟨t2,e2⟩:=m2
 obtain ⟨t3,e3⟩:=m3
 unfold FW at hF hRF hDr hRD hWh hRW
 dsimp only at hF hRF hDr hRD hWh hRW d1 d2 d3
 repeat' first|(refine gca ?_;first|(refine ca hC ?_;rintro o _ rfl)|(refine ca (hF o) ?_;rintro _ _ ⟨n1,k1,rfl,hn1,hk1,rfl⟩)|(refine ca hRF ?_;rintro _ _ ⟨n2,k2,rfl,hn2,hk2,rfl⟩)|(refine ca (hDr o) ?_;rintro _ _ ⟨n3,k3,rfl,hn3,hk3,rfl⟩)|(refine ca hRD ?_;rintro _ _ ⟨n4,k4,rfl,hn4,hk4,rfl⟩)|(refine ca (hWh o) ?_;rintro _ _ ⟨n5,k5,rfl,hn5,hk5,rfl⟩)|(refine ca hRW ?_;rintro _ _ ⟨n6,k6,rfl,hn6,hk6,rfl⟩))|refine al fun c=>?_|refine srz ?_|(refine wo ?_;first|refine oa ?_)|refine sq ?_|refine rg ?_|refine xc ?_|refine nl ?_
 have hS1:=SameRatioT_tr t1 n1 k1 n2 k2
 have hS2:=SameRatioT_tr t2 n3 k3 n4 k4
 have hS3:=SameRatioT_tr t3 n5 k5 n6 k6
 have hSI:=SameIntsT_tr o tv t
 repeat' first|(refine gca ?_;first|(refine ca hS1 ?_;rintro _ _ ⟨rfl,rfl⟩)|(refine ca hS2 ?_;rintro _ _ ⟨rfl,rfl⟩)|(refine ca hS3 ?_;rintro _ _ ⟨rfl,rfl⟩)|(refine ca (OverRatio_tr t1 n1 k1 d1.1 d1.2) ?_;rintro _ _ rfl)|(refine ca (OverRatio_tr t2 n3 k3 d2.1 d2.2) ?_;rintro _ _ rfl)|(refine ca hSI ?_;rintro _ _ ⟨rfl,rfl⟩)|(refine ca awake23_tr ?_;rintro _ _ ⟨rfl,rfl⟩))|refine lda ?_|(refine wo ?_;first|(refine ao ?_;first|refine oa ?_)|refine oa ?_|refine gy ?_|(refine gsi (fun hB=>?_) (fun hB=>?_) <;> try (exfalso;omega)))|refine sq ?_|refine rg ?_|refine xc ?_|refine nl ?_|refine rt ?_
 all_goals exact r1 ⟨rfl,rfl⟩
end Go.Art
namespace Go.Art
open Go Go.Proofs Go.RowKit
def msk (l:List Int):Nat:=(l.map fun s=>2 ^ s.toNat).sum
def popK (k a:Nat):Nat:=((List.range k).map fun j=>a / 2 ^ j % 2).sum
def rmsk (k:Nat) (l:List Int):Nat:=msk (ordF 0 (upto k) (l.drop 2))
def fct:Nat→Nat
 | 0=>1
 | n + 1=>(n + 1) * fct n
def chkA (k:Nat):Bool:=(List.range (k + 1)).all fun d=>(endsL d k []).all fun js=>(ordF 0 (upto k) js).all (fun s=>decide (0 ≤ s∧s < k)) && Nat.blt (msk (ordF 0 (upto k) js)) (2 ^ k)
def chkB (k:Nat):Bool:=(List.range (2 ^ k)).all fun a=>Nat.ble (popK k a) k && (Nat.beq a 0 || Nat.blt 0 (popK k a)) && (List.range (k + 1)).all fun d=>Nat.beq ((endsL d k []).filter fun js=>Nat.beq (msk (ordF 0 (upto k) js)) a).length (bif Nat.beq d (popK k a) then fct d else 0)
def wtA (k a:Nat) (l:List Int):Nat:=bif Nat.beq (rmsk k l) a then wt k l else 0
def shrM (k a:Nat) (d:Nat):Nat:=if d = popK k a then fct d * (24 / fall k d) else 0
open Go Go.Proofs Go.RowKit
open Go Go.Proofs Go.RowKit
def setA (k a:Nat):List Int:=(belowI k).filter fun s=>Nat.beq (a / 2 ^ s.toNat % 2) 1
def chkP (k:Nat):Bool:=(List.range (k + 1)).all fun d=>(risR d 0 k).isPerm (((List.range (2 ^ k)).filter fun a=>Nat.beq (popK k a) d).map (setA k))
def chkO (k:Nat):Bool:=(List.range (k + 1)).all fun d=>(endsL d k []).all fun js=>(ordF 0 (upto k) js).isPerm (setA k (msk (ordF 0 (upto k) js))) && Nat.beq (popK k (msk (ordF 0 (upto k) js))) d
open Go Go.Proofs Go.RowKit
def smlT (m:Int) (tbl:List Int) (k:Nat):List Int:=(tbl.take k).map fun x=>pick x m
attribute [local irreducible] Fit pt own ro vw mpc lpt vels rels mow lrc dfr
attribute [local irreducible] lmp lme mit velg relg bnd owl dfrl massW setsW massD smlT solE
end Go.Art
