/- Texts put together: Ge Gi Hj Hl Hm Hn Hv Hw Hx. Conditions: none. -/
import Derived.Test.YtmdpconhbmkokaaGreatWUg
set_option linter.unusedSimpArgs false
set_option linter.unusedVariables false
namespace Go.Art
open Go Go.Proofs Go.RowKit
theorem alE_in {tot:Int} {cut oth:List Int} (hE:alE tot cut oth = 0):((1 ≤ tot∧tot ≤ 1099511627776)∧(1 ≤ cut.length∧cut.length ≤ 65536)∧oth.length = cut.length)∧∀ i:Nat,i < cut.length→(0 ≤ cut.getD i 0∧cut.getD i 0 ≤ tot)∧0 ≤ oth.getD i 0∧oth.getD i 0 < cut.length:=by
 unfold alE at hE
 split at hE
 ·cases hE
 ·split at hE
  ·cases hE
  ·rename_i h1 h2
   refine ⟨by omega,fun i hi=>?_⟩
   rw [Bool.or_eq_true,not_or] at h2
   have a1:cut.getD i 0 ∈ cut:=mem_getD.2 ⟨i,hi,rfl⟩
   have a2:oth.getD i 0 ∈ oth:=mem_getD.2 ⟨i,by omega,rfl⟩
   have b1:¬ (cut.getD i 0 < 0∨tot < cut.getD i 0):=fun q=>h2.1 (List.any_eq_true.2 ⟨_,a1,decide_eq_true q⟩)
   have b2:¬ (oth.getD i 0 < 0∨(cut.length:Int) - 1 < oth.getD i 0):=fun q=>h2.2 (List.any_eq_true.2 ⟨_,a2,decide_eq_true q⟩)
   omega
attribute [local irreducible] Fit pt own ro vw mpc lpt vels rels mow lrc dfr
attribute [local irreducible] lmp lme mit velg relg
theorem RAlCheck_tr (tot:Int) (cv ov:Value) (cut oth:List Int) (hc:cv.oneCell' = true) (ho:ov.oneCell' = true) (hE:alE tot cut oth = 0):Tr Tryz.prog 194 [.agg #[I tot,cv,ov]] [vw cv (Is cut),vw ov (Is oth)] [] fun v D=>v = I 0∧D = []:=by
 obtain ⟨⟨h1,h2,h3⟩,h4⟩:=alE_in hE
 refine Tr.enter env _ Tryz.func194 (by kernel_rfl) rfl Tryz.ntmps194 rfl (by repeat (first | exact has00 | refine has01 ?_)) fun w0=>?_
 repeat' first|refine bx fun b=>?_|(refine wo ?_;first|(refine ao ?_;first|refine oa ?_)|refine oa ?_|refine ld ?_|refine lnm ?_|refine gy ?_|(refine gsi (fun hB=>?_) (fun hB=>?_) <;> try (exfalso;omega)))|(refine gc ?_;first|(refine cn (fun hB=>?_) (fun hB=>?_) <;> try (exfalso;omega)))|refine sq ?_|refine rg ?_|refine xc ?_|refine nl ?_|refine sk ?_|refine bk ?_
 refine TC.loop (ι:=Nat) (fun i=>[(4,I i)]) (fun _=>[]) (fun i=>i ≤ cut.length) (fun i=>cut.length - i) 0 [1,3] (Nat.zero_le _) ?_
 intro i hi
 by_cases hlt:i < cut.length
 ·have hf:=h4 i hlt
  generalize hx:cut.getD i 0 = x at *
  generalize hy:oth.getD i 0 = y at *
  repeat' first|refine qlie hx ?_|refine qlie hy ?_|(refine wo ?_;first|(refine ao ?_;first|refine aw ?_|refine oa ?_)|refine oa ?_)|(refine gc ?_;first|(refine ci (fun hB=>?_) (fun hB=>?_) <;> try (exfalso;omega)))|refine sq ?_|refine rg ?_|refine xc ?_|refine nl ?_|refine sk ?_|refine bk ?_|refine xb ?_|refine rq ?_|refine nq ?_|(refine wq ?_;first|(refine qao ?_;first|refine qa ?_)|refine qa ?_|refine qld ?_|refine qixmn ?_|refine qgy ?_|(refine qgsi (fun hB=>?_) (fun hB=>?_) <;> try (exfalso;omega)))
  exact lp (i + 1) hlt
 ·repeat' first|(refine wo ?_;first|(refine ao ?_;first|refine oa ?_)|refine oa ?_)|(refine gc ?_;first|(refine ci (fun hB=>?_) (fun hB=>?_) <;> try (exfalso;omega)))|refine sq ?_|refine rg ?_|refine xc ?_|refine nl ?_|refine xe ?_|refine rt ?_
  exact r1 ⟨rfl,rfl⟩
theorem RAlPick_tr (tot c l:Int) (cv ov:Value) (cut oth:List Int) (hc:cv.oneCell' = true) (ho:ov.oneCell' = true) (hE:alE tot cut oth = 0) (h1:0 ≤ c∧c < cut.length) (h2:0 ≤ l∧l < tot) :
  Tr Tryz.prog 198 [.agg #[I tot,cv,ov],I c,I l] [vw cv (Is cut),vw ov (Is oth)] [] fun v D=>v = tup2 (I (alPick tot cut oth c l)) (I 0)∧D = []:=by
 obtain ⟨⟨_,_,hol⟩,_⟩:=alE_in hE
 refine Tr.enter env _ Tryz.func198 (by kernel_rfl) rfl Tryz.ntmps198 rfl (by repeat (first | exact has00 | refine has01 ?_)) fun w0=>?_
 repeat' first|(refine gca ?_;first|(refine ca (RAlCheck_tr tot cv ov cut oth hc ho hE) ?_;rintro _ _ ⟨rfl,rfl⟩))|refine bx fun b=>?_|refine lda ?_|(refine wo ?_;first|(refine ao ?_;first|refine oa ?_)|refine oa ?_|refine ld ?_|refine lnm ?_|refine ixm ?_|refine li ?_|refine gy ?_|(refine gsi (fun hB=>?_) (fun hB=>?_) <;> try (exfalso;omega)))|(refine gc ?_;first|refine cf ?_|(refine ci (fun hB=>?_) (fun hB=>?_) <;> try (exfalso;omega)))|refine sq ?_|refine rg ?_|refine xc ?_|refine nl ?_|refine sk ?_|refine bk ?_|refine rt ?_|refine xb ?_
 ·refine r2 ⟨?_,rfl⟩
  unfold alPick;rw [if_pos hB]
 ·refine r2 ⟨?_,rfl⟩
  unfold alPick;rw [if_neg hB]
theorem RRwCheck_tr (tot k:Int) (cv ov:Value) (cut oth:List Int) (hc:cv.oneCell' = true) (ho:ov.oneCell' = true) (hE:alE tot cut oth = 0) (hk:(1 ≤ k∧k ≤ 65536)∧cut.length ≤ k):Tr Tryz.prog 186 [.agg #[I tot,cv,ov],I k] [vw cv (Is cut),vw ov (Is oth)] [] fun v D=>v = I 0∧D = []:=by
 refine Tr.enter env _ Tryz.func186 (by kernel_rfl) rfl Tryz.ntmps186 rfl (by repeat (first | exact has00 | refine has01 ?_)) fun w0=>?_
 repeat' first|(refine gca ?_;first|(refine ca (RAlCheck_tr tot cv ov cut oth hc ho hE) ?_;rintro _ _ ⟨rfl,rfl⟩))|refine bx fun b=>?_|refine lda ?_|(refine wo ?_;first|(refine ao ?_;first|refine oa ?_)|refine oa ?_|refine ld ?_|refine lnm ?_|refine gy ?_|(refine gsi (fun hB=>?_) (fun hB=>?_) <;> try (exfalso;omega)))|(refine gc ?_;first|refine cf ?_|(refine ci (fun hB=>?_) (fun hB=>?_) <;> try (exfalso;omega)))|refine sq ?_|refine rg ?_|refine xc ?_|refine nl ?_|refine sk ?_|refine rt ?_
 exact r1 ⟨rfl,rfl⟩
theorem degree_tr (tot c l:Int) (cv ov:Value) (cut oth:List Int) (hc:cv.oneCell' = true) (ho:ov.oneCell' = true) (hE:alE tot cut oth = 0) (h1:0 ≤ c∧c < cut.length) (h2:0 ≤ l∧l < tot) (h3:0 ≤ alPick tot cut oth c l∧alPick tot cut oth c l ≤ 65536) :
  Tr Tryz.prog 189 [.agg #[I tot,cv,ov],I c,I l] [vw cv (Is cut),vw ov (Is oth)] [] fun v D=>v = I (alPick tot cut oth c l + 1)∧D = []:=by
 have hP:=RAlPick_tr tot c l cv ov cut oth hc ho hE h1 h2
 generalize alPick tot cut oth c l = a at *
 refine Tr.enter env _ Tryz.func189 (by kernel_rfl) rfl Tryz.ntmps189 rfl (by repeat (first | exact has00 | refine has01 ?_)) fun w0=>?_
 repeat' first|(refine gca ?_;first|(refine ca hP ?_;rintro _ _ ⟨rfl,rfl⟩))|refine bx fun b=>?_|refine lda ?_|(refine wo ?_;first|(refine ao ?_;first|refine aw ?_)|refine oa ?_)|refine sq ?_|refine rg ?_|refine xc ?_|refine nl ?_|refine rt ?_
 exact r1 ⟨rfl,rfl⟩
theorem RRwSet_tr (tot k:Int) (cv ov:Value) (cut oth:List Int) (b:Nat) (st:BitVec 64) (hc:cv.oneCell' = true) (ho:ov.oneCell' = true) (hE:alE tot cut oth = 0) (hk:(1 ≤ k∧k ≤ 65536)∧cut.length ≤ k) (hz:(setR tot cut oth k st).2 = 0) :
  Tr Tryz.prog 169 [.agg #[I tot,cv,ov],I k,ptr b] [vw cv (Is cut),vw ov (Is oth)] (rloP b st 0) fun v D=>∃ o st' u,v = tup2 o (I 0)∧D = own 3 o (Is (setR tot cut oth k st).1) :: rloP b st' u:=by
 have hck:=RRwCheck_tr tot k cv ov cut oth hc ho hE hk
 have hat:=plc_in hE st
 have hb:=(alE_in hE).1
 have e1:ldraw cut.length st 0 = ((((sdraw cut.length st).1:Int),0),((sdraw cut.length st).2,0 + 1)):=by
  unfold ldraw;rw [if_pos (by omega),Int.toNat_natCast]
 have h1:=RDraw_tr b st 0 cut.length (by omega)
 rw [e1] at h1
 dsimp only at h1
 have l1:=sdraw_lt (n:=cut.length) (by omega) st
 unfold setR plcR at *
 generalize (sdraw cut.length st).1 = c at *
 generalize (sdraw cut.length st).2 = st1 at *
 have e2:ldraw tot st1 (0 + 1) = ((((sdraw tot.toNat st1).1:Int),0),((sdraw tot.toNat st1).2,0 + 1 + 1)):=by
  unfold ldraw;rw [if_pos (by omega)]
 have h2:=RDraw_tr b st1 (0 + 1) tot (by omega)
 rw [e2] at h2
 dsimp only at h2 hat hz ⊢
 have l2:=sdraw_lt (n:=tot.toNat) (by omega) st1
 generalize (sdraw tot.toNat st1).1 = l at *
 generalize (sdraw tot.toNat st1).2 = st2 at *
 have h4:=degree_tr tot c l cv ov cut oth hc ho hE (by omega) (by omega) (by omega)
 have h3:=RPick_tr b st2 (0 + 1 + 1) k (alPick tot cut oth c l + 1) (by omega) (by unfold Sized;omega)
 rw [hz] at h3
 refine Tr.enter env _ Tryz.func169 (by kernel_rfl) rfl Tryz.ntmps169 rfl (by repeat (first | exact has00 | refine has01 ?_)) fun w0=>?_
 repeat' first|(refine gca ?_;first|(refine ca hck ?_;rintro _ _ ⟨rfl,rfl⟩)|(refine ca h1 ?_;rintro _ _ ⟨rfl,rfl⟩)|(refine ca h2 ?_;rintro _ _ ⟨rfl,rfl⟩)|(refine ca h4 ?_;rintro _ _ ⟨rfl,rfl⟩)|(refine ca h3 ?_;rintro _ _ ⟨o,rfl,rfl⟩))|refine bx fun b=>?_|refine lda ?_|(refine wo ?_;first|(refine ao ?_;first|refine oa ?_)|refine oa ?_|refine ld ?_|refine lnm ?_)|(refine gc ?_;first|refine cf ?_)|refine sq ?_|refine rg ?_|refine xc ?_|refine nl ?_|refine sk ?_|refine rt ?_
 exact r2 ⟨_,_,_,rfl,rfl⟩
theorem rnumber_tr (n:Int):Tr Tryz.prog 139 [I n] [] [] fun v D=>v = .bool (decide (numOk n))∧D = []:=by
 refine Tr.enter env _ Tryz.func139 (by kernel_rfl) rfl Tryz.ntmps139 rfl (by repeat (first | exact has00 | refine has01 ?_)) fun w0=>?_
 repeat' first|(refine wo ?_;first|(refine ao ?_;first|refine oa ?_)|refine oa ?_|refine gy ?_|refine gn ?_|(refine gsi (fun hB=>?_) (fun hB=>?_) <;> try (exfalso;omega)))|refine sq ?_|refine rg ?_|refine xc ?_|refine nl ?_|refine rt ?_
 all_goals refine r1 ⟨?_,rfl⟩
 all_goals first
  | rw [decide_eq_false (fun h:numOk n=>by unfold numOk at h;omega)]
  | (congr 1;exact decide_eq_decide.2 ⟨fun h=>by unfold numOk;omega,fun h=>by unfold numOk at h;omega⟩)
theorem RSetOf_tr (s:Value) (t:List Int) (k seed blk id:Int):Tr Tryz.prog 158 [s,I k,I seed,I blk,I id] [vw s (Is t)] [] fun v D=>∃ o,v = tup2 o (I (setofR t k seed blk id).2)∧D = [own 3 o (Is (setofR t k seed blk id).1)]:=by
 have hC:=RSoCheck_tr s t k
 by_cases he:solE t k = 0
 rotate_left
 ·have he':solE t k = 13:=(solE_cases t k).resolve_left he
  rw [he'] at hC
  rw [show setofR t k seed blk id = ([],13) by unfold setofR smpE;rw [if_neg he];rfl]
  refine Tr.enter env _ Tryz.func158 (by kernel_rfl) rfl Tryz.ntmps158 rfl (by repeat (first | exact has00 | refine has01 ?_)) fun w0=>?_
  repeat' first|(refine gca ?_;first|(refine ca hC ?_;rintro _ _ ⟨rfl,rfl⟩))|(refine wo ?_;first|(refine ao ?_;first|refine oa ?_)|refine oa ?_)|(refine gc ?_;first|refine ct ?_)|refine sq ?_|refine rg ?_|refine xc ?_|refine nl ?_|refine bk ?_|refine rt ?_
  refine TX.im (own_nil 3 _) ?_
  exact r2 ⟨nS,rfl,rfl⟩
 rw [he] at hC
 by_cases hb:numOk blk
 rotate_left
 ·rw [show setofR t k seed blk id = ([],3) by unfold setofR smpE;rw [if_pos he,if_neg hb];rfl]
  refine Tr.enter env _ Tryz.func158 (by kernel_rfl) rfl Tryz.ntmps158 rfl (by repeat (first | exact has00 | refine has01 ?_)) fun w0=>?_
  repeat' first|(refine gca ?_;first|(refine ca hC ?_;rintro _ _ ⟨rfl,rfl⟩)|(refine ca (rnumber_tr blk) ?_;rintro _ _ ⟨rfl,rfl⟩;rw [decide_eq_false hb]))|(refine wo ?_;first|(refine ao ?_;first|refine oa ?_)|refine oa ?_|refine gn ?_)|(refine gc ?_;first|refine ct ?_|refine cf ?_)|refine sq ?_|refine rg ?_|refine xc ?_|refine nl ?_|refine bk ?_|refine rt ?_
  refine TX.im (own_nil 3 _) ?_
  exact r2 ⟨nS,rfl,rfl⟩
 rw [show setofR t k seed blk id = setW t k seed blk id by unfold setofR smpE;rw [if_pos he,if_pos hb];rfl]
 by_cases hi:numOk id
 rotate_left
 ·rw [show setW t k seed blk id = ([],3) from if_neg hi]
  refine Tr.enter env _ Tryz.func158 (by kernel_rfl) rfl Tryz.ntmps158 rfl (by repeat (first | exact has00 | refine has01 ?_)) fun w0=>?_
  repeat' first|(refine gca ?_;first|(refine ca hC ?_;rintro _ _ ⟨rfl,rfl⟩)|(refine ca (rnumber_tr blk) ?_;rintro _ _ ⟨rfl,rfl⟩;rw [decide_eq_true hb])|(refine ca (rnumber_tr id) ?_;rintro _ _ ⟨rfl,rfl⟩;rw [decide_eq_false hi]))|(refine wo ?_;first|(refine ao ?_;first|refine oa ?_)|refine oa ?_|refine gy ?_)|(refine gc ?_;first|refine ct ?_|refine cf ?_)|refine sq ?_|refine rg ?_|refine xc ?_|refine nl ?_|refine bk ?_|refine rt ?_
  refine TX.im (own_nil 3 _) ?_
  exact r2 ⟨nS,rfl,rfl⟩
 rw [show setW t k seed blk id = (setT t k seed blk id,0) from if_pos hi]
 obtain ⟨h1,h2,h3,h4⟩:=solE_zero he
 have hpos:=sum_pos' h3 h4
 obtain ⟨g1,g2,g3⟩:=alF_ok h3 (by omega) hpos
 have hany:t.any wPos = true:=by
  obtain ⟨w,hw,hp⟩:=h4
  exact List.any_eq_true.2 ⟨w,hw,decide_eq_true hp⟩
 have hz:=(setR_ok he (seedOf (c64 seed) (c64 blk) (c64 id))).1
 have hM:=RMake_tr s t (by omega) h3 hpos hany
 refine Tr.enter env _ Tryz.func158 (by kernel_rfl) rfl Tryz.ntmps158 rfl (by repeat (first | exact has00 | refine has01 ?_)) fun w0=>?_
 repeat' first|(refine gca ?_;first|(refine ca hC ?_;rintro _ _ ⟨rfl,rfl⟩)|(refine ca (rnumber_tr blk) ?_;rintro _ _ ⟨rfl,rfl⟩;rw [decide_eq_true hb])|(refine ca (rnumber_tr id) ?_;rintro _ _ ⟨rfl,rfl⟩;rw [decide_eq_true hi])|(refine ca hM ?_;rintro _ _ ⟨cv,ov,rfl,rfl,hc,ho⟩))|refine al fun ba=>?_|refine srz ?_|(refine wo ?_;first|(refine ao ?_;first|refine oa ?_)|refine oa ?_|refine gy ?_)|(refine gc ?_;first|refine cf ?_)|refine sq ?_|refine rg ?_|refine xc ?_|refine nl ?_|refine sk ?_|refine bk ?_|refine xb ?_
 refine rs (fun w=>w.heap[ba]? = some (.cells #[I t.sum,cv,ov] TAl (0,0))) ?_ (fun w hw=>pt_at memA hw)
 refine tk 0 (v:=.agg #[I t.sum,cv,ov]) (hi:=rfl) (fun w h=>by exact R_loadA (E:=env) (cs:=[I t.sum,cv,ov]) (vs:=[I t.sum,cv,ov]) rfl rfl rfl rfl h rfl rfl) ?_
 refine tka 1 ?_
 refine tka 2 ?_
 refine tk 3 (v:=U (c64 seed)) (hi:=rfl) (fun w h=>by exact R_toU (E:=env) rfl rfl rfl) ?_
 refine tka 4 ?_
 refine tk 5 (v:=U (c64 blk)) (hi:=rfl) (fun w h=>by exact R_toU (E:=env) rfl rfl rfl) ?_
 refine tka 6 ?_
 refine tk 7 (v:=U (c64 id)) (hi:=rfl) (fun w h=>by exact R_toU (E:=env) rfl rfl rfl) ?_
 refine t1 8 ?_
 refine ca (RSeeded_tr _ _ _) ?_
 rintro _ _ ⟨lb,rfl,rfl⟩
 refine nl ?_
 refine te (fun w hw=>pt_at memA hw) ?_
 refine t1 9 ?_
 refine ca (RRwSet_tr t.sum k cv ov (alF t).cut (alF t).oth lb _ hc ho g1 (by omega) hz) ?_
 rintro _ _ ⟨o,st',u,rfl,rfl⟩
 refine nl ?_
 refine te (fun w hw=>pt_at memA hw) ?_
 refine tka 10 ?_
 refine tka 11 ?_
 refine tka 12 ?_
 refine tka 13 ?_
 refine t0 ?_
 repeat' first|refine xc ?_|refine rt ?_
 exact r2 ⟨o,rfl,rfl⟩
end Go.Art
namespace Go.Art
open Go Go.Proofs Go.RowKit
attribute [local irreducible] Fit pt own ro vw mpc lpt vels rels mow lrc dfr
attribute [local irreducible] lmp lme mit velg relg bnd owl
theorem RSum_tr (s sv:Value) (hs:List Value) (ls:List (List Int)) (is:List Int) (hE:blkE ls = 0) (hr:Rise is ls.length) (hne:0 < is.length):Tr Tryz.prog 141 [s,sv] [vw s hs,velg y8 hs ls,vw sv (Is is)] []
  fun v D=>∃ o,v = tup2 o (I 0)∧o.oneCell' = true∧D = [own TyB o (By (sumL ls is))]:=by
 obtain ⟨hk,hsz,hal⟩:=blkE_zero hE
 have hC:=RBCheck_tr s hs ls
 rw [hE] at hC
 have hz:(List.replicate (ls.getD 0 []).length (0:Int)).length = (ls.getD 0 []).length:=List.length_replicate ..
 have hlen:=sumI_len (is:=is) hr hal hz
 unfold sumL
 generalize hS:List.replicate (ls.getD 0 []).length (0:Int) = Z at *
 refine Tr.enter env _ Tryz.func141 (by kernel_rfl) rfl Tryz.ntmps141 rfl (by repeat (first | exact has00 | refine has01 ?_)) fun w0=>?_
 refine TC.leni (v:=sv) (l:=is) fun hil=>?_
 refine TC.elg (g:=y8) (hs:=hs) (ls:=ls) (fun hl=>?_)
 refine TC.fact (vw_len (v:=s) (xs:=hs) hasA) fun hsl=>?_
 repeat' first|(refine gca ?_;first|(refine ca hC ?_;rintro _ _ ⟨rfl,rfl⟩))|refine lnm (l:=ls.getD 0 []) ?_ (hh:=has_elg (has_velg memA) (by omega))|(refine mkb fun o=>?_;rw [Int.toNat_natCast,hS];refine TO.one (v:=o) (xs:=By Z) fun ho=>?_)|(refine wo ?_;first|(refine ao ?_;first|refine oa ?_)|refine oa ?_|refine lnm ?_|refine lv ?_|refine ix ?_)|(refine gc ?_;first|refine cf ?_|(refine ci (fun hB=>?_) (fun hB=>?_) <;> try (exfalso;omega)))|refine sq ?_|refine rg ?_|refine xc ?_|refine nl ?_|refine sk ?_|refine bk ?_
 refine TC.loop (ι:=Nat × Value) (fun g=>[(7,I g.1),(6,g.2)]) (fun g=>[own TyB g.2 (By (sumI ls is Z g.1))]) (fun g=>g.1 ≤ is.length∧g.2.oneCell' = true) (fun g=>is.length - g.1) (0,o) [0,1] ⟨Nat.zero_le _,ho⟩ ?_ (hf:=by dsimp only;exact fitA)
 rintro ⟨i,o2⟩ ⟨hi,ho2⟩
 dsimp only at hi ho2 ⊢
 by_cases hlt:i < is.length
 ·have hxr:=hr.lt _ (mem_getD.2 ⟨i,hlt,rfl⟩)
  have hup:=hr.up i hlt
  have hsI:sumI ls is Z (i + 1) = xorL (sumI ls is Z i) (ls.getD (is.getD i 0).toNat []):=rfl
  have hSl:=hlen i (by omega)
  unfold lastOf at hup
  have hel:=hal (ls.getD (is.getD i 0).toNat []) (getD_memL (by omega))
  generalize sumI ls is Z i = S0 at *
  cases i with
  | zero=>
   generalize hx:is.getD 0 0 = x at *
   have hX:=RXor_tr o2 (hs.getD x.toNat nS) S0 (ls.getD x.toNat []) (by omega) (by omega)
   repeat' first|(refine gca ?_;first|(refine ca hX ?_ (hp:=has1 hasA (has1 (has_elg (has_velg memA) (by omega)) has0));rintro _ _ ⟨o3,rfl,ho3,rfl⟩))|refine qlie hx ?_|refine lie hx ?_|(refine wo ?_;first|(refine ao ?_;first|refine aw ?_|refine oa ?_)|refine oa ?_|refine lnm ?_|refine ixmn ?_|refine lv ?_|refine ix ?_)|(refine gc ?_;first|refine cf ?_|(refine ci (fun hB=>?_) (fun hB=>?_) <;> try (exfalso;omega)))|refine sq ?_|refine rg ?_|refine xc ?_|refine nl ?_|refine sk ?_|refine bk ?_|refine xb ?_|refine rq ?_|refine nq ?_|(refine wq ?_;first|(refine qao ?_;first|refine qa ?_)|refine qa ?_|refine qixmn ?_|refine qln ?_|refine qgy ?_|refine qgn ?_|(refine qgsi (fun hB=>?_) (fun hB=>?_) <;> try (exfalso;omega)))
   exact lp (0 + 1,o3) ⟨by dsimp only;omega,ho3⟩ (hf:=by dsimp only;rw [hsI];exact fitA)
  | succ j=>
   rw [if_neg (by omega),Nat.add_sub_cancel] at hup
   have e:((j + 1:Nat):Int) - 1 = (j:Int):=by omega
   have hj:j < is.length:=by omega
   generalize hx:is.getD (j + 1) 0 = x at *
   generalize hy:is.getD j 0 = y at *
   have hX:=RXor_tr o2 (hs.getD x.toNat nS) S0 (ls.getD x.toNat []) (by omega) (by omega)
   repeat' first|(refine gca ?_;first|(refine ca hX ?_ (hp:=has1 hasA (has1 (has_elg (has_velg memA) (by omega)) has0));rintro _ _ ⟨o3,rfl,ho3,rfl⟩))|refine qlie hx ?_|refine qlie hy ?_|(refine qaw (m:=(j:Int)) ?_ (h:=by rw [← e];rfl))|refine lie hx ?_|(refine wo ?_;first|(refine ao ?_;first|refine aw ?_|refine oa ?_)|refine oa ?_|refine lnm ?_|refine ixmn ?_|refine lv ?_|refine ix ?_)|(refine gc ?_;first|(refine ci (fun hB=>?_) (fun hB=>?_) <;> try (exfalso;omega)))|refine sq ?_|refine rg ?_|refine xc ?_|refine nl ?_|refine sk ?_|refine bk ?_|refine xb ?_|refine rq ?_|refine nq ?_|(refine wq ?_;first|(refine qao ?_;first|refine qa ?_)|refine qa ?_|refine qixmn ?_|refine qln ?_|refine qgy ?_|(refine qgsi (fun hB=>?_) (fun hB=>?_) <;> try (exfalso;omega)))
   exact lp (j + 1 + 1,o3) ⟨by dsimp only;omega,ho3⟩ (hf:=by dsimp only;rw [hsI];exact fitA)
 ·obtain rfl:i = is.length:=by omega
  repeat' first|(refine wo ?_;first|(refine ao ?_;first|refine oa ?_)|refine oa ?_|refine lnm ?_)|(refine gc ?_;first|(refine ci (fun hB=>?_) (fun hB=>?_) <;> try (exfalso;omega)))|refine sq ?_|refine rg ?_|refine xc ?_|refine nl ?_|refine xe ?_|refine rt ?_
  exact r2 ⟨o2,rfl,ho2,rfl⟩
theorem blkE_cases (ls:List (List Int)):blkE ls = 0∨blkE ls = 2:=by
 unfold blkE
 split
 ·exact .inr rfl
 ·split
  ·exact .inr rfl
  ·exact .inl rfl
abbrev TRe:TypeId:=180
theorem RNew19_tr (s sv:Value) (hs:List Value) (ls:List (List Int)) (t:List Int) (seed blk:Int) (h1:s.oneCell' = true) (h2:sv.oneCell' = true):Tr Tryz.prog 102 [s,sv,I seed,I blk] [vw s hs,velg y8 hs ls,vw sv (Is t)] []
  fun v D=>(newE t blk ls = 0∧∃ b,v = tup2 (ptr b) (I 0)∧D = [pt b [s,sv,I seed,I blk] TRe])∨(newE t blk ls ≠ 0∧v = tup2 nP (I (newE t blk ls))∧D = []):=by
 have hC:=RBCheck_tr s hs ls
 have hT:=RSoCheck_tr sv t ls.length
 have hN:=rnumber_tr blk
 by_cases hb:blkE ls = 0
 rotate_left
 ·have hb2:blkE ls = 2:=(blkE_cases ls).resolve_left hb
  rw [show newE t blk ls = blkE ls from if_neg hb,hb2]
  rw [hb2] at hC
  refine Tr.enter env _ Tryz.func102 (by kernel_rfl) rfl Tryz.ntmps102 rfl (by repeat (first | exact has00 | refine has01 ?_)) fun w0=>?_
  repeat' first|(refine gca ?_;first|(refine ca hC ?_;rintro _ _ ⟨rfl,rfl⟩))|(refine wo ?_;first|(refine ao ?_;first|refine oa ?_)|refine oa ?_)|(refine gc ?_;first|refine ct ?_)|refine sq ?_|refine rg ?_|refine xc ?_|refine nl ?_|refine bk ?_|refine rt ?_
  exact r2 (.inr ⟨by decide,rfl,rfl⟩)
 rw [show newE t blk ls = smpE t ls.length blk from if_pos hb]
 rw [hb] at hC
 by_cases ht:solE t ls.length = 0
 rotate_left
 ·have ht2:solE t ls.length = 13:=(solE_cases _ _).resolve_left ht
  rw [show smpE t ls.length blk = 13 from if_neg ht]
  rw [ht2] at hT
  refine Tr.enter env _ Tryz.func102 (by kernel_rfl) rfl Tryz.ntmps102 rfl (by repeat (first | exact has00 | refine has01 ?_)) fun w0=>?_
  refine TC.elg (g:=y8) (hs:=hs) (ls:=ls) (fun hl=>?_)
  rw [← hl] at hT
  repeat' first|(refine gca ?_;first|(refine ca hC ?_;rintro _ _ ⟨rfl,rfl⟩)|(refine ca hT ?_;rintro _ _ ⟨rfl,rfl⟩))|(refine wo ?_;first|(refine ao ?_;first|refine oa ?_)|refine oa ?_|refine ln ?_)|(refine gc ?_;first|refine ct ?_|refine cf ?_)|refine sq ?_|refine rg ?_|refine xc ?_|refine nl ?_|refine bk ?_|refine rt ?_
  exact r2 (.inr ⟨by decide,rfl,rfl⟩)
 rw [show smpE t ls.length blk = if numOk blk then 0 else 3 from if_pos ht]
 rw [ht] at hT
 by_cases hn:numOk blk
 rotate_left
 ·rw [if_neg hn]
  rw [decide_eq_false hn] at hN
  refine Tr.enter env _ Tryz.func102 (by kernel_rfl) rfl Tryz.ntmps102 rfl (by repeat (first | exact has00 | refine has01 ?_)) fun w0=>?_
  refine TC.elg (g:=y8) (hs:=hs) (ls:=ls) (fun hl=>?_)
  rw [← hl] at hT
  repeat' first|(refine gca ?_;first|(refine ca hC ?_;rintro _ _ ⟨rfl,rfl⟩)|(refine ca hT ?_;rintro _ _ ⟨rfl,rfl⟩)|(refine ca hN ?_;rintro _ _ ⟨rfl,rfl⟩))|(refine wo ?_;first|(refine ao ?_;first|refine oa ?_)|refine oa ?_|refine ln ?_)|(refine gc ?_;first|refine ct ?_|refine cf ?_)|refine sq ?_|refine rg ?_|refine xc ?_|refine nl ?_|refine bk ?_|refine rt ?_
  exact r2 (.inr ⟨by decide,rfl,rfl⟩)
 rw [if_pos hn]
 rw [decide_eq_true hn] at hN
 refine Tr.enter env _ Tryz.func102 (by kernel_rfl) rfl Tryz.ntmps102 rfl (by repeat (first | exact has00 | refine has01 ?_)) fun w0=>?_
 refine TC.elg (g:=y8) (hs:=hs) (ls:=ls) (fun hl=>?_)
 rw [← hl] at hT
 repeat' first|(refine gca ?_;first|(refine ca hC ?_;rintro _ _ ⟨rfl,rfl⟩)|(refine ca hT ?_;rintro _ _ ⟨rfl,rfl⟩)|(refine ca hN ?_;rintro _ _ ⟨rfl,rfl⟩))|refine bdz ?_|refine bx fun b=>?_|(refine wo ?_;first|(refine ao ?_;first|refine oa ?_)|refine oa ?_|refine ln ?_)|(refine gc ?_;first|refine cf ?_)|refine sq ?_|refine rg ?_|refine xc ?_|refine nl ?_|refine sk ?_|refine bk ?_|refine rt ?_|refine xb ?_
 exact r2 (.inl ⟨rfl,b,rfl,rfl⟩)
theorem setof_new {t:List Int} {seed blk id:Int} {ls:List (List Int)} (hE:newE t blk ls = 0):setofR t ls.length seed blk id = setW t ls.length seed blk id:=by
 obtain ⟨h1,h2,h3⟩:=newE_zero hE
 unfold setofR smpE
 rw [if_pos h2,if_pos h3];rfl
theorem RSet19_tr (b:Nat) (s sv:Value) (hs:List Value) (ls:List (List Int)) (t:List Int) (seed blk id:Int) (hE:newE t blk ls = 0):Tr Tryz.prog 140 [ptr b,I id] [lpt b [s,sv,I seed,I blk] TRe,vw s hs,velg y8 hs ls,vw sv (Is t)] []
  fun v D=>∃ o,v = tup2 o (I (setW t ls.length seed blk id).2)∧D = [own 3 o (Is (setW t ls.length seed blk id).1)]:=by
 have hS:=RSetOf_tr sv t ls.length seed blk id
 rw [setof_new hE] at hS
 refine Tr.enter env _ Tryz.func140 (by kernel_rfl) rfl Tryz.ntmps140 rfl (by repeat (first | exact has00 | refine has01 ?_)) fun w0=>?_
 refine TC.elg (g:=y8) (hs:=hs) (ls:=ls) (fun hl=>?_)
 refine TC.fact (vw_len (v:=s) (xs:=hs) hasA) fun h3=>?_
 rw [← hl] at hS ⊢
 repeat' first|(refine wo ?_;first|refine oa ?_)|refine sq ?_|refine rg ?_|refine xc ?_|refine nl ?_
 refine rs (id:=1) (fun w=>w.heap[b]? = some (.cells #[s,sv,I seed,I blk] TRe (0,0))∧Sl w s hs) ?_ (fun w hw=>⟨lpt_at memA hw,has_sl hw hasA⟩)
 refine tka 0 ?_
 refine tka 1 ?_
 refine tka 2 ?_
 refine tkl 3 (cs:=[s,sv,I seed,I blk]) (fun w h=>h.1) ?_
 refine tka 4 ?_
 refine tka 5 ?_
 refine tka 6 ?_
 refine tkl 7 (cs:=[s,sv,I seed,I blk]) (fun w h=>h.1) ?_
 refine tk 8 (v:=I hs.length) (hi:=rfl) (fun w h=>by exact R_len (E:=env) rfl rfl h.2) ?_
 refine tka 9 ?_
 refine tka 10 ?_
 refine tka 11 ?_
 refine tkl 12 (cs:=[s,sv,I seed,I blk]) (fun w h=>h.1) ?_
 refine tka 13 ?_
 refine tka 14 ?_
 refine tka 15 ?_
 refine tkl 16 (cs:=[s,sv,I seed,I blk]) (fun w h=>h.1) ?_
 refine tka 17 ?_
 refine t1 18 ?_
 refine ca hS ?_
 rintro _ _ ⟨o,rfl,rfl⟩
 refine nl ?_
 refine te (fun w hw=>⟨lpt_at memA hw,has_sl hw hasA⟩) ?_
 refine tka 19 ?_
 refine tka 20 ?_
 refine tka 21 ?_
 refine tka 22 ?_
 refine t0 ?_
 repeat' first|refine xc ?_|refine rt ?_
 exact r2 ⟨o,rfl,rfl⟩
theorem RPacket19_tr (b:Nat) (s sv:Value) (hs:List Value) (ls:List (List Int)) (t:List Int) (seed blk id:Int) (hE:newE t blk ls = 0):Tr Tryz.prog 103 [ptr b,I id] [lpt b [s,sv,I seed,I blk] TRe,vw s hs,velg y8 hs ls,vw sv (Is t)] []
  fun v D=>∃ o,v = tup2 o (I (pktW t ls seed blk id).2)∧o.oneCell' = true∧D = [own TyB o (By (pktW t ls seed blk id).1)]:=by
 obtain ⟨hb0,hs0,hn0⟩:=newE_zero hE
 obtain ⟨hz,hr,hl1,hl2⟩:=setR_ok hs0 (seedOf (c64 seed) (c64 blk) (c64 id))
 change Rise (setT t ls.length seed blk id) ls.length at hr
 change 1 ≤ (setT t ls.length seed blk id).length∧_ at hl1
 have hS:=RSet19_tr b s sv hs ls t seed blk id hE
 by_cases hn:numOk id
 ·rw [show pktW t ls seed blk id = (sumL ls (setT t ls.length seed blk id),0) from if_pos hn]
  rw [show setW t ls.length seed blk id = (setT t ls.length seed blk id,0) from if_pos hn] at hS
  generalize setT t ls.length seed blk id = is at *
  refine Tr.enter env _ Tryz.func103 (by kernel_rfl) rfl Tryz.ntmps103 rfl (by repeat (first | exact has00 | refine has01 ?_)) fun w0=>?_
  repeat' first|(refine gca ?_;first|(refine ca hS ?_;rintro _ _ ⟨o,rfl,rfl⟩)|(refine ca (RSum_tr s o hs ls is hb0 hr (by omega)) ?_;rintro _ _ ⟨q,rfl,hq,rfl⟩))|(refine wo ?_;first|(refine ao ?_;first|refine oa ?_)|refine oa ?_|refine ldl ?_)|(refine gc ?_;first|refine cf ?_)|refine sq ?_|refine rg ?_|refine xc ?_|refine nl ?_|refine sk ?_|refine rt ?_
  exact r2 ⟨q,rfl,hq,rfl⟩
 ·rw [show pktW t ls seed blk id = ([],3) from if_neg hn]
  rw [show setW t ls.length seed blk id = ([],3) from if_neg hn] at hS
  refine Tr.enter env _ Tryz.func103 (by kernel_rfl) rfl Tryz.ntmps103 rfl (by repeat (first | exact has00 | refine has01 ?_)) fun w0=>?_
  repeat' first|(refine gca ?_;first|(refine ca hS ?_;rintro _ _ ⟨o,rfl,rfl⟩))|(refine wo ?_;first|(refine ao ?_;first|refine oa ?_)|refine oa ?_)|(refine gc ?_;first|refine ct ?_)|refine sq ?_|refine rg ?_|refine xc ?_|refine nl ?_|refine rt ?_
  refine TX.im (own_nil TyB _) ?_
  exact r2 ⟨nS,rfl,rfl,rfl⟩
end Go.Art
set_option maxRecDepth 2000
namespace Go.Art.Sn
open Go Go.Proofs Go.RowKit Go.Art
structure RH where
 tv:Value
 dv:Value
 dn:Value
 sn:Value
structure RH.ok (h:RH):Prop where
 tv:h.tv.oneCell' = true
 dv:h.dv.oneCell' = true
attribute [local irreducible] Fit pt own ro vw mpc lpt vels rels mow lrc dfr
attribute [local irreducible] lmp lme mit velg relg bnd owl
abbrev TRS:TypeId:=73
abbrev TRI:TypeId:=3
abbrev rsP (p:Nat) (h:RH) (s:SP):List Ch:=[pt p [I s.m.size,I s.m.sym,I s.m.k,I s.m.seed,h.tv,h.dv,I s.ses,I s.bud,I s.tmo,I s.st,h.dn,h.sn,I s.last,I s.sil] TRS,own TyO h.dn (Bo s.ack),own TRI h.sn (Is s.sent)]
abbrev rsL (h:RH) (s:SP):List Ch:=[vw h.tv (Is s.m.t),vw h.dv (By s.d)]
theorem Ralive_tr (p:Nat) (x0 x1 x2 x3 x4 x5 x7 x8 x10 x11 x12 x13:Value) (ses st:Int):Tr Tryz.prog 67 [ptr p] [lpt p [x0,x1,x2,x3,x4,x5,I ses,x7,x8,I st,x10,x11,x12,x13] TRS] [] fun v D=>v = .bool (decide (st = 1) || decide (st = 2))∧D = []:=by
 by_cases h:st = 1
 ·rw [decide_eq_true h]
  refine Tr.enter env _ Tryz.func67 (by kernel_rfl) rfl Tryz.ntmps67 rfl (by repeat (first | exact has00 | refine has01 ?_)) fun w0=>?_
  repeat' first|(refine wo ?_;first|(refine ao ?_;first|refine oa ?_)|refine oa ?_|refine ldl ?_|refine gn ?_|(refine gsi (fun hB=>?_) (fun hB=>?_) <;> try (exfalso;omega)))|refine sq ?_|refine rg ?_|refine xc ?_|refine nl ?_|refine rt ?_
  exact r1 ⟨rfl,rfl⟩
 ·rw [decide_eq_false h]
  refine Tr.enter env _ Tryz.func67 (by kernel_rfl) rfl Tryz.ntmps67 rfl (by repeat (first | exact has00 | refine has01 ?_)) fun w0=>?_
  repeat' first|(refine wo ?_;first|(refine ao ?_;first|refine oa ?_)|refine oa ?_|refine ldl ?_|refine gy ?_|(refine gsi (fun hB=>?_) (fun hB=>?_) <;> try (exfalso;omega)))|refine sq ?_|refine rg ?_|refine xc ?_|refine nl ?_|refine rt ?_
  exact r1 ⟨rfl,rfl⟩
theorem Rsends_tr (p:Nat) (x0 x1 x2 x3 x4 x5 x7 x8 x10 x11 x12 x13:Value) (ses st kd sn bn pn rn:Int) (dv:Value) (l:List Int) (hd:dv.oneCell' = true) (hok:pkOk kd ses bn pn rn l.length) :
  Tr Tryz.prog 99 [ptr p,.agg #[I kd,I sn,I bn,I pn,I rn,dv]] [lpt p [x0,x1,x2,x3,x4,x5,I ses,x7,x8,I st,x10,x11,x12,x13] TRS,vw dv (By l)] []
   fun v D=>∃ o1,v.oneCell' = true∧D = [own TyV v [o1],owl TyB y8 [o1] [(putR kd ses bn pn rn l).1]]:=by
 have hP:=RPut11_tr kd ses bn pn rn dv l hd
 rw [show (putR kd ses bn pn rn l).2 = 0 by unfold putR;rw [if_pos hok]] at hP
 generalize (putR kd ses bn pn rn l).1 = B at *
 refine Tr.enter env _ Tryz.func99 (by kernel_rfl) rfl Tryz.ntmps99 rfl (by repeat (first | exact has00 | refine has01 ?_)) fun w0=>?_
 repeat' first|(refine gca ?_;first|(refine ca hP ?_;rintro _ _ ⟨o1,rfl,ho1,rfl⟩))|refine bx fun b=>?_|refine lda ?_|(refine sli (vs:=[o1]) (fun q1=>?_) (h1:=one_cons ho1 one_nil);refine TO.one (v:=q1) (xs:=[o1]) fun hq1=>?_)|(refine wo ?_;first|(refine ao ?_;first|refine oa ?_)|refine oa ?_|refine ldl ?_|refine sr ?_)|(refine gc ?_;first|refine cf ?_)|refine sq ?_|refine rg ?_|refine xc ?_|refine nl ?_|refine sk ?_|refine rt ?_
 refine TX.im (one_outO (o:=q1) (o1:=o1) (l:=B) fitA) ?_
 exact r1 ⟨o1,hq1,rfl⟩
theorem Rabort_tr (p:Nat) (x0 x1 x2 x3 x4 x5 x7 x8 x10 x11 x12 x13:Value) (ses st:Int) (hs:0 ≤ ses∧ses ≤ 4294967295) :
  Tr Tryz.prog 68 [ptr p] [lpt p [x0,x1,x2,x3,x4,x5,I ses,x7,x8,I st,x10,x11,x12,x13] TRS] []
   fun v D=>∃ o1,v.oneCell' = true∧D = [own TyV v [o1],owl TyB y8 [o1] [(putR 4 ses 0 0 (if st = 4 then 1 else 2) []).1]]:=by
 have h1:=Rsends_tr p x0 x1 x2 x3 x4 x5 x7 x8 x10 x11 x12 x13 ses st 4 0 0 0 1 nS [] rfl (ab_ok hs (.inl rfl))
 have h2:=Rsends_tr p x0 x1 x2 x3 x4 x5 x7 x8 x10 x11 x12 x13 ses st 4 0 0 0 2 nS [] rfl (ab_ok hs (.inr rfl))
 by_cases h:st = 4
 ·rw [if_pos h]
  generalize (putR 4 ses 0 0 1 []).1 = B at *
  refine Tr.enter env _ Tryz.func68 (by kernel_rfl) rfl Tryz.ntmps68 rfl (by repeat (first | exact has00 | refine has01 ?_)) fun w0=>?_
  repeat' first|(refine gca ?_;first|(refine ca h1 ?_;rintro v _ ⟨o1,hv,rfl⟩))|refine bdz ?_|(refine wo ?_;first|(refine ao ?_;first|refine oa ?_)|refine oa ?_|refine ldl ?_)|(refine gc ?_;first|(refine ci (fun hB=>?_) (fun hB=>?_) <;> try (exfalso;omega)))|refine sq ?_|refine rg ?_|refine xc ?_|refine nl ?_|refine rt ?_
  exact r1 ⟨o1,hv,rfl⟩
 ·rw [if_neg h]
  generalize (putR 4 ses 0 0 2 []).1 = B at *
  refine Tr.enter env _ Tryz.func68 (by kernel_rfl) rfl Tryz.ntmps68 rfl (by repeat (first | exact has00 | refine has01 ?_)) fun w0=>?_
  repeat' first|(refine gca ?_;first|(refine ca h2 ?_;rintro v _ ⟨o1,hv,rfl⟩))|refine bdz ?_|(refine wo ?_;first|(refine ao ?_;first|refine oa ?_)|refine oa ?_|refine ldl ?_)|(refine gc ?_;first|(refine ci (fun hB=>?_) (fun hB=>?_) <;> try (exfalso;omega)))|refine sq ?_|refine rg ?_|refine xc ?_|refine nl ?_|refine sk ?_|refine rt ?_
  exact r1 ⟨o1,hv,rfl⟩
theorem op_ok {m:MfS} {ses:Int} (hok:m.ok) (hs:0 ≤ ses∧ses ≤ 4294967295):pkOk 5 ses 0 0 0 m.bytes.length:=by
 have hl:=bytes_len m
 have ht:=(mtB_sol hok.2.2.1 hok.2.2.2.2).2
 refine pk5.2 ⟨hs,rfl,rfl,by omega,rfl⟩
theorem Ropen_tr (p:Nat) (m:MfS) (tv:Value) (x5 x7 x8 x10 x11 x12 x13:Value) (ses st:Int) (hs:0 ≤ ses∧ses ≤ 4294967295) (hok:m.ok) (hsd:m.seed ≤ 9223372036854775807) (hv:tv.oneCell' = true) :
  Tr Tryz.prog 69 [ptr p] [lpt p [I m.size,I m.sym,I m.k,I m.seed,tv,x5,I ses,x7,x8,I st,x10,x11,x12,x13] TRS,vw tv (Is m.t)] []
   fun v D=>∃ o1,v.oneCell' = true∧D = [own TyV v [o1],owl TyB y8 [o1] [(putR 5 ses 0 0 0 m.bytes).1]]:=by
 have hP:=RMPut_tr m tv hv hsd
 rw [if_pos hok,show mfE m = 0 from if_pos hok] at hP
 have h1:=fun ov ho=>Rsends_tr p (I m.size) (I m.sym) (I m.k) (I m.seed) tv x5 x7 x8 x10 x11 x12 x13 ses st 5 0 0 0 0 ov m.bytes ho (op_ok hok hs)
 generalize (putR 5 ses 0 0 0 m.bytes).1 = B at *
 generalize m.bytes = MB at *
 refine Tr.enter env _ Tryz.func69 (by kernel_rfl) rfl Tryz.ntmps69 rfl (by repeat (first | exact has00 | refine has01 ?_)) fun w0=>?_
 repeat' first|(refine gca ?_;first|(refine ca hP ?_;rintro _ _ ⟨ov,rfl,hov,rfl⟩)|(refine ca (h1 ov hov) ?_;rintro v _ ⟨o1,hv1,rfl⟩))|refine bdz ?_|refine ldla ?_|(refine wo ?_;first|refine oa ?_)|refine sq ?_|refine rg ?_|refine xc ?_|refine nl ?_|refine rt ?_
 exact r1 ⟨o1,hv1,rfl⟩
theorem RAcked_tr (p:Nat) (x0 x1 x2 x3 x4 x5 x7 x8 dn x11 x12 x13:Value) (ses st:Int) (l:List Bool) (hl:l.length ≤ 1099511627776):Tr Tryz.prog 39 [ptr p] [lpt p [x0,x1,x2,x3,x4,x5,I ses,x7,x8,I st,dn,x11,x12,x13] TRS,vw dn (Bo l)] [] fun v D=>v = I (ackN l l.length)∧D = []:=by
 have hbl:=Bo_len l
 refine Tr.enter env _ Tryz.func39 (by kernel_rfl) rfl Tryz.ntmps39 rfl (by repeat (first | exact has00 | refine has01 ?_)) fun w0=>?_
 repeat' first|(refine wo ?_;first|refine oa ?_)|refine sq ?_|refine rg ?_|refine xc ?_|refine nl ?_|refine bk ?_
 refine TC.loop (ι:=Nat) (fun i=>[(4,I i),(3,I (ackN l i))]) (fun _=>[]) (fun i=>i ≤ l.length) (fun i=>l.length - i) 0 [0] (Nat.zero_le _) ?_ (hf:=by exact fitA)
 intro i hi
 have hle:=ackN_le l i
 by_cases hlt:i < l.length
 ·have hs:ackN l (i + 1) = ackN l i + if l.getD i false then 1 else 0:=rfl
  cases hd:l.getD i false
  ·rw [hd,if_neg (by decide),Nat.add_zero] at hs
   repeat' first|(refine ln (xs:=Bo l) ?_;rw [hbl])|(refine lbo (l:=l) ?_;rw [hd])|(refine wo ?_;first|(refine ao ?_;first|refine aw ?_|refine oa ?_)|refine oa ?_|refine ldl ?_|refine ixmn ?_)|(refine gc ?_;first|refine cf ?_|(refine ci (fun hB=>?_) (fun hB=>?_) <;> try (exfalso;omega)))|refine sq ?_|refine rg ?_|refine xc ?_|refine nl ?_|refine sk ?_|refine bk ?_|refine xb ?_
   exact lp (i + 1) hlt (by omega) (hs:=by rw [hs];(repeat (refine Sub.cons rfl (by first | rfl | go_num) ?_));exact Sub.nil) (hf:=by exact fitA)
  ·rw [hd,if_pos rfl] at hs
   repeat' first|(refine ln (xs:=Bo l) ?_;rw [hbl])|(refine lbo (l:=l) ?_;rw [hd])|(refine wo ?_;first|(refine ao ?_;first|refine aw ?_|refine oa ?_)|refine oa ?_|refine ldl ?_|refine ixmn ?_)|(refine gc ?_;first|refine ct ?_|(refine ci (fun hB=>?_) (fun hB=>?_) <;> try (exfalso;omega)))|refine sq ?_|refine rg ?_|refine xc ?_|refine nl ?_|refine sk ?_|refine bk ?_|refine xb ?_
   exact lp (i + 1) hlt (by omega) (hs:=by rw [hs];(repeat (refine Sub.cons rfl (by first | rfl | go_num) ?_));exact Sub.nil) (hf:=by exact fitA)
 ·obtain rfl:i = l.length:=by omega
  repeat' first|(refine ln (xs:=Bo l) ?_;rw [hbl])|(refine wo ?_;first|(refine ao ?_;first|refine oa ?_)|refine oa ?_|refine ldl ?_)|(refine gc ?_;first|(refine ci (fun hB=>?_) (fun hB=>?_) <;> try (exfalso;omega)))|refine sq ?_|refine rg ?_|refine xc ?_|refine nl ?_|refine xe ?_|refine rt ?_
  exact r1 ⟨rfl,rfl⟩
end Go.Art.Sn
set_option maxRecDepth 2000
namespace Go.Art.Sn
open Go Go.Proofs Go.RowKit Go.Art
attribute [local irreducible] Fit pt own ro vw mpc lpt vels rels mow lrc dfr
attribute [local irreducible] lmp lme mit velg relg bnd owl
set_option maxHeartbeats 4000000 in
theorem Rdata_tr (p:Nat) (h:RH) (s:SP) (hh:h.ok) (hf:s.fit) (a:Nat) (hto:turnO s.ack s.last = some a) (hb:0 < s.bud):Tr Tryz.prog 70 [ptr p] (rsL h s) (rsP p h s)
  fun v D=>∃ o1,v.oneCell' = true∧D = rsP p h { s with bud:=s.bud - 1,last:=a,sent:=s.sent.set a (s.sent.getD a 0 + 1) } ++ [own TyV v [o1],owl TyB y8 [o1] [(putR 1 s.ses a (s.sent.getD a 0) 0 (pktW s.m.t (s.m.syms s.d a) s.m.seed a (s.sent.getD a 0)).1).1]]:=by
 obtain ⟨hal,_⟩:=turnO_lt hto
 have hnb:=hf.nb
 have hn1:=hf.n1
 have hE:=enc_ok hf.mok s.d (n:=(a:Int)) (by omega)
 have hbi:=MfS.blocks_in hf.mok
 have hT:=RTurn_tr h.dn s.ack s.last (by have:=hf.last;omega) (by omega)
 rw [hto] at hT
 have hS:=RSymbols_tr s.m h.tv h.dv s.d (a:Int) hh.tv hf.mok hf.dl (by omega)
 have hN:∀ o2 hs,o2.oneCell' = true→Tr Tryz.prog 102 [o2,h.tv,I s.m.seed,I a] [vw o2 hs,velg y8 hs (s.m.syms s.d a),vw h.tv (Is s.m.t)] []
   fun v D=>∃ b,v = tup2 (ptr b) (I 0)∧D = [pt b [o2,h.tv,I s.m.seed,I a] TRe]:=fun o2 hs ho2=>by
  refine (RNew19_tr o2 h.tv hs (s.m.syms s.d a) s.m.t s.m.seed a ho2 hh.tv).mono ?_
  rintro v D (⟨_,b,rfl,rfl⟩ | ⟨hne,_,_⟩)
  ·exact ⟨b,rfl,rfl⟩
  ·exact absurd hE hne
 have hst:=hf.sent a
 have hP:=fun b o2 hs=>RPacket19_tr b o2 h.tv hs (s.m.syms s.d a) s.m.t s.m.seed a (s.sent.getD a 0) hE
 have hok:=data_ok hf.mok (d:=s.d) hf.ses (a:=(a:Int)) (id:=s.sent.getD a 0) (by omega) hE ⟨by omega,by omega⟩
 have hR:=fun (y7 y12:Value) (o3:Value) ho3=>Rsends_tr p (I s.m.size) (I s.m.sym) (I s.m.k) (I s.m.seed) h.tv h.dv y7 (I s.tmo) h.dn h.sn y12 (I s.sil) s.ses s.st 1 0 a (s.sent.getD a 0) 0 o3 (pktW s.m.t (s.m.syms s.d a) s.m.seed a (s.sent.getD a 0)).1 ho3 hok
 have hbu:=hf.bud
 have hsl:a < s.sent.length:=by omega
 generalize s.m.syms s.d a = sy at *
 generalize pktW s.m.t sy s.m.seed a (s.sent.getD a 0) = PW at *
 generalize hid:s.sent.getD a 0 = id at *
 generalize (putR 1 s.ses a id 0 PW.1).1 = B at *
 unfold turnV at hT
 dsimp only at hT
 refine Tr.enter env _ Tryz.func70 (by kernel_rfl) rfl Tryz.ntmps70 rfl (by repeat (first | exact has00 | refine has01 ?_)) fun w0=>?_
 refine TC.im (B:=[vw h.tv (Is s.m.t),vw h.dv (By s.d),pt p [I s.m.size,I s.m.sym,I s.m.k,I s.m.seed,h.tv,h.dv,I s.ses,I s.bud,I s.tmo,I s.st,h.dn,h.sn,I s.last,I s.sil] TRS,own TyO h.dn (Bo s.ack),own TRI h.sn (Is s.sent)]) (Im.refl _) ?_
 refine sq ?_
 refine rg ?_
 refine oa ?_
 refine nl ?_
 refine xc ?_
 refine sq ?_
 refine rs (fun w=>w.heap[p]? = some (.cells [I s.m.size,I s.m.sym,I s.m.k,I s.m.seed,h.tv,h.dv,I s.ses,I s.bud,I s.tmo,I s.st,h.dn,h.sn,I s.last,I s.sil].toArray TRS (0,0))) ?_ (fun w hw=>pt_at memA hw)
 refine tka 0 ?_
 refine tka 1 ?_
 refine tka 2 ?_
 refine tkl 3 (cs:=[I s.m.size,I s.m.sym,I s.m.k,I s.m.seed,h.tv,h.dv,I s.ses,I s.bud,I s.tmo,I s.st,h.dn,h.sn,I s.last,I s.sil]) (fun w h0=>h0) ?_
 refine tka 4 ?_
 refine tka 5 ?_
 refine tka 6 ?_
 refine tkl 7 (cs:=[I s.m.size,I s.m.sym,I s.m.k,I s.m.seed,h.tv,h.dv,I s.ses,I s.bud,I s.tmo,I s.st,h.dn,h.sn,I s.last,I s.sil]) (fun w h0=>h0) ?_
 refine t1 8 ?_
 refine ca hT ?_
 rintro _ _ ⟨rfl,rfl⟩
 refine nl ?_
 refine te (fun w hw=>pt_at memA hw) ?_
 refine tka 9 ?_
 refine tka 10 ?_
 refine tka 11 ?_
 refine tka 12 ?_
 refine tka 13 ?_
 refine t0 ?_
 skip
 refine xc ?_
 refine sq ?_
 refine rs (fun w=>w.heap[p]? = some (.cells [I s.m.size,I s.m.sym,I s.m.k,I s.m.seed,h.tv,h.dv,I s.ses,I s.bud,I s.tmo,I s.st,h.dn,h.sn,I s.last,I s.sil].toArray TRS (0,0))) ?_ (fun w hw=>pt_at memA hw)
 refine tka 0 ?_
 refine tka 1 ?_
 refine tka 2 ?_
 refine tk 3 (v:=.agg #[I s.m.size,I s.m.sym,I s.m.k,I s.m.seed,h.tv]) (hi:=rfl) (fun w h0=>by exact R_loadA (E:=env) (cs:=[I s.m.size,I s.m.sym,I s.m.k,I s.m.seed,h.tv,h.dv,I s.ses,I s.bud,I s.tmo,I s.st,h.dn,h.sn,I s.last,I s.sil]) (vs:=[I s.m.size,I s.m.sym,I s.m.k,I s.m.seed,h.tv]) rfl rfl rfl rfl h0 rfl rfl) ?_
 refine tka 4 ?_
 refine tka 5 ?_
 refine tka 6 ?_
 refine tkl 7 (cs:=[I s.m.size,I s.m.sym,I s.m.k,I s.m.seed,h.tv,h.dv,I s.ses,I s.bud,I s.tmo,I s.st,h.dn,h.sn,I s.last,I s.sil]) (fun w h0=>h0) ?_
 refine tka 8 ?_
 refine t1 9 ?_
 refine ca hS ?_
 rintro _ _ ⟨o2,hs,rfl,ho2,hhl,rfl⟩
 refine nl ?_
 refine te (fun w hw=>pt_at memA hw) ?_
 refine tka 10 ?_
 refine tka 11 ?_
 refine tka 12 ?_
 refine tka 13 ?_
 refine tka 14 ?_
 refine t0 ?_
 skip
 refine xc ?_
 refine sq ?_
 refine rs (fun w=>w.heap[p]? = some (.cells [I s.m.size,I s.m.sym,I s.m.k,I s.m.seed,h.tv,h.dv,I s.ses,I s.bud,I s.tmo,I s.st,h.dn,h.sn,I s.last,I s.sil].toArray TRS (0,0))) ?_ (fun w hw=>pt_at memA hw)
 refine tka 0 ?_
 refine tka 1 ?_
 refine tka 2 ?_
 refine tka 3 ?_
 refine tka 4 ?_
 refine tkl 5 (cs:=[I s.m.size,I s.m.sym,I s.m.k,I s.m.seed,h.tv,h.dv,I s.ses,I s.bud,I s.tmo,I s.st,h.dn,h.sn,I s.last,I s.sil]) (fun w h0=>h0) ?_
 refine tka 6 ?_
 refine tka 7 ?_
 refine tka 8 ?_
 refine tka 9 ?_
 refine tkl 10 (cs:=[I s.m.size,I s.m.sym,I s.m.k,I s.m.seed,h.tv,h.dv,I s.ses,I s.bud,I s.tmo,I s.st,h.dn,h.sn,I s.last,I s.sil]) (fun w h0=>h0) ?_
 refine tka 11 ?_
 refine t1 12 ?_
 refine ca (hN o2 hs ho2) ?_
 rintro _ _ ⟨b,rfl,rfl⟩
 refine nl ?_
 refine te (fun w hw=>pt_at memA hw) ?_
 refine tka 13 ?_
 refine tka 14 ?_
 refine tka 15 ?_
 refine tka 16 ?_
 refine tka 17 ?_
 refine t0 ?_
 skip
 repeat' first|(refine gca ?_;first|(refine ca (hP b o2 hs) ?_;rintro _ _ ⟨o3,rfl,ho3,rfl⟩)|(refine ca (hR _ _ o3 ho3) ?_;rintro v _ ⟨o1,hv,rfl⟩))|(refine lie hid ?_)|refine bdz ?_|refine al fun z=>?_|refine srz ?_|refine lda ?_|(refine wo ?_;first|(refine ao ?_;first|refine aw ?_)|refine oa ?_|refine ld ?_|refine ixmn ?_|refine sr ?_|refine soi ?_)|refine sq ?_|refine rg ?_|refine xc ?_|refine nl ?_|refine rt ?_
 exact r1 ⟨o1,hv,rfl⟩
end Go.Art.Sn
set_option maxRecDepth 2000
namespace Go.Art.Sn
open Go Go.Proofs Go.RowKit Go.Art
theorem sil_fit {s:SP} (hf:s.fit) (h:s.sil + 1 < s.tmo):({ s with sil:=s.sil + 1 }:SP).fit:=by
 obtain ⟨h1,h2,h3,h4,h5,h6,h7,h8,h9,h10,h11,h12⟩:=hf
 exact ⟨h1,h2,h3,h4,h5,h6,h7,h8,h9,⟨by dsimp only;omega,by dsimp only;omega⟩,h11,h12⟩
attribute [local irreducible] Fit pt own ro vw mpc lpt vels rels mow lrc dfr
attribute [local irreducible] lmp lme mit velg relg bnd owl
set_option maxHeartbeats 4000000 in
theorem RTick_tr (p:Nat) (h:RH) (s:SP) (hh:h.ok) (hf:s.fit):Tr Tryz.prog 31 [ptr p] (rsL h s) (rsP p h s)
  fun v D=>∃ o os,v = tup2 o (I 0)∧os.length = s.tick.2.length∧D = rsP p h s.tick.1 ++ [own TyV o os,owl TyB y8 os s.tick.2]:=by
 have hsl:=hf.sil
 have htm:=hf.tmo
 have hbu:=hf.bud
 have hbl:=Bo_len s.ack
 have hnb:=hf.nb
 have hob:=hf.ob
 have hbi:=MfS.blocks_in hf.mok
 by_cases ha:s.alive
 rotate_left
 ·rw [show s.tick = (s,[]) from if_neg ha]
  have hal:(decide (s.st = 1) || decide (s.st = 2)) = false:=by
   unfold SP.alive at ha
   rw [decide_eq_false (by omega),decide_eq_false (by omega)];rfl
  refine Tr.enter env _ Tryz.func31 (by kernel_rfl) rfl Tryz.ntmps31 rfl (by repeat (first | exact has00 | refine has01 ?_)) fun w0=>?_
  refine TC.im (B:=[vw h.tv (Is s.m.t),vw h.dv (By s.d),pt p [I s.m.size,I s.m.sym,I s.m.k,I s.m.seed,h.tv,h.dv,I s.ses,I s.bud,I s.tmo,I s.st,h.dn,h.sn,I s.last,I s.sil] TRS,own TyO h.dn (Bo s.ack),own TRI h.sn (Is s.sent)]) (Im.refl _) ?_
  repeat' first|(refine gca ?_;first|(refine ca (Ralive_tr p _ _ _ _ _ _ _ _ _ _ _ _ s.ses s.st) ?_;rintro _ _ ⟨rfl,rfl⟩;rw [hal]))|(refine wo ?_;first|refine oa ?_)|(refine gc ?_;first|refine ct ?_)|refine sq ?_|refine rg ?_|refine xc ?_|refine nl ?_|refine rt ?_
  refine TX.im (owl_nil (e:=TyB) (g:=y8) _) ?_
  refine TX.im (own_nil TyV _) ?_
  exact r2 ⟨nS,[],rfl,rfl,rfl⟩
 have hal:(decide (s.st = 1) || decide (s.st = 2)) = true:=by
  unfold SP.alive at ha
  rcases ha with ha | ha <;> simp [ha]
 by_cases ht:s.tmo ≤ s.sil + 1
 ·by_cases hb:s.bud = 0
  ·rw [show s.tick = ({ s with sil:=s.sil + 1,st:=4 },[(putR 4 s.ses 0 0 1 []).1]) by rw [SP.tick,if_pos ha,if_pos ht,if_pos hb,if_pos hb]]
   refine Tr.enter env _ Tryz.func31 (by kernel_rfl) rfl Tryz.ntmps31 rfl (by repeat (first | exact has00 | refine has01 ?_)) fun w0=>?_
   refine TC.im (B:=[vw h.tv (Is s.m.t),vw h.dv (By s.d),pt p [I s.m.size,I s.m.sym,I s.m.k,I s.m.seed,h.tv,h.dv,I s.ses,I s.bud,I s.tmo,I s.st,h.dn,h.sn,I s.last,I s.sil] TRS,own TyO h.dn (Bo s.ack),own TRI h.sn (Is s.sent)]) (Im.refl _) ?_
   repeat' first|(refine gca ?_;first|(refine ca (Ralive_tr p _ _ _ _ _ _ _ _ _ _ _ _ s.ses s.st) ?_;rintro _ _ ⟨rfl,rfl⟩;rw [hal])|(refine ca (Rabort_tr p _ _ _ _ _ _ _ _ _ _ _ _ s.ses _ hf.ses) ?_;rintro ov _ ⟨o1,hov,rfl⟩))|(refine wo ?_;first|(refine ao ?_;first|refine aw ?_|refine oa ?_)|refine oa ?_|refine ld ?_|refine sr ?_)|(refine gc ?_;first|refine cf ?_|(refine ci (fun hB=>?_) (fun hB=>?_) <;> try (exfalso;omega)))|refine sq ?_|refine rg ?_|refine xc ?_|refine nl ?_|refine sk ?_|refine bk ?_|refine rt ?_|refine rq ?_|refine nq ?_|(refine wq ?_;first|(refine qao ?_;first|refine qa ?_)|refine qa ?_|refine qld ?_)
   all_goals first | (exfalso;omega) | exact r2 ⟨ov,[o1],rfl,rfl,rfl⟩
  ·rw [show s.tick = ({ s with sil:=s.sil + 1,st:=5 },[(putR 4 s.ses 0 0 2 []).1]) by rw [SP.tick,if_pos ha,if_pos ht,if_neg hb,if_neg hb]]
   refine Tr.enter env _ Tryz.func31 (by kernel_rfl) rfl Tryz.ntmps31 rfl (by repeat (first | exact has00 | refine has01 ?_)) fun w0=>?_
   refine TC.im (B:=[vw h.tv (Is s.m.t),vw h.dv (By s.d),pt p [I s.m.size,I s.m.sym,I s.m.k,I s.m.seed,h.tv,h.dv,I s.ses,I s.bud,I s.tmo,I s.st,h.dn,h.sn,I s.last,I s.sil] TRS,own TyO h.dn (Bo s.ack),own TRI h.sn (Is s.sent)]) (Im.refl _) ?_
   repeat' first|(refine gca ?_;first|(refine ca (Ralive_tr p _ _ _ _ _ _ _ _ _ _ _ _ s.ses s.st) ?_;rintro _ _ ⟨rfl,rfl⟩;rw [hal])|(refine ca (Rabort_tr p _ _ _ _ _ _ _ _ _ _ _ _ s.ses _ hf.ses) ?_;rintro ov _ ⟨o1,hov,rfl⟩))|(refine wo ?_;first|(refine ao ?_;first|refine aw ?_|refine oa ?_)|refine oa ?_|refine ld ?_|refine sr ?_)|(refine gc ?_;first|refine cf ?_|(refine ci (fun hB=>?_) (fun hB=>?_) <;> try (exfalso;omega)))|refine sq ?_|refine rg ?_|refine xc ?_|refine nl ?_|refine sk ?_|refine bk ?_|refine rt ?_|refine rq ?_|refine nq ?_|(refine wq ?_;first|(refine qao ?_;first|refine qa ?_)|refine qa ?_|refine qld ?_)
   all_goals first | (exfalso;omega) | exact r2 ⟨ov,[o1],rfl,rfl,rfl⟩
 cases hto:turnO s.ack s.last with
 | none=>
  have hak:=(turn_ack s.ack s.last).1 hto
  rw [show s.tick = ({ s with sil:=s.sil + 1 },[(putR 5 s.ses 0 0 0 s.m.bytes).1]) by rw [SP.tick,if_pos ha,if_neg ht,hto,hob]]
  refine Tr.enter env _ Tryz.func31 (by kernel_rfl) rfl Tryz.ntmps31 rfl (by repeat (first | exact has00 | refine has01 ?_)) fun w0=>?_
  refine TC.im (B:=[vw h.tv (Is s.m.t),vw h.dv (By s.d),pt p [I s.m.size,I s.m.sym,I s.m.k,I s.m.seed,h.tv,h.dv,I s.ses,I s.bud,I s.tmo,I s.st,h.dn,h.sn,I s.last,I s.sil] TRS,own TyO h.dn (Bo s.ack),own TRI h.sn (Is s.sent)]) (Im.refl _) ?_
  repeat' first|(refine gca ?_;first|(refine ca (Ralive_tr p _ _ _ _ _ _ _ _ _ _ _ _ s.ses s.st) ?_;rintro _ _ ⟨rfl,rfl⟩;rw [hal])|(refine ca (Ropen_tr p s.m h.tv _ _ _ _ _ _ _ s.ses _ hf.ses hf.mok hf.seed hh.tv) ?_;rintro ov _ ⟨o1,hov,rfl⟩))|(refine qca (v:=I (ackN s.ack s.ack.length)) (RAcked_tr p _ _ _ _ _ _ _ _ h.dn _ _ _ s.ses s.st s.ack (by omega)) (fun u D hu=>hu) ?_)|(refine qln (xs:=Bo s.ack) ?_;rw [hbl])|(refine wo ?_;first|(refine ao ?_;first|refine aw ?_)|refine oa ?_|refine ld ?_|refine sr ?_)|(refine gc ?_;first|refine ct ?_|refine cf ?_|(refine ci (fun hB=>?_) (fun hB=>?_) <;> try (exfalso;omega)))|refine sq ?_|refine rg ?_|refine xc ?_|refine nl ?_|refine sk ?_|refine bk ?_|refine rt ?_|refine rq ?_|refine nq ?_|(refine wq ?_;first|(refine qao ?_;first|refine qa ?_)|refine qa ?_|refine qld ?_|refine qgy ?_|refine qgn ?_|(refine qgsi (fun hB=>?_) (fun hB=>?_) <;> try (exfalso;omega)))
  all_goals first | (exfalso;omega) | exact r2 ⟨ov,[o1],rfl,rfl,rfl⟩
 | some a=>
  have hak:¬ ackN s.ack s.ack.length = s.ack.length:=fun e=>by rw [(turn_ack s.ack s.last).2 e] at hto;cases hto
  by_cases h1:s.st = 1
  ·rw [show s.tick = ({ s with sil:=s.sil + 1 },[(putR 5 s.ses 0 0 0 s.m.bytes).1]) by rw [SP.tick,if_pos ha,if_neg ht,hto];dsimp only;rw [if_pos h1,hob]]
   refine Tr.enter env _ Tryz.func31 (by kernel_rfl) rfl Tryz.ntmps31 rfl (by repeat (first | exact has00 | refine has01 ?_)) fun w0=>?_
   refine TC.im (B:=[vw h.tv (Is s.m.t),vw h.dv (By s.d),pt p [I s.m.size,I s.m.sym,I s.m.k,I s.m.seed,h.tv,h.dv,I s.ses,I s.bud,I s.tmo,I s.st,h.dn,h.sn,I s.last,I s.sil] TRS,own TyO h.dn (Bo s.ack),own TRI h.sn (Is s.sent)]) (Im.refl _) ?_
   repeat' first|(refine gca ?_;first|(refine ca (Ralive_tr p _ _ _ _ _ _ _ _ _ _ _ _ s.ses s.st) ?_;rintro _ _ ⟨rfl,rfl⟩;rw [hal])|(refine ca (Ropen_tr p s.m h.tv _ _ _ _ _ _ _ s.ses _ hf.ses hf.mok hf.seed hh.tv) ?_;rintro ov _ ⟨o1,hov,rfl⟩))|(refine qca (v:=I (ackN s.ack s.ack.length)) (RAcked_tr p _ _ _ _ _ _ _ _ h.dn _ _ _ s.ses s.st s.ack (by omega)) (fun u D hu=>hu) ?_)|(refine qln (xs:=Bo s.ack) ?_;rw [hbl])|(refine wo ?_;first|(refine ao ?_;first|refine aw ?_)|refine oa ?_|refine ld ?_|refine sr ?_)|(refine gc ?_;first|refine ct ?_|refine cf ?_|(refine ci (fun hB=>?_) (fun hB=>?_) <;> try (exfalso;omega)))|refine sq ?_|refine rg ?_|refine xc ?_|refine nl ?_|refine sk ?_|refine bk ?_|refine rt ?_|refine rq ?_|refine nq ?_|(refine wq ?_;first|(refine qao ?_;first|refine qa ?_)|refine qa ?_|refine qld ?_|refine qgn ?_|(refine qgsi (fun hB=>?_) (fun hB=>?_) <;> try (exfalso;omega)))
   all_goals first | (exfalso;omega) | exact r2 ⟨ov,[o1],rfl,rfl,rfl⟩
  by_cases h2:0 < s.bud
  ·have hDa:=Rdata_tr p h { s with sil:=s.sil + 1 } hh (sil_fit hf (by omega)) a hto h2
   rw [show s.tick = ({ s with sil:=s.sil + 1,bud:=s.bud - 1,last:=a,sent:=s.sent.set a (s.sent.getD a 0 + 1) },[(putR 1 s.ses a (s.sent.getD a 0) 0 (pktW s.m.t (s.m.syms s.d a) s.m.seed a (s.sent.getD a 0)).1).1]) by rw [SP.tick,if_pos ha,if_neg ht,hto];dsimp only;rw [if_neg h1,if_pos h2]]
   refine Tr.enter env _ Tryz.func31 (by kernel_rfl) rfl Tryz.ntmps31 rfl (by repeat (first | exact has00 | refine has01 ?_)) fun w0=>?_
   refine TC.im (B:=[vw h.tv (Is s.m.t),vw h.dv (By s.d),pt p [I s.m.size,I s.m.sym,I s.m.k,I s.m.seed,h.tv,h.dv,I s.ses,I s.bud,I s.tmo,I s.st,h.dn,h.sn,I s.last,I s.sil] TRS,own TyO h.dn (Bo s.ack),own TRI h.sn (Is s.sent)]) (Im.refl _) ?_
   repeat' first|(refine gca ?_;first|(refine ca (Ralive_tr p _ _ _ _ _ _ _ _ _ _ _ _ s.ses s.st) ?_;rintro _ _ ⟨rfl,rfl⟩;rw [hal])|(refine ca (hDa) ?_;rintro ov _ ⟨o1,hov,rfl⟩))|(refine qca (v:=I (ackN s.ack s.ack.length)) (RAcked_tr p _ _ _ _ _ _ _ _ h.dn _ _ _ s.ses s.st s.ack (by omega)) (fun u D hu=>hu) ?_)|(refine qln (xs:=Bo s.ack) ?_;rw [hbl])|(refine wo ?_;first|(refine ao ?_;first|refine aw ?_|refine oa ?_)|refine oa ?_|refine ld ?_|refine sr ?_)|(refine gc ?_;first|refine cf ?_|(refine ci (fun hB=>?_) (fun hB=>?_) <;> try (exfalso;omega)))|refine sq ?_|refine rg ?_|refine xc ?_|refine nl ?_|refine sk ?_|refine bk ?_|refine rt ?_|refine rq ?_|refine nq ?_|(refine wq ?_;first|(refine qao ?_;first|refine qa ?_)|refine qa ?_|refine qld ?_|refine qgy ?_|(refine qgsi (fun hB=>?_) (fun hB=>?_) <;> try (exfalso;omega)))
   all_goals first | (exfalso;omega) | exact r2 ⟨ov,[o1],rfl,rfl,rfl⟩
  ·rw [show s.tick = ({ s with sil:=s.sil + 1 },[]) by rw [SP.tick,if_pos ha,if_neg ht,hto];dsimp only;rw [if_neg h1,if_neg h2]]
   refine Tr.enter env _ Tryz.func31 (by kernel_rfl) rfl Tryz.ntmps31 rfl (by repeat (first | exact has00 | refine has01 ?_)) fun w0=>?_
   refine TC.im (B:=[vw h.tv (Is s.m.t),vw h.dv (By s.d),pt p [I s.m.size,I s.m.sym,I s.m.k,I s.m.seed,h.tv,h.dv,I s.ses,I s.bud,I s.tmo,I s.st,h.dn,h.sn,I s.last,I s.sil] TRS,own TyO h.dn (Bo s.ack),own TRI h.sn (Is s.sent)]) (Im.refl _) ?_
   repeat' first|(refine gca ?_;first|(refine ca (Ralive_tr p _ _ _ _ _ _ _ _ _ _ _ _ s.ses s.st) ?_;rintro _ _ ⟨rfl,rfl⟩;rw [hal]))|(refine qca (v:=I (ackN s.ack s.ack.length)) (RAcked_tr p _ _ _ _ _ _ _ _ h.dn _ _ _ s.ses s.st s.ack (by omega)) (fun u D hu=>hu) ?_)|(refine qln (xs:=Bo s.ack) ?_;rw [hbl])|(refine wo ?_;first|(refine ao ?_;first|refine aw ?_|refine oa ?_)|refine oa ?_|refine ld ?_|refine sr ?_)|(refine gc ?_;first|refine cf ?_|(refine ci (fun hB=>?_) (fun hB=>?_) <;> try (exfalso;omega)))|refine sq ?_|refine rg ?_|refine xc ?_|refine nl ?_|refine sk ?_|refine bk ?_|refine rt ?_|refine xb ?_|refine rq ?_|refine nq ?_|(refine wq ?_;first|(refine qao ?_;first|refine qa ?_)|refine qa ?_|refine qld ?_|refine qgy ?_|(refine qgsi (fun hB=>?_) (fun hB=>?_) <;> try (exfalso;omega)))
   all_goals first | (exfalso;omega) | (refine TX.im (owl_nil (e:=TyB) (g:=y8) _) ?_;refine TX.im (own_nil TyV _) ?_;exact r2 ⟨nS,[],rfl,rfl,rfl⟩)
set_option maxHeartbeats 4000000 in
theorem RTake_tr (p:Nat) (h:RH) (s:SP) (hh:h.ok) (hf:s.fit) (b:Value) (l:List Int) (hl:l.length ≤ 1099511627776) (hin:inB l):Tr Tryz.prog 35 [ptr p,b] (vw b (By l) :: rsL h s) (rsP p h s)
  fun v D=>∃ o os,v = tup2 o (I (s.take l).2)∧os.length = (s.take l).1.2.length∧D = rsP p h (s.take l).1.1 ++ [own TyV o os,owl TyB y8 os (s.take l).1.2]:=by
 have hG:=RGet11_tr b l hl hin
 have hpk:=fun h=>pgetR_ok (l:=l) h
 have hbl:=Bo_len s.ack
 have hnb:=hf.nb
 have hbi:=MfS.blocks_in hf.mok
 unfold SP.take
 generalize pgetR l = G at *
 obtain ⟨⟨kd,sn,bn,pn,rn,bl⟩,e⟩:=G
 dsimp only at *
 by_cases he:e = 0
 rotate_left
 ·rw [if_neg he]
  refine Tr.enter env _ Tryz.func35 (by kernel_rfl) rfl Tryz.ntmps35 rfl (by repeat (first | exact has00 | refine has01 ?_)) fun w0=>?_
  refine TC.im (B:=[vw b (By l),vw h.tv (Is s.m.t),vw h.dv (By s.d),pt p [I s.m.size,I s.m.sym,I s.m.k,I s.m.seed,h.tv,h.dv,I s.ses,I s.bud,I s.tmo,I s.st,h.dn,h.sn,I s.last,I s.sil] TRS,own TyO h.dn (Bo s.ack),own TRI h.sn (Is s.sent)]) (Im.refl _) ?_
  repeat' first|(refine gca ?_;first|(refine ca hG ?_;rintro _ _ ⟨dv,rfl,hdv,rfl⟩)|(refine ca (RSends_tr kd sn bn pn rn dv bl hdv) ?_;rintro _ _ ⟨rfl,rfl⟩;rw [show sndR kd sn bn pn rn bl.length = sndB ⟨kd,sn,bn,pn,rn,bl⟩ from rfl,hX])|(refine ca (Ralive_tr p _ _ _ _ _ _ _ _ _ _ _ _ s.ses s.st) ?_;rintro _ _ ⟨rfl,rfl⟩;rw [hal])|(refine ca (Rabort_tr p _ _ _ _ _ _ _ _ _ _ _ _ s.ses _ hf.ses) ?_;rintro ov _ ⟨o1,hov,rfl⟩))|refine al fun z=>?_|refine srz ?_|refine lda ?_|(refine qln (xs:=Bo s.ack) ?_;rw [hbl])|(refine wo ?_;first|(refine ao ?_;first|refine oa ?_)|refine oa ?_)|(refine gc ?_;first|(refine cn (fun hB=>?_) (fun hB=>?_) <;> try (exfalso;omega)))|refine sq ?_|refine rg ?_|refine xc ?_|refine nl ?_|refine bk ?_|refine rt ?_
  refine TX.im (owl_nil (e:=TyB) (g:=y8) _) ?_
  refine TX.im (own_nil TyV _) ?_
  exact r2 ⟨nS,[],rfl,rfl,rfl⟩
 subst he
 rw [if_pos rfl]
 cases hX:sndB ⟨kd,sn,bn,pn,rn,bl⟩
 rotate_left
 ·rw [if_pos rfl]
  refine Tr.enter env _ Tryz.func35 (by kernel_rfl) rfl Tryz.ntmps35 rfl (by repeat (first | exact has00 | refine has01 ?_)) fun w0=>?_
  refine TC.im (B:=[vw b (By l),vw h.tv (Is s.m.t),vw h.dv (By s.d),pt p [I s.m.size,I s.m.sym,I s.m.k,I s.m.seed,h.tv,h.dv,I s.ses,I s.bud,I s.tmo,I s.st,h.dn,h.sn,I s.last,I s.sil] TRS,own TyO h.dn (Bo s.ack),own TRI h.sn (Is s.sent)]) (Im.refl _) ?_
  repeat' first|(refine gca ?_;first|(refine ca hG ?_;rintro _ _ ⟨dv,rfl,hdv,rfl⟩)|(refine ca (RSends_tr kd sn bn pn rn dv bl hdv) ?_;rintro _ _ ⟨rfl,rfl⟩;rw [show sndR kd sn bn pn rn bl.length = sndB ⟨kd,sn,bn,pn,rn,bl⟩ from rfl,hX])|(refine ca (Ralive_tr p _ _ _ _ _ _ _ _ _ _ _ _ s.ses s.st) ?_;rintro _ _ ⟨rfl,rfl⟩;rw [hal])|(refine ca (Rabort_tr p _ _ _ _ _ _ _ _ _ _ _ _ s.ses _ hf.ses) ?_;rintro ov _ ⟨o1,hov,rfl⟩))|refine al fun z=>?_|refine srz ?_|refine lda ?_|(refine qln (xs:=Bo s.ack) ?_;rw [hbl])|(refine wo ?_;first|(refine ao ?_;first|refine oa ?_)|refine oa ?_)|(refine gc ?_;first|refine ct ?_|refine cf ?_)|refine sq ?_|refine rg ?_|refine xc ?_|refine nl ?_|refine bk ?_|refine rt ?_
  refine TX.im (owl_nil (e:=TyB) (g:=y8) _) ?_
  refine TX.im (own_nil TyV _) ?_
  exact r2 ⟨nS,[],rfl,rfl,rfl⟩
 rw [if_neg (by decide)]
 have hal':s.alive ↔ (s.st = 1∨s.st = 2):=Iff.rfl
 by_cases hsn:sn = s.ses
 rotate_left
 ·rw [if_neg hsn]
  refine Tr.enter env _ Tryz.func35 (by kernel_rfl) rfl Tryz.ntmps35 rfl (by repeat (first | exact has00 | refine has01 ?_)) fun w0=>?_
  refine TC.im (B:=[vw b (By l),vw h.tv (Is s.m.t),vw h.dv (By s.d),pt p [I s.m.size,I s.m.sym,I s.m.k,I s.m.seed,h.tv,h.dv,I s.ses,I s.bud,I s.tmo,I s.st,h.dn,h.sn,I s.last,I s.sil] TRS,own TyO h.dn (Bo s.ack),own TRI h.sn (Is s.sent)]) (Im.refl _) ?_
  repeat' first|(refine gca ?_;first|(refine ca hG ?_;rintro _ _ ⟨dv,rfl,hdv,rfl⟩)|(refine ca (RSends_tr kd sn bn pn rn dv bl hdv) ?_;rintro _ _ ⟨rfl,rfl⟩;rw [show sndR kd sn bn pn rn bl.length = sndB ⟨kd,sn,bn,pn,rn,bl⟩ from rfl,hX]))|refine al fun z=>?_|refine srz ?_|refine lda ?_|(refine qln (xs:=Bo s.ack) ?_;rw [hbl])|(refine wo ?_;first|(refine ao ?_;first|refine oa ?_)|refine oa ?_)|(refine gc ?_;first|refine cf ?_|(refine cn (fun hB=>?_) (fun hB=>?_) <;> try (exfalso;omega)))|refine sq ?_|refine rg ?_|refine xc ?_|refine nl ?_|refine bk ?_|refine rt ?_|refine rq ?_|refine nq ?_|(refine wq ?_;first|(refine qao ?_;first|refine qa ?_)|refine qa ?_|refine qld ?_)
  all_goals first | (exfalso;omega) | (refine TX.im (owl_nil (e:=TyB) (g:=y8) _) ?_;refine TX.im (own_nil TyV _) ?_;exact r2 ⟨nS,[],rfl,rfl,rfl⟩)
 rw [if_pos hsn]
 by_cases h36:s.st = 3∨s.st = 6
 ·rw [if_pos h36]
  have hal:(decide (s.st = 1) || decide (s.st = 2)) = false:=by rw [decide_eq_false (by omega),decide_eq_false (by omega)];rfl
  refine Tr.enter env _ Tryz.func35 (by kernel_rfl) rfl Tryz.ntmps35 rfl (by repeat (first | exact has00 | refine has01 ?_)) fun w0=>?_
  refine TC.im (B:=[vw b (By l),vw h.tv (Is s.m.t),vw h.dv (By s.d),pt p [I s.m.size,I s.m.sym,I s.m.k,I s.m.seed,h.tv,h.dv,I s.ses,I s.bud,I s.tmo,I s.st,h.dn,h.sn,I s.last,I s.sil] TRS,own TyO h.dn (Bo s.ack),own TRI h.sn (Is s.sent)]) (Im.refl _) ?_
  repeat' first|(refine gca ?_;first|(refine ca hG ?_;rintro _ _ ⟨dv,rfl,hdv,rfl⟩)|(refine ca (RSends_tr kd sn bn pn rn dv bl hdv) ?_;rintro _ _ ⟨rfl,rfl⟩;rw [show sndR kd sn bn pn rn bl.length = sndB ⟨kd,sn,bn,pn,rn,bl⟩ from rfl,hX])|(refine ca (Ralive_tr p _ _ _ _ _ _ _ _ _ _ _ _ s.ses s.st) ?_;rintro _ _ ⟨rfl,rfl⟩;rw [hal])|(refine ca (Rabort_tr p _ _ _ _ _ _ _ _ _ _ _ _ s.ses _ hf.ses) ?_;rintro ov _ ⟨o1,hov,rfl⟩))|refine al fun z=>?_|refine srz ?_|refine lda ?_|(refine qln (xs:=Bo s.ack) ?_;rw [hbl])|(refine wo ?_;first|(refine ao ?_;first|refine oa ?_)|refine oa ?_|refine ld ?_|refine gy ?_|refine gn ?_|(refine gsi (fun hB=>?_) (fun hB=>?_) <;> try (exfalso;omega)))|(refine gc ?_;first|refine ct ?_|refine cf ?_|(refine ci (fun hB=>?_) (fun hB=>?_) <;> try (exfalso;omega))|(refine cn (fun hB=>?_) (fun hB=>?_) <;> try (exfalso;omega)))|refine sq ?_|refine rg ?_|refine xc ?_|refine nl ?_|refine sk ?_|refine bk ?_|refine rt ?_|refine xb ?_|refine rq ?_|refine nq ?_|(refine wq ?_;first|(refine qao ?_;first|refine qa ?_)|refine qa ?_|refine qld ?_)
  all_goals first | (exfalso;omega) | (refine TX.im (owl_nil (e:=TyB) (g:=y8) _) ?_;refine TX.im (own_nil TyV _) ?_;exact r2 ⟨nS,[],rfl,rfl,rfl⟩)
 rw [if_neg h36]
 by_cases ha:s.alive
 rotate_left
 ·rw [if_neg ha]
  have hal:(decide (s.st = 1) || decide (s.st = 2)) = false:=by
   rw [hal'] at ha
   rw [decide_eq_false (by omega),decide_eq_false (by omega)];rfl
  by_cases h4:kd = 4
  ·rw [if_pos h4]
   refine Tr.enter env _ Tryz.func35 (by kernel_rfl) rfl Tryz.ntmps35 rfl (by repeat (first | exact has00 | refine has01 ?_)) fun w0=>?_
   refine TC.im (B:=[vw b (By l),vw h.tv (Is s.m.t),vw h.dv (By s.d),pt p [I s.m.size,I s.m.sym,I s.m.k,I s.m.seed,h.tv,h.dv,I s.ses,I s.bud,I s.tmo,I s.st,h.dn,h.sn,I s.last,I s.sil] TRS,own TyO h.dn (Bo s.ack),own TRI h.sn (Is s.sent)]) (Im.refl _) ?_
   repeat' first|(refine gca ?_;first|(refine ca hG ?_;rintro _ _ ⟨dv,rfl,hdv,rfl⟩)|(refine ca (RSends_tr kd sn bn pn rn dv bl hdv) ?_;rintro _ _ ⟨rfl,rfl⟩;rw [show sndR kd sn bn pn rn bl.length = sndB ⟨kd,sn,bn,pn,rn,bl⟩ from rfl,hX])|(refine ca (Ralive_tr p _ _ _ _ _ _ _ _ _ _ _ _ s.ses s.st) ?_;rintro _ _ ⟨rfl,rfl⟩;rw [hal])|(refine ca (Rabort_tr p _ _ _ _ _ _ _ _ _ _ _ _ s.ses _ hf.ses) ?_;rintro ov _ ⟨o1,hov,rfl⟩))|refine al fun z=>?_|refine srz ?_|refine lda ?_|(refine qln (xs:=Bo s.ack) ?_;rw [hbl])|(refine wo ?_;first|(refine ao ?_;first|refine oa ?_)|refine oa ?_|refine ld ?_|refine gy ?_|(refine gsi (fun hB=>?_) (fun hB=>?_) <;> try (exfalso;omega)))|(refine gc ?_;first|refine ct ?_|refine cf ?_|(refine ci (fun hB=>?_) (fun hB=>?_) <;> try (exfalso;omega))|(refine cn (fun hB=>?_) (fun hB=>?_) <;> try (exfalso;omega)))|refine sq ?_|refine rg ?_|refine xc ?_|refine nl ?_|refine sk ?_|refine bk ?_|refine rt ?_|refine xb ?_|refine rq ?_|refine nq ?_|(refine wq ?_;first|(refine qao ?_;first|refine qa ?_)|refine qa ?_|refine qld ?_)
   all_goals first | (exfalso;omega) | (refine TX.im (owl_nil (e:=TyB) (g:=y8) _) ?_;refine TX.im (own_nil TyV _) ?_;exact r2 ⟨nS,[],rfl,rfl,rfl⟩)
  ·rw [if_neg h4]
   refine Tr.enter env _ Tryz.func35 (by kernel_rfl) rfl Tryz.ntmps35 rfl (by repeat (first | exact has00 | refine has01 ?_)) fun w0=>?_
   refine TC.im (B:=[vw b (By l),vw h.tv (Is s.m.t),vw h.dv (By s.d),pt p [I s.m.size,I s.m.sym,I s.m.k,I s.m.seed,h.tv,h.dv,I s.ses,I s.bud,I s.tmo,I s.st,h.dn,h.sn,I s.last,I s.sil] TRS,own TyO h.dn (Bo s.ack),own TRI h.sn (Is s.sent)]) (Im.refl _) ?_
   repeat' first|(refine gca ?_;first|(refine ca hG ?_;rintro _ _ ⟨dv,rfl,hdv,rfl⟩)|(refine ca (RSends_tr kd sn bn pn rn dv bl hdv) ?_;rintro _ _ ⟨rfl,rfl⟩;rw [show sndR kd sn bn pn rn bl.length = sndB ⟨kd,sn,bn,pn,rn,bl⟩ from rfl,hX])|(refine ca (Ralive_tr p _ _ _ _ _ _ _ _ _ _ _ _ s.ses s.st) ?_;rintro _ _ ⟨rfl,rfl⟩;rw [hal])|(refine ca (Rabort_tr p _ _ _ _ _ _ _ _ _ _ _ _ s.ses _ hf.ses) ?_;rintro ov _ ⟨o1,hov,rfl⟩))|refine al fun z=>?_|refine srz ?_|refine lda ?_|(refine qln (xs:=Bo s.ack) ?_;rw [hbl])|(refine wo ?_;first|(refine ao ?_;first|refine oa ?_)|refine oa ?_|refine ld ?_|refine gy ?_|(refine gsi (fun hB=>?_) (fun hB=>?_) <;> try (exfalso;omega)))|(refine gc ?_;first|refine ct ?_|refine cf ?_|(refine ci (fun hB=>?_) (fun hB=>?_) <;> try (exfalso;omega))|(refine cn (fun hB=>?_) (fun hB=>?_) <;> try (exfalso;omega)))|refine sq ?_|refine rg ?_|refine xc ?_|refine nl ?_|refine sk ?_|refine bk ?_|refine rt ?_|refine xb ?_|refine rq ?_|refine nq ?_|(refine wq ?_;first|(refine qao ?_;first|refine qa ?_)|refine qa ?_|refine qld ?_)
   all_goals first | (exfalso;omega) | exact r2 ⟨ov,[o1],rfl,rfl,rfl⟩
 rw [if_pos ha]
 have hal:(decide (s.st = 1) || decide (s.st = 2)) = true:=by
  rw [hal'] at ha
  rcases ha with ha | ha <;> simp [ha]
 by_cases hk2:kd = 2
 rotate_left
 ·rw [if_neg hk2]
  by_cases hk3:kd = 3
  ·rw [if_pos hk3]
   refine Tr.enter env _ Tryz.func35 (by kernel_rfl) rfl Tryz.ntmps35 rfl (by repeat (first | exact has00 | refine has01 ?_)) fun w0=>?_
   refine TC.im (B:=[vw b (By l),vw h.tv (Is s.m.t),vw h.dv (By s.d),pt p [I s.m.size,I s.m.sym,I s.m.k,I s.m.seed,h.tv,h.dv,I s.ses,I s.bud,I s.tmo,I s.st,h.dn,h.sn,I s.last,I s.sil] TRS,own TyO h.dn (Bo s.ack),own TRI h.sn (Is s.sent)]) (Im.refl _) ?_
   repeat' first|(refine gca ?_;first|(refine ca hG ?_;rintro _ _ ⟨dv,rfl,hdv,rfl⟩)|(refine ca (RSends_tr kd sn bn pn rn dv bl hdv) ?_;rintro _ _ ⟨rfl,rfl⟩;rw [show sndR kd sn bn pn rn bl.length = sndB ⟨kd,sn,bn,pn,rn,bl⟩ from rfl,hX])|(refine ca (Ralive_tr p _ _ _ _ _ _ _ _ _ _ _ _ s.ses s.st) ?_;rintro _ _ ⟨rfl,rfl⟩;rw [hal])|(refine ca (Rabort_tr p _ _ _ _ _ _ _ _ _ _ _ _ s.ses _ hf.ses) ?_;rintro ov _ ⟨o1,hov,rfl⟩))|refine al fun z=>?_|refine srz ?_|refine lda ?_|(refine qln (xs:=Bo s.ack) ?_;rw [hbl])|(refine wo ?_;first|(refine ao ?_;first|refine oa ?_)|refine oa ?_|refine ld ?_|refine sr ?_|refine gy ?_|(refine gsi (fun hB=>?_) (fun hB=>?_) <;> try (exfalso;omega)))|(refine gc ?_;first|refine cf ?_|(refine ci (fun hB=>?_) (fun hB=>?_) <;> try (exfalso;omega))|(refine cn (fun hB=>?_) (fun hB=>?_) <;> try (exfalso;omega)))|refine sq ?_|refine rg ?_|refine xc ?_|refine nl ?_|refine sk ?_|refine bk ?_|refine rt ?_|refine xb ?_|refine rq ?_|refine nq ?_|(refine wq ?_;first|(refine qao ?_;first|refine qa ?_)|refine qa ?_|refine qld ?_)
   all_goals first | (exfalso;omega) | (refine TX.im (owl_nil (e:=TyB) (g:=y8) _) ?_;refine TX.im (own_nil TyV _) ?_;exact r2 ⟨nS,[],rfl,rfl,rfl⟩)
  ·rw [if_neg hk3]
   refine Tr.enter env _ Tryz.func35 (by kernel_rfl) rfl Tryz.ntmps35 rfl (by repeat (first | exact has00 | refine has01 ?_)) fun w0=>?_
   refine TC.im (B:=[vw b (By l),vw h.tv (Is s.m.t),vw h.dv (By s.d),pt p [I s.m.size,I s.m.sym,I s.m.k,I s.m.seed,h.tv,h.dv,I s.ses,I s.bud,I s.tmo,I s.st,h.dn,h.sn,I s.last,I s.sil] TRS,own TyO h.dn (Bo s.ack),own TRI h.sn (Is s.sent)]) (Im.refl _) ?_
   repeat' first|(refine gca ?_;first|(refine ca hG ?_;rintro _ _ ⟨dv,rfl,hdv,rfl⟩)|(refine ca (RSends_tr kd sn bn pn rn dv bl hdv) ?_;rintro _ _ ⟨rfl,rfl⟩;rw [show sndR kd sn bn pn rn bl.length = sndB ⟨kd,sn,bn,pn,rn,bl⟩ from rfl,hX])|(refine ca (Ralive_tr p _ _ _ _ _ _ _ _ _ _ _ _ s.ses s.st) ?_;rintro _ _ ⟨rfl,rfl⟩;rw [hal])|(refine ca (Rabort_tr p _ _ _ _ _ _ _ _ _ _ _ _ s.ses _ hf.ses) ?_;rintro ov _ ⟨o1,hov,rfl⟩))|refine al fun z=>?_|refine srz ?_|refine lda ?_|(refine qln (xs:=Bo s.ack) ?_;rw [hbl])|(refine wo ?_;first|(refine ao ?_;first|refine oa ?_)|refine oa ?_|refine ld ?_|refine sr ?_|refine gy ?_|(refine gsi (fun hB=>?_) (fun hB=>?_) <;> try (exfalso;omega)))|(refine gc ?_;first|refine cf ?_|(refine ci (fun hB=>?_) (fun hB=>?_) <;> try (exfalso;omega))|(refine cn (fun hB=>?_) (fun hB=>?_) <;> try (exfalso;omega)))|refine sq ?_|refine rg ?_|refine xc ?_|refine nl ?_|refine sk ?_|refine bk ?_|refine rt ?_|refine xb ?_|refine rq ?_|refine nq ?_|(refine wq ?_;first|(refine qao ?_;first|refine qa ?_)|refine qa ?_|refine qld ?_)
   all_goals first | (exfalso;omega) | (refine TX.im (owl_nil (e:=TyB) (g:=y8) _) ?_;refine TX.im (own_nil TyV _) ?_;exact r2 ⟨nS,[],rfl,rfl,rfl⟩)
 rw [if_pos hk2]
 have hbn:0 ≤ bn:=(hpk rfl).2.2.1.1
 by_cases hb1:(s.ack.length:Int) < bn
 ·rw [if_pos hb1]
  refine Tr.enter env _ Tryz.func35 (by kernel_rfl) rfl Tryz.ntmps35 rfl (by repeat (first | exact has00 | refine has01 ?_)) fun w0=>?_
  refine TC.im (B:=[vw b (By l),vw h.tv (Is s.m.t),vw h.dv (By s.d),pt p [I s.m.size,I s.m.sym,I s.m.k,I s.m.seed,h.tv,h.dv,I s.ses,I s.bud,I s.tmo,I s.st,h.dn,h.sn,I s.last,I s.sil] TRS,own TyO h.dn (Bo s.ack),own TRI h.sn (Is s.sent)]) (Im.refl _) ?_
  repeat' first|(refine gca ?_;first|(refine ca hG ?_;rintro _ _ ⟨dv,rfl,hdv,rfl⟩)|(refine ca (RSends_tr kd sn bn pn rn dv bl hdv) ?_;rintro _ _ ⟨rfl,rfl⟩;rw [show sndR kd sn bn pn rn bl.length = sndB ⟨kd,sn,bn,pn,rn,bl⟩ from rfl,hX])|(refine ca (Ralive_tr p _ _ _ _ _ _ _ _ _ _ _ _ s.ses s.st) ?_;rintro _ _ ⟨rfl,rfl⟩;rw [hal])|(refine ca (Rabort_tr p _ _ _ _ _ _ _ _ _ _ _ _ s.ses _ hf.ses) ?_;rintro ov _ ⟨o1,hov,rfl⟩))|refine al fun z=>?_|refine srz ?_|refine lda ?_|(refine qln (xs:=Bo s.ack) ?_;rw [hbl])|(refine wo ?_;first|(refine ao ?_;first|refine oa ?_)|refine oa ?_|refine ld ?_|refine gy ?_|(refine gsi (fun hB=>?_) (fun hB=>?_) <;> try (exfalso;omega)))|(refine gc ?_;first|refine cf ?_|(refine ci (fun hB=>?_) (fun hB=>?_) <;> try (exfalso;omega))|(refine cn (fun hB=>?_) (fun hB=>?_) <;> try (exfalso;omega)))|refine sq ?_|refine rg ?_|refine xc ?_|refine nl ?_|refine sk ?_|refine bk ?_|refine rt ?_|refine xb ?_|refine rq ?_|refine nq ?_|(refine wq ?_;first|(refine qao ?_;first|refine qa ?_)|refine qa ?_|refine qld ?_)
  all_goals first | (exfalso;omega) | (refine TX.im (owl_nil (e:=TyB) (g:=y8) _) ?_;refine TX.im (own_nil TyV _) ?_;exact r2 ⟨nS,[],rfl,rfl,rfl⟩)
 rw [if_neg hb1]
 by_cases hb2:bn < (s.ack.length:Int)
 rotate_left
 ·rw [if_neg hb2]
  refine Tr.enter env _ Tryz.func35 (by kernel_rfl) rfl Tryz.ntmps35 rfl (by repeat (first | exact has00 | refine has01 ?_)) fun w0=>?_
  refine TC.im (B:=[vw b (By l),vw h.tv (Is s.m.t),vw h.dv (By s.d),pt p [I s.m.size,I s.m.sym,I s.m.k,I s.m.seed,h.tv,h.dv,I s.ses,I s.bud,I s.tmo,I s.st,h.dn,h.sn,I s.last,I s.sil] TRS,own TyO h.dn (Bo s.ack),own TRI h.sn (Is s.sent)]) (Im.refl _) ?_
  repeat' first|(refine gca ?_;first|(refine ca hG ?_;rintro _ _ ⟨dv,rfl,hdv,rfl⟩)|(refine ca (RSends_tr kd sn bn pn rn dv bl hdv) ?_;rintro _ _ ⟨rfl,rfl⟩;rw [show sndR kd sn bn pn rn bl.length = sndB ⟨kd,sn,bn,pn,rn,bl⟩ from rfl,hX])|(refine ca (Ralive_tr p _ _ _ _ _ _ _ _ _ _ _ _ s.ses s.st) ?_;rintro _ _ ⟨rfl,rfl⟩;rw [hal])|(refine ca (Rabort_tr p _ _ _ _ _ _ _ _ _ _ _ _ s.ses _ hf.ses) ?_;rintro ov _ ⟨o1,hov,rfl⟩))|refine al fun z=>?_|refine srz ?_|refine lda ?_|(refine qln (xs:=Bo s.ack) ?_;rw [hbl])|(refine wo ?_;first|(refine ao ?_;first|refine oa ?_)|refine oa ?_|refine ld ?_|refine sr ?_|refine gy ?_|(refine gsi (fun hB=>?_) (fun hB=>?_) <;> try (exfalso;omega)))|(refine gc ?_;first|refine cf ?_|(refine ci (fun hB=>?_) (fun hB=>?_) <;> try (exfalso;omega))|(refine cn (fun hB=>?_) (fun hB=>?_) <;> try (exfalso;omega)))|refine sq ?_|refine rg ?_|refine xc ?_|refine nl ?_|refine sk ?_|refine bk ?_|refine rt ?_|refine xb ?_|refine rq ?_|refine nq ?_|(refine wq ?_;first|(refine qao ?_;first|refine qa ?_)|refine qa ?_|refine qld ?_)
  all_goals first | (exfalso;omega) | (refine TX.im (owl_nil (e:=TyB) (g:=y8) _) ?_;refine TX.im (own_nil TyV _) ?_;exact r2 ⟨nS,[],rfl,rfl,rfl⟩)
 rw [if_pos hb2]
 have hsB:Bo (s.ack.set bn.toNat true) = (Bo s.ack).set bn.toNat (.bool true):=List.map_set ..
 refine Tr.enter env _ Tryz.func35 (by kernel_rfl) rfl Tryz.ntmps35 rfl (by repeat (first | exact has00 | refine has01 ?_)) fun w0=>?_
 refine TC.im (B:=[vw b (By l),vw h.tv (Is s.m.t),vw h.dv (By s.d),pt p [I s.m.size,I s.m.sym,I s.m.k,I s.m.seed,h.tv,h.dv,I s.ses,I s.bud,I s.tmo,I s.st,h.dn,h.sn,I s.last,I s.sil] TRS,own TyO h.dn (Bo s.ack),own TRI h.sn (Is s.sent)]) (Im.refl _) ?_
 repeat' first|(refine gca ?_;first|(refine ca hG ?_;rintro _ _ ⟨dv,rfl,hdv,rfl⟩)|(refine ca (RSends_tr kd sn bn pn rn dv bl hdv) ?_;rintro _ _ ⟨rfl,rfl⟩;rw [show sndR kd sn bn pn rn bl.length = sndB ⟨kd,sn,bn,pn,rn,bl⟩ from rfl,hX])|(refine ca (Ralive_tr p _ _ _ _ _ _ _ _ _ _ _ _ s.ses s.st) ?_;rintro _ _ ⟨rfl,rfl⟩;rw [hal])|(refine ca (Rabort_tr p _ _ _ _ _ _ _ _ _ _ _ _ s.ses _ hf.ses) ?_;rintro ov _ ⟨o1,hov,rfl⟩))|refine rs (id:=21) (fun w=>w.heap[p]? = some (.cells [I s.m.size,I s.m.sym,I s.m.k,I s.m.seed,h.tv,h.dv,I s.ses,I s.bud,I s.tmo,I 2,h.dn,h.sn,I s.last,I s.sil].toArray TRS (0,0))∧w.heap[z]? = some (.cells [I kd,I sn,I bn,I pn,I rn,dv].toArray TPk (0,0))) ?_ (fun w hw=>⟨pt_at memA hw,pt_at memA hw⟩)|refine al fun z=>?_|refine srz ?_|refine lda ?_|(refine qln (xs:=Bo s.ack) ?_;rw [hbl])|(refine wo ?_;first|(refine ao ?_;first|refine oa ?_)|refine oa ?_|refine ld ?_|refine sr ?_|refine gy ?_|(refine gsi (fun hB=>?_) (fun hB=>?_) <;> try (exfalso;omega)))|(refine gc ?_;first|refine cf ?_|(refine ci (fun hB=>?_) (fun hB=>?_) <;> try (exfalso;omega))|(refine cn (fun hB=>?_) (fun hB=>?_) <;> try (exfalso;omega)))|refine sq ?_|refine rg ?_|refine xc ?_|refine nl ?_|refine sk ?_|refine bk ?_|refine xb ?_|refine rq ?_|refine nq ?_|(refine wq ?_;first|(refine qao ?_;first|refine qa ?_)|refine qa ?_|refine qld ?_)
 all_goals try (exfalso;omega)
 refine tka 0 ?_
 refine tka 1 ?_
 refine tka 2 ?_
 refine tkl 3 (cs:=[I s.m.size,I s.m.sym,I s.m.k,I s.m.seed,h.tv,h.dv,I s.ses,I s.bud,I s.tmo,I 2,h.dn,h.sn,I s.last,I s.sil]) (fun w h0=>h0.1) ?_
 refine tka 4 ?_
 refine tkl 5 (cs:=[I kd,I sn,I bn,I pn,I rn,dv]) (fun w h0=>h0.2) ?_
 refine t1 6 ?_
 refine ix (xs:=Bo s.ack) ?_
 refine nl ?_
 refine te (fun w hw=>⟨pt_at memA hw,pt_at memA hw⟩) ?_
 refine t1 7 ?_
 refine so (xs:=Bo s.ack) (ys:=Bo (s.ack.set bn.toNat true)) ?_ (hs:=hsB) (hj:=by omega)
 refine nl ?_
 refine te (fun w hw=>⟨pt_at memA hw,pt_at memA hw⟩) ?_
 refine t0 ?_
 repeat' first|(refine wo ?_;first|refine oa ?_|refine sr ?_)|refine sq ?_|refine rg ?_|refine xc ?_|refine nl ?_|refine rt ?_|refine xb ?_
 refine TX.im (owl_nil (e:=TyB) (g:=y8) _) ?_
 refine TX.im (own_nil TyV _) ?_
 exact r2 ⟨nS,[],rfl,rfl,rfl⟩
end Go.Art.Sn
set_option maxRecDepth 2000
namespace Go.Art.Sn
open Go Go.Proofs Go.RowKit Go.Art
attribute [local irreducible] Fit pt own ro vw mpc lpt vels rels mow lrc dfr
attribute [local irreducible] lmp lme mit velg relg bnd owl
set_option maxHeartbeats 1000000 in
theorem RNew29_tr (m:MfS) (tv dv:Value) (d:List Int) (ses bud tmo:Int) (hv:tv.oneCell' = true) (hdv:dv.oneCell' = true) (hsd:m.seed ≤ 9223372036854775807) (hdl:d.length ≤ 1099511627776) :
  Tr Tryz.prog 9 [.agg #[I m.size,I m.sym,I m.k,I m.seed,tv],dv,I ses,I bud,I tmo] [vw tv (Is m.t),vw dv (By d)] []
   fun v D=>(newSE m d ses bud tmo = 0∧∃ p dn sn,v = tup2 (ptr p) (I 0)∧D = rsP p ⟨tv,dv,dn,sn⟩ (SP.new m d ses bud tmo))∨(newSE m d ses bud tmo ≠ 0∧v = tup2 nP (I (newSE m d ses bud tmo))∧D = []):=by
 have hP:=RMPut_tr m tv hv hsd
 have hBl:=RBlocks_tr m tv hv
 have hdB:=By_len d
 by_cases hok:m.ok
 rotate_left
 ·have e:newSE m d ses bud tmo = 2:=if_neg fun h=>hok h.1
  rw [if_neg hok,show mfE m = 2 from if_neg hok] at hP
  rw [e]
  refine Tr.enter env _ Tryz.func9 (by kernel_rfl) rfl Tryz.ntmps9 rfl (by repeat (first | exact has00 | refine has01 ?_)) fun w0=>?_
  repeat' first|(refine gca ?_;first|(refine ca hP ?_;rintro _ _ ⟨o,rfl,ho,rfl⟩))|refine bx fun q=>?_|refine lda ?_|(refine ln (xs:=By d) ?_;rw [hdB])|(refine wo ?_;first|(refine ao ?_;first|refine oa ?_)|refine oa ?_|refine gn ?_)|(refine gc ?_;first|refine ct ?_)|refine sq ?_|refine rg ?_|refine xc ?_|refine nl ?_|refine rt ?_
  exact r2 (.inr ⟨by decide,rfl,rfl⟩)
 have hbl:=bytes_len m
 have htl:=(mtB_sol hok.2.2.1 hok.2.2.2.2).2
 have hbi:=MfS.blocks_in hok
 rw [if_pos hok,show mfE m = 0 from if_pos hok] at hP
 have hbB:=By_len m.bytes
 by_cases hsz:(d.length:Int) = m.size
 rotate_left
 ·have e:newSE m d ses bud tmo = 2:=if_neg fun h=>hsz h.2
  rw [e]
  refine Tr.enter env _ Tryz.func9 (by kernel_rfl) rfl Tryz.ntmps9 rfl (by repeat (first | exact has00 | refine has01 ?_)) fun w0=>?_
  repeat' first|(refine gca ?_;first|(refine ca hP ?_;rintro _ _ ⟨o,rfl,ho,rfl⟩))|refine bx fun q=>?_|refine lda ?_|(refine ln (xs:=By d) ?_;rw [hdB])|(refine ln (xs:=By m.bytes) ?_;rw [hbB])|(refine wo ?_;first|(refine ao ?_;first|refine oa ?_)|refine oa ?_|refine ld ?_|refine gy ?_|(refine gsi (fun hB=>?_) (fun hB=>?_) <;> try (exfalso;omega)))|(refine gc ?_;first|(refine cn (fun hB=>?_) (fun hB=>?_) <;> try (exfalso;omega)))|refine sq ?_|refine rg ?_|refine xc ?_|refine nl ?_|refine rt ?_
  all_goals first | (exfalso;omega) | exact r2 (.inr ⟨by decide,rfl,rfl⟩)
 by_cases hr:(0 ≤ ses∧ses ≤ 4294967295)∧(0 ≤ bud∧bud ≤ 2147483647)∧1 ≤ tmo∧tmo ≤ 2147483647
 rotate_left
 ·have e:newSE m d ses bud tmo = 3:=by rw [newSE,if_pos ⟨hok,hsz⟩,if_neg hr]
  rw [e]
  refine Tr.enter env _ Tryz.func9 (by kernel_rfl) rfl Tryz.ntmps9 rfl (by repeat (first | exact has00 | refine has01 ?_)) fun w0=>?_
  repeat' first|(refine gca ?_;first|(refine ca hP ?_;rintro _ _ ⟨o,rfl,ho,rfl⟩))|refine bx fun q=>?_|refine lda ?_|(refine ln (xs:=By d) ?_;rw [hdB])|(refine ln (xs:=By m.bytes) ?_;rw [hbB])|(refine wo ?_;first|(refine ao ?_;first|refine oa ?_)|refine oa ?_|refine ld ?_|refine gy ?_|refine gn ?_|(refine gsi (fun hB=>?_) (fun hB=>?_) <;> try (exfalso;omega)))|(refine gc ?_;first|refine ct ?_|(refine ci (fun hB=>?_) (fun hB=>?_) <;> try (exfalso;omega))|(refine cn (fun hB=>?_) (fun hB=>?_) <;> try (exfalso;omega)))|refine sq ?_|refine rg ?_|refine xc ?_|refine nl ?_|refine sk ?_|refine rt ?_
  all_goals first | (exfalso;omega) | exact r2 (.inr ⟨by decide,rfl,rfl⟩)
 have e:newSE m d ses bud tmo = 0:=by rw [newSE,if_pos ⟨hok,hsz⟩,if_pos hr]
 rw [e]
 obtain ⟨nb,hnb⟩ : ∃ nb:Nat,m.blocks = nb:=⟨m.blocks.toNat,by omega⟩
 have hnew:SP.new m d ses bud tmo = ⟨ses,bud,tmo,-1,0,1,m,d,List.replicate nb 0,List.replicate nb false,m.bytes⟩:=by
  unfold SP.new;rw [hnb,Int.toNat_natCast]
 rw [hnew]
 rw [hnb] at hBl
 have hnbl:nb ≤ 4294967295:=by omega
 have hBr:Bo (List.replicate nb false) = List.replicate nb (.bool false):=List.map_replicate ..
 have hIr:Is (List.replicate nb 0) = List.replicate nb (I 0):=List.map_replicate ..
 refine Tr.enter env _ Tryz.func9 (by kernel_rfl) rfl Tryz.ntmps9 rfl (by repeat (first | exact has00 | refine has01 ?_)) fun w0=>?_
 repeat' first|(refine gca ?_;first|(refine ca hP ?_;rintro _ _ ⟨o,rfl,ho,rfl⟩)|(refine ca hBl ?_;rintro _ _ ⟨rfl,rfl⟩))|refine bx fun q=>?_|refine lda ?_|(refine ln (xs:=By d) ?_;rw [hdB])|(refine ln (xs:=By m.bytes) ?_;rw [hbB])|(refine wo ?_;first|(refine ao ?_;first|refine oa ?_)|refine oa ?_|refine ld ?_|refine gy ?_|(refine gsi (fun hB=>?_) (fun hB=>?_) <;> try (exfalso;omega)))|(refine gc ?_;first|(refine ci (fun hB=>?_) (fun hB=>?_) <;> try (exfalso;omega))|(refine cn (fun hB=>?_) (fun hB=>?_) <;> try (exfalso;omega)))|refine sq ?_|refine rg ?_|refine xc ?_|refine nl ?_|refine sk ?_
 all_goals try (exfalso;omega)
 refine rs (fun w=>w.heap[q]? = some (.cells [I m.size,I m.sym,I m.k,I m.seed,tv].toArray TMf (0,0))) ?_ (fun w hw=>pt_at memA hw)
 refine tk 0 (v:=.agg #[I m.size,I m.sym,I m.k,I m.seed,tv]) (hi:=rfl) (fun w h0=>by exact R_loadA (E:=env) (cs:=[I m.size,I m.sym,I m.k,I m.seed,tv]) (vs:=[I m.size,I m.sym,I m.k,I m.seed,tv]) rfl rfl rfl rfl h0 rfl rfl) ?_
 refine tka 1 ?_
 refine tka 2 ?_
 refine tka 3 ?_
 refine tka 4 ?_
 refine tka 5 ?_
 refine tka 7 ?_
 refine t2 6 8 ?_ ?_
 ·refine mk (z:=.bool false) (fun dn=>?_)
  rw [Int.toNat_natCast]
  refine TO.one (v:=dn) (xs:=List.replicate nb (.bool false)) fun hdn=>?_
  refine nl ?_
  refine te (fun w hw=>pt_at memA hw) ?_
  refine t1 8 ?_
  refine mk (z:=I 0) (fun sn=>?_)
  rw [Int.toNat_natCast]
  refine TO.one (v:=sn) (xs:=List.replicate nb (I 0)) fun hsn=>?_
  refine nl ?_
  refine te (fun w hw=>pt_at memA hw) ?_
  refine t1 9 ?_
  refine bdm (cs:=[I m.size,I m.sym,I m.k,I m.seed,tv,dv,I ses,I bud,I tmo,I 1,dn,sn,I (-1),I 0]) ?_ (hs:=by kernel_rfl)
  refine nl ?_
  refine te (fun w hw=>pt_at memA hw) ?_
  refine t1 10 ?_
  refine bx fun p=>?_
  refine nl ?_
  refine te (fun w hw=>pt_at memA hw) ?_
  refine tka 11 ?_
  refine tka 12 ?_
  refine t0 ?_
  repeat' first|refine xc ?_|refine rt ?_
  rw [← hBr,← hIr]
  exact r2 (.inl ⟨rfl,p,dn,sn,rfl,rfl⟩)
 ·refine mk (z:=I 0) (fun sn=>?_)
  rw [Int.toNat_natCast]
  refine TO.one (v:=sn) (xs:=List.replicate nb (I 0)) fun hsn=>?_
  refine nl ?_
  refine te (fun w hw=>pt_at memA hw) ?_
  refine t1 6 ?_
  refine mk (z:=.bool false) (fun dn=>?_)
  rw [Int.toNat_natCast]
  refine TO.one (v:=dn) (xs:=List.replicate nb (.bool false)) fun hdn=>?_
  refine nl ?_
  refine te (fun w hw=>pt_at memA hw) ?_
  refine t1 9 ?_
  refine bdm (cs:=[I m.size,I m.sym,I m.k,I m.seed,tv,dv,I ses,I bud,I tmo,I 1,dn,sn,I (-1),I 0]) ?_ (hs:=by kernel_rfl)
  refine nl ?_
  refine te (fun w hw=>pt_at memA hw) ?_
  refine t1 10 ?_
  refine bx fun p=>?_
  refine nl ?_
  refine te (fun w hw=>pt_at memA hw) ?_
  refine tka 11 ?_
  refine tka 12 ?_
  refine t0 ?_
  repeat' first|refine xc ?_|refine rt ?_
  rw [← hBr,← hIr]
  exact r2 (.inl ⟨rfl,p,dn,sn,rfl,rfl⟩)
end Go.Art.Sn
namespace Go.Art
open Go Go.Proofs Go.RowKit
theorem lent_own {A F:List Ch} {b o c:Nat} {l:List Int} (hf:Fit A [own TyB (.slice (some ⟨b,o,none⟩) (l.length + 4) c) (By (spareB l))] F):Im A (own TyB (.slice (some ⟨b,o,none⟩) l.length c) (By l) :: F):=by
 refine Im.trans hf (Im1.im ?_ F)
 have h:=im_sub TyB (.slice (some ⟨b,o,none⟩) (l.length + 4) c) (By (spareB l)) (lo:=0) (hi:=l.length) (Nat.zero_le _) (by rw [By_len,spare_len];omega)
 rw [List.drop_zero,show (By (spareB l)).take l.length = By l by unfold By spareB;rw [← List.map_take,List.take_left]] at h
 rw [← lent_form b o (l.length + 4) c l.length]
 exact h
end Go.Art
namespace Go.Art.Sn
open Go Go.Proofs Go.RowKit Go.Art
theorem tick_md (s:SP):s.tick.1.m = s.m∧s.tick.1.d = s.d:=by
 unfold SP.tick
 repeat' split
 all_goals exact ⟨rfl,rfl⟩
theorem take_md (s:SP) (l:List Int):(s.take l).1.1.m = s.m∧(s.take l).1.1.d = s.d:=by
 unfold SP.take
 repeat' split
 all_goals exact ⟨rfl,rfl⟩
attribute [local irreducible] Fit pt own ro vw mpc lpt vels rels mow lrc dfr
attribute [local irreducible] lmp lme mit velg relg bnd owl vwf frz prs chp SP.tick SP.take
theorem alike_tr (p q:Nat) (h:SH) (r:RH) (s:SP) (hl:s.ack.length ≤ 1099511627776):Tr Tryz.prog 15 [ptr p,ptr q]
  [lpt p [I s.ses,I s.bud,I s.tmo,h.opn,h.pts,h.ack,I s.last,I s.sil,I s.st,chv h.c] TSn,vw h.ack (Bo s.ack),lpt q [I s.m.size,I s.m.sym,I s.m.k,I s.m.seed,r.tv,r.dv,I s.ses,I s.bud,I s.tmo,I s.st,r.dn,r.sn,I s.last,I s.sil] TRS,vw r.dn (Bo s.ack)] []
  fun v D=>v = .bool true∧D = []:=by
 refine Tr.enter env _ Tryz.func15 (by kernel_rfl) rfl Tryz.ntmps15 rfl (by repeat (first | exact has00 | refine has01 ?_)) fun w0=>?_
 repeat' first|(refine qca (v:=I s.st) (State_tr p s.ses s.bud s.tmo s.last s.sil s.st h.opn h.pts h.ack h.c) (fun u D hu=>hu) ?_)|(refine qca (v:=I (ackN s.ack s.ack.length)) (Acked_tr p s.ses s.bud s.tmo s.last s.sil s.st h.opn h.pts h.ack h.c s.ack hl) (fun u D hu=>hu) ?_)|(refine qca (v:=I (ackN s.ack s.ack.length)) (RAcked_tr q _ _ _ _ _ _ _ _ r.dn _ _ _ s.ses s.st s.ack hl) (fun u D hu=>hu) ?_)|(refine qca (v:=I s.bud) (Left_tr p s.ses s.bud s.tmo s.last s.sil s.st h.opn h.pts h.ack h.c) (fun u D hu=>hu) ?_)|(refine wo ?_;first|refine oa ?_)|refine sq ?_|refine rg ?_|refine xc ?_|refine nl ?_|refine rt ?_|refine rq ?_|refine nq ?_|(refine wq ?_;first|(refine qao ?_;first|refine qa ?_)|refine qa ?_|refine qldl ?_|refine qgy ?_|(refine qgsi (fun hB=>?_) (fun hB=>?_) <;> try (exfalso;omega)))
 all_goals first | (exfalso;omega) | exact r1 (v:=.bool (decide (s.bud = s.bud))) ⟨by rw [decide_eq_true rfl],rfl⟩
set_option maxRecDepth 20000 in
set_option maxHeartbeats 8000000 in
theorem does_tr (p q:Nat) (h:SH) (r:RH) (s0:SP) (m:MfS) (d:List Int) (hk0:s0.ok h) (hf0:s0.fit) (hm0:s0.m = m) (hd0:s0.d = d) (hr:r.ok) (n:Int) (bv:Value) (l:List Int) (hl:l.length ≤ 1099511627776) (hin:inB l) (hbv:bv.oneCell' = true) :
  Tr Tryz.prog 14 [ptr p,ptr q,.agg #[I n,bv]] [vw bv (By l),vw r.tv (Is m.t),vw r.dv (By d)] (sndP p h s0 ++ rsP q r s0)
   fun v D=>v = .bool true∧∃ s:SP,s.ok h∧s.fit∧s.m = m∧s.d = d∧D = sndP p h s ++ rsP q r s:=by
 have hpk:=pick_in n (n:=21) (by decide)
 have hbl:=By_len l
 refine Tr.enter env _ Tryz.func14 (by kernel_rfl) rfl Tryz.ntmps14 rfl (by repeat (first | exact has00 | refine has01 ?_)) fun w0=>?_
 repeat' first|(refine gca ?_;first|(refine ca (ticks_tr n bv) ?_;rintro _ _ ⟨rfl,rfl⟩))|refine bx fun b=>?_|refine lda ?_|(refine wo ?_;first|refine oa ?_)|refine sq ?_|refine rg ?_|refine xc ?_|refine nl ?_|refine bk ?_
 generalize pick n 21 = tk at *
 refine TC.loop (ι:=Int × SP) (fun g=>[(7,I g.1)]) (fun g=>sndP p h g.2 ++ rsP q r g.2) (fun g=>(0 ≤ g.1∧g.1 ≤ 20)∧g.2.ok h∧g.2.fit∧g.2.m = m∧g.2.d = d) (fun g=>g.1.toNat) (tk,s0) [0,1,5] ⟨by dsimp only;omega,hk0,hf0,hm0,hd0⟩ ?_ (hf:=by dsimp only;exact fitA)
 rintro ⟨k,s⟩ ⟨hk,hks,hfs,hsm,hsd⟩
 dsimp only at hk hks hfs hsm hsd ⊢
 subst hsm hsd
 by_cases hk0:0 < k
 ·have hT:=TickO_tr p h s hks
  have hR:=RTick_tr q r s hr hfs
  have hti:=tick_in hfs
  have hko:=tick_ok hks
  have hfo:=tick_fit hks hfs
  have hmd:=tick_md s
  have hA:=alike_tr p q h r s.tick.1 (by have:=hko.n3;omega)
  have hle:=tick_le1 s
  generalize s.tick = st at *
  obtain ⟨s',outs⟩:=st
  dsimp only at hT hR hti hko hfo hmd hA hle
  repeat' first|(refine gca ?_;first|(refine ca hT ?_;rintro _ _ ⟨o,os,rfl,ho,hos,rfl⟩)|(refine ca hR ?_;rintro _ _ ⟨o2,os2,rfl,hos2,rfl⟩)|(refine ca (SameLists_tr o o2 os os2 outs hti) ?_ (hp:=has1 hasA (has1 (has_owl hos memA) (has1 hasA (has1 (has_owl hos2 memA) has0))));rintro _ _ ⟨rfl,rfl⟩)|(refine ca hA ?_;rintro _ _ ⟨rfl,rfl⟩))|(refine wo ?_;first|(refine ao ?_;first|refine oa ?_)|refine oa ?_|refine gy ?_)|(refine gc ?_;first|refine cf ?_|(refine ci (fun hB=>?_) (fun hB=>?_) <;> try (exfalso;omega)))|refine sq ?_|refine rg ?_|refine xc ?_|refine nl ?_|refine sk ?_|refine bk ?_
  all_goals try (exfalso;omega)
  refine TC.loop (ι:=Nat) (fun j=>[(12,I j)]) (fun j=>[owl TyB y8 (os.drop j) (outs.drop j)]) (fun j=>j ≤ outs.length) (fun j=>outs.length - j) 0 [0,1,5,7,8] (Nat.zero_le _) ?_ (hf:=by rw [List.drop_zero,List.drop_zero];exact fitA)
  intro j hj
  by_cases hjl:j < outs.length
  ·rw [drop_getD (l:=os) (by omega) nS,drop_getD hjl []]
   refine TC.im (owl_pop fitA) ?_
   have hO:=OverBytes_tr (os.getD j nS) (outs.getD j [])
   repeat' first|(refine gca ?_;first|(refine ca hO ?_;rintro _ _ rfl))|(refine ln (xs:=os) ?_;rw [hos])|(refine wo ?_;first|(refine ao ?_;first|refine aw ?_|refine oa ?_)|refine oa ?_|refine lv ?_|refine ixn ?_)|(refine gc ?_;first|(refine ci (fun hB=>?_) (fun hB=>?_) <;> try (exfalso;omega)))|refine sq ?_|refine rg ?_|refine xc ?_|refine nl ?_|refine sk ?_|refine bk ?_|refine xb ?_
   all_goals first | (exfalso;omega) | exact lp (j + 1) hjl
  ·repeat' first|(refine ln (xs:=os) ?_;rw [hos])|(refine wo ?_;first|(refine ao ?_;first|refine aw ?_|refine oa ?_)|refine oa ?_)|(refine gc ?_;first|(refine ci (fun hB=>?_) (fun hB=>?_) <;> try (exfalso;omega)))|refine sq ?_|refine rg ?_|refine xc ?_|refine nl ?_|refine xe ?_|refine xb ?_
   all_goals first | (exfalso;omega) | exact lp (k - 1,s') ⟨by dsimp only;omega,hko,hfo,hmd⟩ (by dsimp only;omega) (hs:=by (repeat (refine Sub.cons rfl (by first | rfl | go_num) ?_));exact Sub.nil) (hf:=by dsimp only;exact fitA)
 ·have hLn:∀ F b o c,Has F (vw (.slice (some ⟨b,o,none⟩) (l.length + 4) c) (By (spareB l)))→Has F (vw (.slice (some ⟨b,o,none⟩) l.length c) (By l)):=fun F b o c h=>by
   have:=has_lentB h;rwa [lent_form] at this
  have hT:=fun b2 o3 c2=>Take_tr p h s hks (.slice (some ⟨b2,o3,none⟩) l.length c2) l hl hin rfl
  have hR:=RTake_tr q r s hr hfs bv l hl hin
  have hti:=take_in s l
  have hko:=take_ok hks l
  have hfo:=take_fit hks hfs l
  have hmd:=take_md s l
  have hA:=alike_tr p q h r (s.take l).1.1 (by have:=hko.n3;omega)
  generalize s.take l = st at *
  obtain ⟨⟨s',outs⟩,e⟩:=st
  dsimp only at hT hR hti hko hfo hmd hA
  repeat' first|(refine gca ?_;first|(refine ca (LentBytes_tr bv l hl) ?_;rintro _ _ ⟨b2,o3,c2,hc2,rfl,rfl⟩)|(refine ca (hT b2 o3 c2) ?_ (hp:=has1 (hLn _ _ _ _ hasA) has0);rintro _ _ ⟨o,os,rfl,ho,hos,rfl⟩)|(refine ca hR ?_;rintro _ _ ⟨o2,os2,rfl,hos2,rfl⟩)|(refine ca (SameLists_tr o o2 os os2 outs hti) ?_ (hp:=has1 hasA (has1 (has_relg memA) (has1 hasA (has1 (has_owl hos2 memA) has0))));rintro _ _ ⟨rfl,rfl⟩)|(refine ca (KeptBytes_tr b2 o3 c2 bv l hin hl hc2) ?_;rintro _ _ ⟨rfl,rfl⟩)|(refine ca hA ?_;rintro _ _ ⟨rfl,rfl⟩))|(refine gca ?_;refine TO.im (lent_own (b:=b2) (o:=o3) (c:=c2) (l:=l) fitA) ?_;refine ca (OverBytes_tr _ l) ?_;rintro _ _ rfl)|(refine wo ?_;first|(refine ao ?_;first|refine oa ?_)|refine oa ?_|refine ld ?_|refine gy ?_|(refine gsi (fun hB=>?_) (fun hB=>?_) <;> try (exfalso;omega)))|(refine gc ?_;first|(refine ci (fun hB=>?_) (fun hB=>?_) <;> try (exfalso;omega)))|refine sq ?_|refine rg ?_|refine xc ?_|refine nl ?_|refine xe ?_|refine rt ?_
  all_goals first | (exfalso;omega) | exact r1 ⟨rfl,s',hko,hfo,hmd.1,hmd.2,rfl⟩
end Go.Art.Sn
set_option maxRecDepth 2000
namespace Go.Art.Sn
open Go Go.Proofs Go.RowKit Go.Art
attribute [local irreducible] Fit pt own ro vw mpc lpt vels rels mow lrc dfr
attribute [local irreducible] lmp lme mit velg relg bnd owl vwf frz prs chp SP.tick SP.take
abbrev TAl:TypeId:=27
set_option maxRecDepth 20000 in
set_option maxHeartbeats 8000000 in
theorem SenderScript_tr (m:MfS) (tv dv:Value) (d:List Int) (ses bud tmo:Int) (v:Value) (ts:List Int) (hs:List Value) (ls:List (List Int)) (hts:ts.length = ls.length) (htv:tv.oneCell' = true) (hdv:dv.oneCell' = true)
  (hsd:m.seed ≤ 9223372036854775807) (hdin:inB d) (hin:∀ l ∈ ls,inB l) (hone:∀ h ∈ hs,h.oneCell' = true) :
  Tr Tryz.prog 3 [.agg #[I m.size,I m.sym,I m.k,I m.seed,tv,dv,I ses,I bud,I tmo],v] [vw tv (Is m.t),vw dv (By d),vwf v ls.length (pc ((Is ts).zip hs)),velg y8 hs ls] []
   fun r D=>r = .bool true∧D = []:=by
 have hL:=LongT_tr m tv dv d ses bud tmo v ts hs ls hts htv hdv
 refine Tr.enter env _ Tryz.func3 (by kernel_rfl) rfl Tryz.ntmps3 rfl (by repeat (first | exact has00 | refine has01 ?_)) fun w0=>?_
 refine TC.elg (g:=y8) (hs:=hs) (ls:=ls) (fun hhl=>?_)
 refine TC.leni (v:=tv) (l:=m.t) fun htl=>?_
 refine sq ?_
 refine rg ?_
 refine bx fun q=>?_
 refine oa ?_
 refine nl ?_
 refine xc ?_
 refine sq ?_
 refine sq ?_
 refine rg ?_
 refine lda ?_
 refine oa ?_
 refine ca hL ?_ (hp:=has1 (has_vw memA) (has1 (has_vw memA) (has1 (has_vwf memA) (has1 (has_velg memA) has0))))
 rintro _ _ ⟨b,rfl,rfl,hb⟩
 cases b
 rotate_left
 ·repeat' first|(refine gca ?_;first|(refine ca awake_tr ?_;rintro _ _ ⟨rfl,rfl⟩))|(refine wo ?_;first|refine oa ?_)|(refine gc ?_;first|refine ct ?_)|refine sq ?_|refine rg ?_|refine xc ?_|refine nl ?_|refine rt ?_
  exact r1 ⟨rfl,rfl⟩
 obtain ⟨hd2,hl30,ht40,h400⟩:=hb rfl
 have hCB:=CopyBytes_tr dv d (by omega)
 have hNS:=fun t2 d2 h2=>SNew_tr m t2 d2 d ses bud tmo h2 hsd (by omega)
 have hNR:=RNew29_tr m tv dv d ses bud tmo htv hdv hsd (by omega)
 have hSM:=fun t2 h2=>SameManifest_tr m t2 tv h2 htv
 have hSB:=fun d2=>SameBytes_tr d2 dv d d hdin hdin
 rw [decide_eq_true (show d = d from rfl)] at hSB
 have hOI:=fun t2=>OverInts_tr t2 m.t
 have hOB:=fun d2=>OverBytes_tr d2 d
 have hCM:=CopyManifest_tr m tv htv (by omega)
 have hAw:=awake_tr
 repeat' first|refine sq_cutX (a:=.region 3 _ _) (ι:=Value × Value × Nat) (fun g=>g.1.oneCell' = true∧g.2.1.oneCell' = true) (fun g=>[(1,v),(2,ptr q),(4,.bool false),(5,ptr g.2.2),(6,g.2.1)]) (fun g=>[pt g.2.2 [I m.size,I m.sym,I m.k,I m.seed,g.1] TMf,own TKI g.1 (Is m.t),own TyB g.2.1 (By d),pt q [I m.size,I m.sym,I m.k,I m.seed,tv,dv,I ses,I bud,I tmo] TAl,vw tv (Is m.t),vw dv (By d),vwf v ls.length (pc ((Is ts).zip hs)),velg y8 hs ls]) ?_ (fun kb=>?_)|(refine gc ?_;first|refine cf ?_)|refine xc ?_|refine nl ?_|refine sk ?_
 rotate_left
 ·skip
  refine rs (fun w=>w.heap[q]? = some (.cells [I m.size,I m.sym,I m.k,I m.seed,tv,dv,I ses,I bud,I tmo].toArray TAl (0,0))) ?_ (fun w hw=>pt_at memA hw)
  refine tka 0 ?_
  refine tk 1 (v:=.agg #[I m.size,I m.sym,I m.k,I m.seed,tv]) (hi:=rfl) (fun w h0=>by exact R_loadA (E:=env) (cs:=[I m.size,I m.sym,I m.k,I m.seed,tv,dv,I ses,I bud,I tmo]) (vs:=[I m.size,I m.sym,I m.k,I m.seed,tv]) rfl rfl rfl rfl h0 rfl rfl) ?_
  refine tka 3 ?_
  refine tkl 4 (cs:=[I m.size,I m.sym,I m.k,I m.seed,tv,dv,I ses,I bud,I tmo]) (fun w h0=>h0) ?_
  refine t2 2 6 ?_ ?_
  ·refine ca hCM ?_
   rintro _ _ ⟨tv2,rfl,htv2,rfl⟩
   refine nl ?_
   refine te (fun w hw=>pt_at memA hw) ?_
   refine t2 5 6 ?_ ?_
   ·refine ca hCB ?_
    rintro dv2 _ ⟨hdv2,rfl⟩
    refine nl ?_
    refine te (fun w hw=>pt_at memA hw) ?_
    refine t1 6 ?_
    refine al fun z=>?_
    refine nl ?_
    refine te (fun w hw=>pt_at memA hw) ?_
    refine t1 7 ?_
    refine srz ?_
    refine nl ?_
    refine te (fun w hw=>pt_at memA hw) ?_
    refine tka 8 ?_
    refine t0 ?_
    refine xc ?_
    exact kb (tv2,dv2,z) ⟨htv2,hdv2⟩ _ _ (by (repeat (refine Sub.cons rfl (by first | rfl | go_num) ?_));exact Sub.nil) fitA
   ·refine al fun z=>?_
    refine nl ?_
    refine te (fun w hw=>pt_at memA hw) ?_
    refine t1 5 ?_
    refine ca hCB ?_
    rintro dv2 _ ⟨hdv2,rfl⟩
    refine nl ?_
    refine te (fun w hw=>pt_at memA hw) ?_
    refine t1 7 ?_
    refine srz ?_
    refine nl ?_
    refine te (fun w hw=>pt_at memA hw) ?_
    refine tka 8 ?_
    refine t0 ?_
    refine xc ?_
    exact kb (tv2,dv2,z) ⟨htv2,hdv2⟩ _ _ (by (repeat (refine Sub.cons rfl (by first | rfl | go_num) ?_));exact Sub.nil) fitA
  ·refine al fun z=>?_
   refine nl ?_
   refine te (fun w hw=>pt_at memA hw) ?_
   refine t1 2 ?_
   refine ca hCM ?_
   rintro _ _ ⟨tv2,rfl,htv2,rfl⟩
   refine nl ?_
   refine te (fun w hw=>pt_at memA hw) ?_
   refine t1 5 ?_
   refine ca hCB ?_
   rintro dv2 _ ⟨hdv2,rfl⟩
   refine nl ?_
   refine te (fun w hw=>pt_at memA hw) ?_
   refine t1 7 ?_
   refine srz ?_
   refine nl ?_
   refine te (fun w hw=>pt_at memA hw) ?_
   refine tka 8 ?_
   refine t0 ?_
   refine xc ?_
   exact kb (tv2,dv2,z) ⟨htv2,hdv2⟩ _ _ (by (repeat (refine Sub.cons rfl (by first | rfl | go_num) ?_));exact Sub.nil) fitA
 rintro ⟨tv2,dv2,z⟩ ⟨htv2,hdv2⟩
 dsimp only at htv2 hdv2 ⊢
 replace hNS:=hNS tv2 dv2 htv2
 replace hSM:=hSM tv2 htv2
 replace hSB:=hSB dv2
 replace hOI:=hOI tv2
 replace hOB:=hOB dv2
 by_cases hE:newSE m d ses bud tmo = 0
 rotate_left
 ·have hN1:=hNS.mono (R':=fun v D=>v = tup2 nP (I (newSE m d ses bud tmo))∧D = []) (by rintro v D (⟨h0,_⟩ | ⟨_,h⟩);exact absurd h0 hE;exact h)
  have hN2:=hNR.mono (R':=fun v D=>v = tup2 nP (I (newSE m d ses bud tmo))∧D = []) (by rintro v D (⟨h0,_⟩ | ⟨_,h⟩);exact absurd h0 hE;exact h)
  generalize newSE m d ses bud tmo = e at *
  repeat' first|(refine gca ?_;first|(refine ca hN1 ?_;rintro _ _ ⟨rfl,rfl⟩)|(refine ca hN2 ?_;rintro _ _ ⟨rfl,rfl⟩)|(refine ca hSM ?_;rintro _ _ ⟨rfl,rfl⟩)|(refine ca hSB ?_;rintro _ _ ⟨rfl,rfl⟩)|(refine ca hAw ?_;rintro _ _ ⟨rfl,rfl⟩))|refine lda ?_|refine ibn ?_|(refine wo ?_;first|(refine ao ?_;first|refine oa ?_|refine ipe ?_)|refine oa ?_|refine ld ?_|refine gy ?_|(refine gsn (fun hB=>?_) (fun hB=>?_) <;> try (exfalso;omega)))|(refine gc ?_;first|refine ct ?_|refine cf ?_)|refine sq ?_|refine rg ?_|refine xc ?_|refine nl ?_|refine sk ?_|refine rt ?_
  all_goals first | (exfalso;omega) | exact r1 ⟨rfl,rfl⟩
 have hN1:=hNS.mono (R':=fun v D=>∃ p h,v = tup2 (ptr p) (I 0)∧(SP.new m d ses bud tmo).ok h∧D = sndP p h (SP.new m d ses bud tmo)) (by rintro v D (⟨_,h⟩ | ⟨h0,_⟩);exact h;exact absurd hE h0)
 have hN2:=hNR.mono (R':=fun v D=>∃ p dn sn,v = tup2 (ptr p) (I 0)∧D = rsP p ⟨tv,dv,dn,sn⟩ (SP.new m d ses bud tmo)) (by rintro v D (⟨_,h⟩ | ⟨h0,_⟩);exact h;exact absurd hE h0)
 have hf0:=new_fit hsd hE
 have hm0:(SP.new m d ses bud tmo).m = m:=rfl
 have hd0:(SP.new m d ses bud tmo).d = d:=rfl
 generalize SP.new m d ses bud tmo = s0 at *
 repeat' first|(refine gca ?_;first|(refine ca hN1 ?_;rintro _ _ ⟨p,h,rfl,hok0,rfl⟩)|(refine ca hN2 ?_;rintro _ _ ⟨p2,dn,sn,rfl,rfl⟩)|(refine ca hSM ?_;rintro _ _ ⟨rfl,rfl⟩)|(refine ca hSB ?_;rintro _ _ ⟨rfl,rfl⟩)|(refine ca hAw ?_;rintro _ _ ⟨rfl,rfl⟩)|(refine ca hOI ?_;rintro _ _ rfl)|(refine ca hOB ?_;rintro _ _ rfl))|refine lda ?_|refine ibn ?_|(refine wo ?_;first|(refine ao ?_;first|refine oa ?_|refine ipe ?_)|refine oa ?_|refine ld ?_|refine gy ?_)|(refine gc ?_;first|refine cf ?_)|refine sq ?_|refine rg ?_|refine xc ?_|refine nl ?_|refine sk ?_|refine bk ?_
 all_goals try (exfalso;omega)
 refine TC.loop (ι:=Nat × SP) (fun g=>[(11,I g.1)]) (fun g=>sndP p h g.2 ++ rsP p2 ⟨tv,dv,dn,sn⟩ g.2) (fun g=>g.1 ≤ ls.length∧g.2.ok h∧g.2.fit∧g.2.m = m∧g.2.d = d) (fun g=>ls.length - g.1) (0,s0) [1,7,9] ⟨by simp,hok0,hf0,hm0,hd0⟩ ?_ (hf:=by dsimp only;exact fitA)
 rintro ⟨i,s⟩ ⟨hi,hks,hfs,hsm,hsd2⟩
 dsimp only at hi hks hfs hsm hsd2 ⊢
 by_cases hlt:i < ls.length
 ·have hD:=does_tr p p2 h ⟨tv,dv,dn,sn⟩ s m d hks hfs hsm hsd2 ⟨htv,hdv⟩ (ts.getD i 0) (hs.getD i nS) (ls.getD i []) (by have:=h400 i hlt;omega) (hin _ (getD_memL hlt)) (hone _ (by rw [List.getD_eq_getElem?_getD,List.getElem?_eq_getElem (by omega)];exact List.getElem_mem _))
  dsimp only at hD
  repeat' first|(refine gca ?_;first|(refine ca hD ?_ (hp:=has1 (has_elg (has_velg memA) hlt) (has1 (has_vw memA) (has1 (has_vw memA) has0)));rintro _ _ ⟨rfl,s2,h1,h2,h3,h4,rfl⟩))|refine lnf ?_|refine ixfn ?_|(refine ldaf (act2 (ts:=ts) (hs:=hs) (i:=i) (by omega) (by omega)) ?_)|(refine wo ?_;first|(refine ao ?_;first|refine aw ?_|refine oa ?_)|refine oa ?_)|(refine gc ?_;first|refine cf ?_|(refine ci (fun hB=>?_) (fun hB=>?_) <;> try (exfalso;omega)))|refine sq ?_|refine rg ?_|refine xc ?_|refine nl ?_|refine sk ?_|refine bk ?_|refine xb ?_
  all_goals first | (exfalso;omega) | exact lp (i + 1,s2) ⟨hlt,h1,h2,h3,h4⟩ (by dsimp only;omega) (hs:=by (repeat (refine Sub.cons rfl (by first | rfl | go_num) ?_));exact Sub.nil) (hf:=by dsimp only;exact fitA)
 ·have hA:=alike_tr p p2 h ⟨tv,dv,dn,sn⟩ s (by have:=hks.n3;omega)
  dsimp only at hA
  repeat' first|(refine gca ?_;first|(refine ca hA ?_;rintro _ _ ⟨rfl,rfl⟩)|(refine ca hAw ?_;rintro _ _ ⟨rfl,rfl⟩))|refine lnf ?_|(refine wo ?_;first|(refine ao ?_;first|refine oa ?_)|refine oa ?_|refine gy ?_)|(refine gc ?_;first|(refine ci (fun hB=>?_) (fun hB=>?_) <;> try (exfalso;omega)))|refine sq ?_|refine rg ?_|refine xc ?_|refine nl ?_|refine xe ?_|refine rt ?_
  all_goals first | (exfalso;omega) | exact r1 ⟨rfl,rfl⟩
end Go.Art.Sn
set_option maxRecDepth 2000
namespace Go.Art.Sn
open Go Go.Proofs Go.RowKit Go.Art
theorem SenderScript_law {w:World} {a l:Value} (ha:InAll w a) (hl:InActs w l):Fn Tryz.prog 3 [a,l] w fun v w'=>v = .bool true∧Ext w w':=by
 obtain ⟨m,tv,dv,d,ses,bud,tmo,rfl,o4,o5,s4,s5,hd,hsd,_,_⟩:=ha
 obtain ⟨ts,hs,ls,h1,h2,h3,h4,h5⟩:=hl
 exact (SenderScript_tr m tv dv d ses bud tmo l ts hs ls h1 o4 o5 hsd hd h4 h5).law (SatL.cons s4 (SatL.cons s5 (acts_sat h2 h3 (SatL.nil w)))).s
end Go.Art.Sn
