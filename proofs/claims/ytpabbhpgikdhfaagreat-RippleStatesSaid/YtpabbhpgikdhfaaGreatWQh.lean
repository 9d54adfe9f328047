/- Texts put together: Di Dj Dk Dl Dm Dn Do Ig Dp Vj Vk Gp Ga Vl Rr Zj Vn Vp Vq Vs If Ih Ii Ij Dq Dr. Conditions: none. -/
import Derived.Test.YtpabbhpgikdhfaaGreatWQg
set_option linter.unusedSimpArgs false
set_option linter.unusedVariables false
namespace Go.Art
open Go Go.Proofs Go.RowKit
theorem owl_repG {e:TypeId} {g:Int→Value} (F:List Ch):∀ n:Nat,Im F (owl e g (List.replicate n nS) (List.replicate n []) :: F)
 | 0=>owl_nil F
 | n + 1=>by
  refine (owl_repG (e:=e) (g:=g) F n).trans ?_
  rw [List.replicate_succ',List.replicate_succ']
  exact (own_nil e _).trans (owl_snoc (e:=e) (g:=g) (by simp) nS [] F)
theorem numZ_rep (n:Nat):numZ (List.replicate n 0) = List.replicate n []:=by
 unfold numZ;rw [List.map_replicate,dg_zero];rfl
structure MR (n D:Nat) (g:Nat→Nat→Nat) (l:List Rat):Prop where
 len:l.length = (n + 1) * (n + 1)
 eq:∀ i j,i ≤ n→j ≤ n→((g i j:Nat):Rat) = (D:Rat) * l.getD (i * (n + 1) + j) 0
theorem pl_lt {n i j:Nat} (hi:i ≤ n) (hj:j ≤ n):i * (n + 1) + j < (n + 1) * (n + 1):=by
 have:=Nat.mul_le_mul_right (n + 1) hi
 rw [Nat.succ_mul];omega
theorem pl_inj {n i j a b:Nat} (hj:j ≤ n) (hb:b ≤ n) (h:a * (n + 1) + b = i * (n + 1) + j):a = i∧b = j:=by
 have h1:(a * (n + 1) + b) / (n + 1) = a:=by rw [Nat.mul_comm,Nat.mul_add_div (by omega),Nat.div_eq_of_lt (by omega),Nat.add_zero]
 have h2:(i * (n + 1) + j) / (n + 1) = i:=by rw [Nat.mul_comm,Nat.mul_add_div (by omega),Nat.div_eq_of_lt (by omega),Nat.add_zero]
 rw [h] at h1
 have h3:a = i:=by omega
 subst h3
 exact ⟨rfl,by omega⟩
theorem MR.put {n D:Nat} {g g':Nat→Nat→Nat} {l:List Rat} (h:MR n D g l) {i j x:Nat} (hi:i ≤ n) (hj:j ≤ n) (hg:∀ a b,g' a b = if a = i∧b = j then x else g a b) {q:Rat} (hx:(x:Rat) = (D:Rat) * q):MR n D g' (l.set (i * (n + 1) + j) q):=by
 refine ⟨by rw [List.length_set,h.len],fun a b ha hb=>?_⟩
 rw [hg,getD_setR _ _ _ _ (by rw [h.len];exact pl_lt hi hj)]
 by_cases e:a = i∧b = j
 ·rw [if_pos e,if_pos (by rw [e.1,e.2])];exact hx
 ·rw [if_neg e,if_neg fun g=>e (pl_inj hj hb g)];exact h.eq a b ha hb
theorem MR.add {n D:Nat} {g g':Nat→Nat→Nat} {l:List Rat} (h:MR n D g l) {i j x:Nat} (hi:i ≤ n) (hj:j ≤ n) (hg:∀ a b,g' a b = if a = i∧b = j then g i j + x else g a b) {q:Rat} (hx:(x:Rat) = (D:Rat) * q):MR n D g' (addAt l (i * (n + 1) + j) q):=by
 unfold addAt
 refine h.put hi hj hg ?_
 rw [Rat.natCast_add,h.eq i j hi hj,hx,Rat.mul_add]
theorem MR.zero (n D:Nat) {g:Nat→Nat→Nat} (hg:∀ i j,i ≤ n→j ≤ n→g i j = 0):MR n D g (List.replicate ((n + 1) * (n + 1)) 0):=
 ⟨by simp,fun i j hi hj=>by rw [hg i j hi hj,getD_repl,Rat.mul_zero];rfl⟩
theorem powM (x y:Rat):∀ n:Nat,(x * y) ^ n = x ^ n * y ^ n
 | 0=>by simp
 | n + 1=>by rw [Rat.pow_succ,powM x y n,Rat.pow_succ,Rat.pow_succ];grind
theorem powA (x:Rat) (a:Nat):∀ b:Nat,x ^ (a + b) = x ^ a * x ^ b
 | 0=>by simp
 | b + 1=>by rw [← Nat.add_assoc,Rat.pow_succ,powA x a b,Rat.pow_succ];grind
theorem powI {x:Rat} (h:x ≠ 0) (n:Nat):x⁻¹ ^ n * x ^ n = 1:=by
 rw [← powM,Rat.inv_mul_cancel _ h,one_powR]
theorem shareN_q {m s up F all:Nat} (hF:F ≠ 0) (hup:up ≤ F) (hs:s ≤ m) (hm:m ≤ all):((shareN m s up F all:Nat):Rat) = ((F ^ all:Nat):Rat) * shar ((up:Rat) / (F:Rat)) m s:=by
 unfold shareN shar
 obtain ⟨a,rfl⟩:=Nat.exists_eq_add_of_le hs
 obtain ⟨b,rfl⟩:=Nat.exists_eq_add_of_le hm
 obtain ⟨c,rfl⟩:=Nat.exists_eq_add_of_le hup
 rw [Nat.add_sub_cancel_left,Nat.add_sub_cancel_left,Nat.add_sub_cancel_left]
 have h0:=nz hF
 have h1:(1:Rat) - (up:Rat) / ((up + c:Nat):Rat) = (c:Rat) / ((up + c:Nat):Rat):=by
  rw [Rat.natCast_add] at h0 ⊢
  grind
 rw [h1,Rat.div_def,Rat.div_def,powM,powM,Rat.natCast_mul,Rat.natCast_mul,Rat.natCast_mul,Rat.natCast_pow,Rat.natCast_pow,Rat.natCast_pow,Rat.natCast_pow,powA,powA]
 generalize ((up + c:Nat):Rat) = F' at *
 have p1:=powI h0 s
 have p2:=powI h0 a
 generalize F' ^ s = x1 at *
 generalize F' ^ a = x2 at *
 generalize F' ^ b = x3 at *
 generalize F'⁻¹ ^ s = y1 at *
 generalize F'⁻¹ ^ a = y2 at *
 generalize (up:Rat) ^ s = z1
 generalize (c:Rat) ^ a = z2
 generalize ((chs (s + a) s:Nat):Rat) = z3
 grind
structure EmG where
 i:Nat
 hs:List Value
structure FiH (n:Nat) where
 r:Nat
 G:GM (n + 1) fun _=>n + 1
attribute [local irreducible] Fit pt own ro vw mpc lpt vels rels mow lrc dfr
attribute [local irreducible] lmp lme mit velg relg bnd owl dfrl evI solE
abbrev TLv:TypeId:=90
abbrev GS (n:Nat):Type:=GM (n + 1) fun _=>n + 1
theorem Rempty_tr (dv:Value) (hdv:dv.oneCell' = true) (n:Nat) (hn:n ≤ 12):Tr Tryz.prog 172 [I n,dv] [] [] fun u D=>∃ (v:Value) (G:GS n),u = .agg #[v,dv]∧v.oneCell' = true∧(∀ i j,G.get i j = 0)∧D = [mxP v G]:=by
 have hn1:(n:Int) + 1 = ((n + 1:Nat):Int):=rfl
 refine Tr.enter env _ Tryz.func172 (by kernel_rfl) rfl Tryz.ntmps172 rfl (by repeat (first | exact has00 | refine has01 ?_)) fun w0=>?_
 repeat' first|refine al fun c=>?_|(refine aw (m:=(n:Int) + 1) ?_;rw [hn1])|(refine mk (m:=((n + 1:Nat):Int)) (fun v=>?_);rw [Int.toNat_natCast];refine TO.one (v:=v) (xs:=List.replicate (n + 1) nS) fun hv=>?_)|(refine wo ?_;first|refine oa ?_)|refine sq ?_|refine rg ?_|refine xc ?_|refine nl ?_|refine bk ?_
 refine TC.im (rows_nil _) ?_
 refine TC.loop (ι:=EmG) (fun g=>[(6,I g.i)]) (fun g=>[own TNN v (g.hs ++ List.replicate (n + 1 - g.i) nS),bnd (rowsL g.hs (List.replicate g.i (List.replicate (n + 1) nS)) (List.replicate g.i (List.replicate (n + 1) 0)))]) (fun g=>g.i ≤ n + 1∧g.hs.length = g.i) (fun g=>n + 1 - g.i) ⟨0,[]⟩ [0,1,4,5] ⟨Nat.zero_le _,rfl⟩ ?_
 rintro ⟨i,hs⟩ ⟨hi,hhl⟩
 dsimp only at hi hhl ⊢
 by_cases hlt:i < n + 1
 ·obtain ⟨m,hm⟩ : ∃ m,n + 1 - i = m + 1:=⟨n - i,by omega⟩
  have hst:∀ h,(hs ++ List.replicate (m + 1) nS).set i h = (hs ++ [h]) ++ List.replicate m nS:=fun h=>by
   rw [List.set_append_right _ _ (by omega),hhl,Nat.sub_self,List.replicate_succ,List.set_cons_zero,List.append_assoc];rfl
  rw [hm]
  repeat' first|(refine aw (m:=(n:Int) + 1) ?_;rw [hn1])|(refine mk (m:=((n + 1:Nat):Int)) (fun h=>?_);rw [Int.toNat_natCast];refine TO.one (v:=h) (xs:=List.replicate (n + 1) nS) fun hh=>?_)|refine ixn (i:=i) (xs:=hs ++ List.replicate (m + 1) nS) ?_ (hb:=by rw [List.length_append,List.length_replicate];omega)|refine so (xs:=hs ++ List.replicate (m + 1) nS) (j:=i) ?_ (hj:=by rw [List.length_append,List.length_replicate];omega)|(refine wo ?_;first|(refine ao ?_;first|refine aw ?_|refine oa ?_)|refine oa ?_)|(refine gc ?_;first|(refine ci (fun hB=>?_) (fun hB=>?_) <;> try (exfalso;omega)))|refine sq ?_|refine rg ?_|refine xc ?_|refine nl ?_|refine sk ?_|refine bk ?_|refine xb ?_
  rw [hst]
  refine TX.im (owl_repG (e:=T64) (g:=wU) _ (n + 1)) ?_
  rw [← numZ_rep (n + 1)]
  refine TX.im (rows_snoc (hs:=hs) (cs:=List.replicate i (List.replicate (n + 1) nS)) (ms:=List.replicate i (List.replicate (n + 1) 0)) (by rw [List.length_replicate];exact hhl) (by rw [List.length_replicate,List.length_replicate]) h (List.replicate (n + 1) nS) (List.replicate (n + 1) 0) fitA) ?_
  rw [← List.replicate_succ',← List.replicate_succ']
  exact lp ⟨i + 1,hs ++ [h]⟩ ⟨hlt,by simp [hhl]⟩ (hf:=by dsimp only;rw [show n + 1 - (i + 1) = m by omega];exact fitA)
 ·obtain rfl:i = n + 1:=by omega
  rw [Nat.sub_self,List.replicate_zero,List.append_nil]
  repeat' first|refine bdz ?_|refine srz ?_|(refine wo ?_;first|(refine ao ?_;first|refine oa ?_)|refine oa ?_)|(refine gc ?_;first|(refine ci (fun hB=>?_) (fun hB=>?_) <;> try (exfalso;omega)))|refine sq ?_|refine rg ?_|refine xc ?_|refine nl ?_|refine xe ?_|refine rt ?_
  refine TX.im (rows_done (mkG (C:=fun _=>n + 1) (hs:=hs) (cs:=List.replicate (n + 1) (List.replicate (n + 1) nS)) (ms:=List.replicate (n + 1) (List.replicate (n + 1) 0)) hhl (by simp) (by simp) (fun a ha=>by simp [List.getD_eq_getElem?_getD,ha]) (fun a ha=>by simp [List.getD_eq_getElem?_getD,ha])) v fitA) ?_
  refine rca1 (cs:=[v,dv]) (vs:=[v,dv]) (T:=TLv) ⟨v,_,rfl,hv,fun a b=>?_,rfl⟩
  show ((List.replicate (n + 1) (List.replicate (n + 1) 0)).getD a []).getD b 0 = 0
  rw [List.getD_eq_getElem?_getD (l:=List.replicate (n + 1) (List.replicate (n + 1) 0)),List.getElem?_replicate]
  split
  ·show (List.replicate (n + 1) 0).getD b 0 = 0
   rw [List.getD_eq_getElem?_getD,List.getElem?_replicate]
   split <;> rfl
  ·rfl
end Go.Art
namespace Go.Art
open Go Go.Proofs Go.RowKit
theorem rat01 {p:Rat} (h0:0 ≤ p) (h1:p ≤ 1):p.num.natAbs ≤ p.den∧((p.num.natAbs:Nat):Rat) / (p.den:Rat) = p:=by
 have e:(p.num:Rat) / (p.den:Rat) = p:=by rw [← Rat.mkRat_eq_div,Rat.mkRat_self]
 have e3:((p.num.natAbs:Nat):Rat) = (p.num:Rat):=by
  rw [← Rat.intCast_natCast,Int.natAbs_of_nonneg (Rat.num_nonneg.2 h0)]
 rw [← e3] at e
 refine ⟨?_,e⟩
 have hd:(0:Rat) < (p.den:Rat):=by
  have h2:=(FrQ.nat p.den).nonneg
  have h3:=nz p.den_nz
  grind
 rw [← e] at h1
 exact Rat.natCast_le_natCast.1 (div_le1 hd h1)
attribute [local irreducible] Fit pt own ro vw mpc lpt vels rels mow lrc dfr
attribute [local irreducible] lmp lme mit velg relg bnd owl dfrl evI solE shareN firP
abbrev LvO (n:Nat) (l:List Rat) (u:Value) (D:List Ch):Prop:=∃ (v dv:Value) (G:GS n) (W:Nat),u = .agg #[v,dv]∧v.oneCell' = true∧dv.oneCell' = true∧W ≠ 0∧MR n W G.get l∧D = [mxP v G,own T64 dv (Us (dg W))]
theorem Rfirst_tr (tv:Value) (t:List Int) (k n:Nat) (hz:solE t k = 0) (hk:k ≤ 40) (hl:t.length ≤ 12) (hn:n ≤ 12):Tr Tryz.prog 110 [tv,I k,I n] [vw tv (Is t)] []
  fun u D=>∃ (v dv:Value) (G:GS n),u = .agg #[v,dv]∧v.oneCell' = true∧dv.oneCell' = true∧MR n ((pT t k).den ^ n) G.get (firstR (pT t k) n)∧D = [mxP v G,own T64 dv (Us (dg ((pT t k).den ^ n)))]:=by
 have hk1:=(solE_zero hz).1
 have hI:=RIn24_tr tv t k k 1 hz hk hl (Nat.le_refl k) (by omega)
 have hpF:FB (pT t k) 12:=evI_FB hz hk hl (Nat.le_refl k) (Nat.le_refl _)
 have hCh:=pT_ch hz
 obtain ⟨hup,hpq⟩:=rat01 hCh.fr.nonneg hCh.le
 rw [show evI t.length k (omg t k) k 1 = pT t k from rfl] at hI
 have hden:=(pT t k).den_nz
 have hPw:=fun v=>Rpow_tr v (pT t k).den n hpF.2 hn
 have hE:=fun o ho=>Rempty_tr o ho n hn
 have hSh:=fun a b r (hr:r ≤ n)=>Rshare_tr a b n r (pT t k).num.natAbs (pT t k).den n hr (Nat.le_refl n) hn hup hpF.2
 have hsq:=fun r (hr:r ≤ n)=>shareN_q (up:=(pT t k).num.natAbs) (F:=(pT t k).den) (m:=n) (s:=r) (all:=n) hden hup hr (Nat.le_refl n)
 simp only [hpq] at hsq
 clear hz hCh hpq hpF
 generalize pT t k = p at *
 rw [← firP_all]
 obtain ⟨W,hW⟩ : ∃ W,W = p.den ^ n:=⟨_,rfl⟩
 rw [← hW] at hPw hsq ⊢
 unfold FQ2 at hI
 clear hW hup
 refine Tr.enter env _ Tryz.func110 (by kernel_rfl) rfl Tryz.ntmps110 rfl (by repeat (first | exact has00 | refine has01 ?_)) fun w0=>?_
 repeat' first|(refine gca ?_;first|(refine ca hI ?_;rintro _ _ ⟨n1,d1,rfl,hn1,hd1,rfl⟩)|(refine ca (hPw d1) ?_;rintro o _ ⟨ho,rfl⟩)|(refine ca (hE o ho) ?_;rintro _ _ ⟨v,G0,rfl,hv,hG0,rfl⟩))|refine al fun c=>?_|refine srz ?_|(refine wo ?_;first|refine oa ?_|refine ld ?_)|refine sq ?_|refine rg ?_|refine xc ?_|refine nl ?_|refine bk ?_
 rename_i c6 c7
 clear hI hPw hE
 refine TC.loop (ι:=FiH n) (fun g=>[(10,I g.r)]) (fun g=>[mxP v g.G]) (fun g=>g.r ≤ n + 1∧MR n W g.G.get (firP p n g.r)) (fun g=>n + 1 - g.r) ⟨0,G0⟩ [0,1,2,6,7,9] ⟨Nat.zero_le _,by dsimp only;rw [firP_zero];exact MR.zero n W fun i j _ _=>hG0 i j⟩ ?_
 clear hG0
 rintro ⟨r,G⟩ ⟨hr,hG⟩
 dsimp only at hr hG ⊢
 by_cases hlt:r < n + 1
 rotate_left
 ·obtain rfl:r = n + 1:=by omega
  repeat' first|refine lda ?_|refine srz ?_|(refine wo ?_;first|(refine ao ?_;first|refine oa ?_)|refine oa ?_)|(refine gc ?_;first|(refine ci (fun hB=>?_) (fun hB=>?_) <;> try (exfalso;omega)))|refine sq ?_|refine rg ?_|refine xc ?_|refine nl ?_|refine xe ?_|refine rt ?_
  exact rca1 (cs:=[v,o]) (vs:=[v,o]) (T:=TLv) ⟨v,o,G,rfl,hv,ho,hG,rfl⟩
 have hS1:=hSh n1 d1 r (by omega)
 have hnr:n - r < n + 1:=by omega
 have hput:=fun o2=>GM.get_put G hnr (show r < n + 1 by omega) o2 (shareN n r p.num.natAbs p.den n)
 have hMR:=fun o2=>hG.put (i:=n - r) (j:=r) (by omega) (by omega) (hput o2) (hsq r (by omega))
 simp only [← firP_succ] at hMR
 have hnri:(n:Int) - r = ((n - r:Nat):Int):=by omega
 clear hput hG hsq hSh
 generalize shareN n r p.num.natAbs p.den n = q at *
 obtain ⟨m,hm⟩ : ∃ m,m = n - r:=⟨_,rfl⟩
 rw [← hm] at hnr hnri
 simp only [← hm] at hMR
 repeat' first|(refine wo ?_;first|(refine ao ?_;first|refine oa ?_)|refine oa ?_)|(refine gc ?_;first|(refine ci (fun hB=>?_) (fun hB=>?_) <;> try (exfalso;omega)))|refine sq ?_|refine rg ?_|refine xc ?_|refine nl ?_|refine sk ?_|refine bk ?_
 refine rs (fun w=>w.heap[c]? = some (.cells [v,o].toArray TLv (0,0))∧w.heap[c7]? = some (.cells (rrow p (n1,d1)).toArray TRt (0,0))∧Sl w v G.h∧∃ xs,xs.length = n + 1∧Sl w (G.h.getD m nS) xs) ?_ (fun w hw=>⟨pt_at memA hw,pt_at memA hw,vm_hw (has_vmx memA) hw,vm_rw (has_vmx memA) hw hnr⟩)
 refine tka 0 ?_
 refine tkl 1 (cs:=[v,o]) (fun w h=>h.1) ?_
 refine tka 2 ?_
 refine tka 3 ?_
 refine tkw 4 ((m:Nat):Int) ?_
 refine tk 5 (v:=.pointer (some (addrAt v m))) (fun w h=>R_idx (E:=env) (i:=(m:Int)) rfl rfl rfl rfl h.2.2.1 ⟨by omega,by rw [G.hl];omega⟩) ?_
 refine tk 6 (v:=G.h.getD m nS) (fun w h=>R_load (E:=env) rfl rfl rfl (h.2.2.1.cell (gm_h hnr))) ?_
 refine tka 7 ?_
 refine tka 8 ?_
 refine tka 9 ?_
 refine tka 10 ?_
 refine tka 11 ?_
 refine tkl 12 (cs:=rrow p (n1,d1)) (fun w h=>h.2.1) ?_
 refine tka 13 ?_
 refine tkl 14 (cs:=rrow p (n1,d1)) (fun w h=>h.2.1) ?_
 refine tka 15 ?_
 refine t1 16 ?_
 refine ca hS1 ?_
 rintro o2 _ ⟨ho2,rfl⟩
 refine nl ?_
 refine te (fun w hw=>⟨pt_at memA hw,pt_at memA hw,vm_hw (has_vmx memA) hw,vm_rw (has_vmx memA) hw hnr⟩) ?_
 refine tk 17 (v:=.pointer (some (addrAt (G.h.getD m nS) r))) (fun w h=>h.2.2.2.elim fun xs hx=>R_idx (E:=env) (i:=(r:Int)) rfl rfl rfl rfl hx.2 ⟨by omega,by rw [hx.1];omega⟩) ?_
 refine t1 18 ?_
 refine smx (G:=G) (v:=v) (i:=m) (j:=r) (o:=o2) (q:=q) ?_ fitA hnr hlt ho2
 refine nl ?_
 refine te (fun w hw=>⟨pt_at memA hw,pt_at memA hw,vm_hw (has_vmx memA) hw,vm_rw (has_vmx memA) hw hnr⟩) ?_
 refine t0 ?_
 repeat' first|(refine wo ?_;first|(refine ao ?_;first|refine aw ?_)|refine oa ?_)|refine rg ?_|refine xc ?_|refine nl ?_|refine xb ?_
 exact lp ⟨r + 1,G.put m r o2 q⟩ ⟨hlt,hMR o2⟩
end Go.Art
namespace Go.Art
open Go Go.Proofs Go.RowKit
def opg (b:Bool) (gv:Value) (g:Nat):Ch:=match b with
 | true=>own T64 gv (Us (dg g))
 | false=>bnd []
theorem opg_in {gv:Value} {g:Nat} {A F:List Ch} (hf:Fit A [own T64 gv (Us (dg g))] F):Im A (opg true gv g :: F):=hf
theorem opg_none {gv:Value} {g:Nat} (A:List Ch):Im A (opg false gv g :: A):=bnd_nil A
theorem has_opg {F:List Ch} {b:Bool} {gv dv:Value} {g W:Nat} (h:opg b gv g ∈ F) (h2:own T64 dv (Us (dg W)) ∈ F) (hb:b = false→gv = dv∧g = W):Has F (vw gv (Us (dg g))):=by
 cases b with
 | true=>exact has_own (e:=T64) h
 | false=>obtain ⟨rfl,rfl⟩:=hb rfl;exact has_own (e:=T64) h2
theorem Us_pos {x:Nat} (h:x ≠ 0):0 < (Us (dg x)).length:=by rw [Us_len];exact dg_len_pos h
theorem Us_none {x:Nat} (h:x = 0):(Us (dg x)).length = 0:=by rw [Us_len,h,dg_zero];rfl
structure LoA where
 c:Nat
 b:Bool
 gv:Value
 g:Nat
structure LoB (n:Nat) where
 c:Nat
 G:GS n
attribute [local irreducible] Fit pt own ro vw mpc lpt vels rels mow lrc dfr
attribute [local irreducible] lmp lme mit velg relg bnd owl dfrl evI solE opg
set_option maxHeartbeats 2000000 in
theorem Rlow25_tr (v dv:Value) (hv:v.oneCell' = true) (hdv:dv.oneCell' = true) (n:Nat) (hn:n ≤ 12) (G:GS n) (W:Nat) (hW:W ≠ 0) (hWl:(dg W).length ≤ 262144) (hGl:∀ i j,i ≤ n→j ≤ n→(dg (G.get i j)).length ≤ 262144) :
  Tr Tryz.prog 179 [.agg #[v,dv],I n] [] [mxP v G,own T64 dv (Us (dg W))] fun u D=>∃ (dv':Value) (G':GS n) (g:Nat),u = .agg #[v,dv']∧dv'.oneCell' = true∧g ≠ 0∧g ∣ W∧(∀ i j,i ≤ n→j ≤ n→g ∣ G.get i j∧G'.get i j = G.get i j / g)∧D = [mxP v G',own T64 dv' (Us (dg (W / g)))]:=by
 refine Tr.enter env _ Tryz.func179 (by kernel_rfl) rfl Tryz.ntmps179 rfl (by repeat (first | exact has00 | refine has01 ?_)) fun w0=>?_
 repeat' first|refine bx fun c2=>?_|refine al fun c4=>?_|(refine wo ?_;first|refine oa ?_|refine ld ?_)|refine sq ?_|refine rg ?_|refine xc ?_|refine nl ?_|refine bk ?_
 refine TC.im (opg_none (gv:=dv) (g:=W) _) ?_
 refine TC.loop (ι:=LoA) (fun g=>[(6,I g.c),(5,g.gv)]) (fun g=>[opg g.b g.gv g.g]) (fun g=>g.c ≤ n + 1∧g.gv.oneCell' = true∧(g.g ≠ 0∧g.g ∣ W)∧(∀ i j,i < g.c→j ≤ n→g.g ∣ G.get i j)∧(g.b = false→g.gv = dv∧g.g = W)) (fun g=>n + 1 - g.c) ⟨0,false,dv,W⟩ [1,2,4] ⟨Nat.zero_le _,hdv,⟨hW,Nat.dvd_refl W⟩,fun i j h=>absurd h (Nat.not_lt_zero i),fun _=>⟨rfl,rfl⟩⟩ ?_
 rintro ⟨c,b,gv,g⟩ ⟨hc,hgv,⟨hg0,hgW⟩,hgG,hbf⟩
 dsimp only at hc hgv hg0 hgW hgG hbf ⊢
 by_cases hct:c < n + 1
 ·repeat' first|(refine wo ?_;first|(refine ao ?_;first|refine oa ?_)|refine oa ?_)|(refine gc ?_;first|(refine ci (fun hB=>?_) (fun hB=>?_) <;> try (exfalso;omega)))|refine sq ?_|refine rg ?_|refine xc ?_|refine nl ?_|refine sk ?_|refine bk ?_
  refine TC.loop (ι:=LoA) (fun g=>[(7,I g.c),(5,g.gv)]) (fun g=>[opg g.b g.gv g.g]) (fun g=>g.c ≤ n + 1∧g.gv.oneCell' = true∧(g.g ≠ 0∧g.g ∣ W)∧(∀ i j,(i < c∧j ≤ n)∨(i = c∧j < g.c)→g.g ∣ G.get i j)∧(g.b = false→g.gv = dv∧g.g = W)) (fun g=>n + 1 - g.c) ⟨0,b,gv,g⟩ [1,2,4,6] ⟨Nat.zero_le _,hgv,⟨hg0,hgW⟩,fun i j h=>by
   rcases h with h | h
   ·exact hgG i j h.1 h.2
   ·exact absurd h.2 (Nat.not_lt_zero j),hbf⟩ ?_
  clear hgv hg0 hgW hgG hbf
  rintro ⟨r,b,gv,g⟩ ⟨hr,hgv,⟨hg0,hgW⟩,hgG,hbf⟩
  dsimp only at hr hgv hg0 hgW hgG hbf ⊢
  by_cases hrt:r < n + 1
  ·have hgl:=hGl c r (by omega) (by omega)
   have hggl:(dg g).length ≤ 262144:=Nat.le_trans (dg_mono (Nat.le_of_dvd (Nat.pos_of_ne_zero hW) hgW)) hWl
   have hGc:=RGcd_tr ((G.c.getD c []).getD r nS) gv (dg (G.get c r)) (dg g) (Dg_dg _) (Dg_dg _) hgl hggl
   rw [nv_dg,nv_dg] at hGc
   by_cases hx:G.get c r = 0
   ·have hln:=Us_none hx
    clear hGl hGc hgl hggl
    repeat' first|refine ixn (i:=c) (xs:=G.h) ?_ (hh:=vm_h (has_vmx memA)) (hb:=by rw [G.hl];omega)|refine le (xs:=G.h) ?_ (hh:=vm_h (has_vmx memA)) (hj:=gm_h hct)|refine ixn (i:=r) (xs:=G.c.getD c []) ?_ (hh:=vm_r (has_vmx memA) hct) (hb:=by rw [G.cc c hct];omega)|refine le (xs:=G.c.getD c []) ?_ (hh:=vm_r (has_vmx memA) hct) (hj:=gm_c hct hrt)|(refine ln (xs:=Us (dg (G.get c r))) ?_ (hh:=vm_c (has_vmx memA) hct hrt);rw [hln])|(refine wo ?_;first|(refine ao ?_;first|refine aw ?_|refine oa ?_)|refine oa ?_|refine ld ?_)|(refine gc ?_;first|refine cf ?_|(refine ci (fun hB=>?_) (fun hB=>?_) <;> try (exfalso;omega)))|refine sq ?_|refine rg ?_|refine xc ?_|refine nl ?_|refine sk ?_|refine bk ?_|refine xb ?_
    exact lp ⟨r + 1,b,gv,g⟩ ⟨hrt,hgv,⟨hg0,hgW⟩,fun i j h=>by
     dsimp only at h
     by_cases e:i = c∧j = r
     ·rw [e.1,e.2,hx];exact Nat.dvd_zero g
     ·exact hgG i j (by omega),hbf⟩
   ·have hln:=Us_pos hx
    obtain ⟨m,hm⟩ : ∃ m:Nat,(Us (dg (G.get c r))).length = m + 1:=⟨(Us (dg (G.get c r))).length - 1,by omega⟩
    obtain ⟨g2,hg2⟩ : ∃ g2,g2 = Nat.gcd (G.get c r) g:=⟨_,rfl⟩
    have e1:g2 ∣ g:=by rw [hg2];exact Nat.gcd_dvd_right _ _
    have e2:g2 ∣ G.get c r:=by rw [hg2];exact Nat.gcd_dvd_left _ _
    have e0:g2 ≠ 0:=by rw [hg2];exact Nat.ne_of_gt (Nat.gcd_pos_of_pos_right _ (Nat.pos_of_ne_zero hg0))
    rw [← hg2] at hGc
    clear hGl hgl hggl hln hg2
    repeat' first|(refine gca ?_;first|(refine ca hGc ?_ (hp:=has1 (vm_c (has_vmx memA) hct hrt) (has1 (has_opg memA memA hbf) has0));rintro gw _ ⟨hgw,rfl⟩))|refine ixn (i:=c) (xs:=G.h) ?_ (hh:=vm_h (has_vmx memA)) (hb:=by rw [G.hl];omega)|refine le (xs:=G.h) ?_ (hh:=vm_h (has_vmx memA)) (hj:=gm_h hct)|refine ixn (i:=r) (xs:=G.c.getD c []) ?_ (hh:=vm_r (has_vmx memA) hct) (hb:=by rw [G.cc c hct];omega)|refine le (xs:=G.c.getD c []) ?_ (hh:=vm_r (has_vmx memA) hct) (hj:=gm_c hct hrt)|(refine ln (xs:=Us (dg (G.get c r))) ?_ (hh:=vm_c (has_vmx memA) hct hrt);rw [hm])|(refine wo ?_;first|(refine ao ?_;first|refine aw ?_|refine oa ?_)|refine oa ?_|refine ld ?_)|(refine gc ?_;first|(refine ci (fun hB=>?_) (fun hB=>?_) <;> try (exfalso;omega)))|refine sq ?_|refine rg ?_|refine xc ?_|refine nl ?_|refine sk ?_|refine bk ?_|refine xb ?_
    refine TX.im (opg_in fitA) ?_
    exact lp ⟨r + 1,true,gw,g2⟩ ⟨hrt,hgw,⟨e0,Nat.dvd_trans e1 hgW⟩,fun i j h=>by
     dsimp only at h ⊢
     by_cases e:i = c∧j = r
     ·rw [e.1,e.2];exact e2
     ·exact Nat.dvd_trans e1 (hgG i j (by omega)),fun h=>by cases h⟩
  ·obtain rfl:r = n + 1:=by omega
   repeat' first|(refine wo ?_;first|(refine ao ?_;first|refine aw ?_|refine oa ?_)|refine oa ?_)|(refine gc ?_;first|(refine ci (fun hB=>?_) (fun hB=>?_) <;> try (exfalso;omega)))|refine sq ?_|refine rg ?_|refine xc ?_|refine nl ?_|refine xe ?_|refine xb ?_
   exact lp ⟨c + 1,b,gv,g⟩ ⟨hct,hgv,⟨hg0,hgW⟩,fun i j h hj=>hgG i j (by dsimp only at h;omega),hbf⟩
 obtain rfl:c = n + 1:=by omega
 clear hct hc
 have hgG2:=fun i j (hi:i ≤ n) (hj:j ≤ n)=>hgG i j (by omega) hj
 have hggl:(dg g).length ≤ 262144:=Nat.le_trans (dg_mono (Nat.le_of_dvd (Nat.pos_of_ne_zero hW) hgW)) hWl
 have hDv:=fun cell x (hx:(dg x).length ≤ 262144)=>RDiv_tr cell gv (dg x) (dg g) (Dg_dg _) (Dg_dg _) (by omega) (by omega) (by rw [nv_dg];exact hg0)
 simp only [nv_dg] at hDv
 unfold DivR at hDv
 have hDW:=hDv dv W hWl
 clear hgG
 repeat' first|(refine wo ?_;first|(refine ao ?_;first|refine oa ?_)|refine oa ?_)|(refine gc ?_;first|(refine ci (fun hB=>?_) (fun hB=>?_) <;> try (exfalso;omega)))|refine sq ?_|refine rg ?_|refine xc ?_|refine nl ?_|refine bk ?_|refine xe ?_
 refine TC.loop (ι:=LoB n) (fun g=>[(8,I g.c)]) (fun g=>[mxP v g.G]) (fun q=>q.c ≤ n + 1∧∀ i j,i ≤ n→j ≤ n→q.G.get i j = if i < q.c then G.get i j / g else G.get i j) (fun g=>n + 1 - g.c) ⟨0,G⟩ [1,2,4,5] ⟨Nat.zero_le _,fun i j _ _=>by rw [if_neg (Nat.not_lt_zero i)]⟩ ?_
 rintro ⟨c,G2⟩ ⟨hc,hG2⟩
 dsimp only at hc hG2 ⊢
 by_cases hct:c < n + 1
 rotate_left
 ·obtain rfl:c = n + 1:=by omega
  generalize hWg:W / g = wg at *
  clear hDv hGl
  repeat' first|(refine gca ?_;first|(refine ca hDW ?_ (hp:=has1 hasA (has1 (has_opg memA memA hbf) has0));rintro _ _ ⟨qv,rv',rfl,hqv,hrv,rfl⟩))|refine lda ?_|refine srz ?_|(refine wo ?_;first|(refine ao ?_;first|refine oa ?_)|refine oa ?_|refine ld ?_|refine sr ?_)|(refine gc ?_;first|(refine ci (fun hB=>?_) (fun hB=>?_) <;> try (exfalso;omega)))|refine sq ?_|refine rg ?_|refine xc ?_|refine nl ?_|refine xe ?_|refine rt ?_
  exact rca1 (cs:=[v,qv]) (vs:=[v,qv]) (T:=TLv) ⟨qv,G2,g,rfl,hqv,hg0,hgW,fun i j hi hj=>⟨hgG2 i j hi hj,by rw [hG2 i j hi hj,if_pos (by omega)]⟩,by rw [hWg]⟩
 repeat' first|(refine wo ?_;first|(refine ao ?_;first|refine oa ?_)|refine oa ?_)|(refine gc ?_;first|(refine ci (fun hB=>?_) (fun hB=>?_) <;> try (exfalso;omega)))|refine sq ?_|refine rg ?_|refine xc ?_|refine nl ?_|refine sk ?_|refine bk ?_
 refine TC.loop (ι:=LoB n) (fun g=>[(9,I g.c)]) (fun g=>[mxP v g.G]) (fun q=>q.c ≤ n + 1∧∀ i j,i ≤ n→j ≤ n→q.G.get i j = if i < c∨(i = c∧j < q.c) then G.get i j / g else G.get i j) (fun g=>n + 1 - g.c) ⟨0,G2⟩ [1,2,4,5,8] ⟨Nat.zero_le _,fun i j hi hj=>by
  rw [hG2 i j hi hj]
  exact ifc (by dsimp only;omega) _ _⟩ ?_
 clear hG2
 rintro ⟨r,G2⟩ ⟨hr,hG2⟩
 dsimp only at hr hG2 ⊢
 by_cases hrt:r < n + 1
 rotate_left
 ·obtain rfl:r = n + 1:=by omega
  repeat' first|(refine wo ?_;first|(refine ao ?_;first|refine aw ?_|refine oa ?_)|refine oa ?_)|(refine gc ?_;first|(refine ci (fun hB=>?_) (fun hB=>?_) <;> try (exfalso;omega)))|refine sq ?_|refine rg ?_|refine xc ?_|refine nl ?_|refine xe ?_|refine xb ?_
  exact lp ⟨c + 1,G2⟩ ⟨hct,fun i j hi hj=>by
   rw [hG2 i j hi hj]
   exact ifc (by dsimp only;omega) _ _⟩
 have hcur:G2.get c r = G.get c r:=by rw [hG2 c r (by omega) (by omega),if_neg (by omega)]
 have hD1:=hDv ((G2.c.getD c []).getD r nS) (G2.get c r) (by rw [hcur];exact hGl c r (by omega) (by omega))
 have hput:=fun o=>GM.get_put G2 hct hrt o (G2.get c r / g)
 obtain ⟨q,hq⟩ : ∃ q,q = G2.get c r / g:=⟨_,rfl⟩
 rw [← hq] at hD1
 simp only [← hq] at hput
 have hqG:q = G.get c r / g:=by rw [hq,hcur]
 clear hDv hGl hDW hcur hq
 repeat' first|(refine wo ?_;first|(refine ao ?_;first|refine oa ?_)|refine oa ?_)|(refine gc ?_;first|(refine ci (fun hB=>?_) (fun hB=>?_) <;> try (exfalso;omega)))|refine sq ?_|refine rg ?_|refine xc ?_|refine nl ?_|refine sk ?_|refine bk ?_
 refine rs (fun w=>w.heap[c2]? = some (.cells [v,dv].toArray TLv (0,0))∧Sl w v G2.h∧∃ xs,xs.length = n + 1∧Sl w (G2.h.getD c nS) xs) ?_ (fun w hw=>⟨pt_at memA hw,vm_hw (has_vmx memA) hw,vm_rw (has_vmx memA) hw hct⟩)
 refine tka 0 ?_
 refine tkl 1 (cs:=[v,dv]) (fun w h=>h.1) ?_
 refine tka 2 ?_
 refine tk 3 (v:=.pointer (some (addrAt v c))) (fun w h=>R_idx (E:=env) (i:=(c:Int)) rfl rfl rfl rfl h.2.1 ⟨by omega,by rw [G2.hl];omega⟩) ?_
 refine tk 4 (v:=G2.h.getD c nS) (fun w h=>R_load (E:=env) rfl rfl rfl (h.2.1.cell (gm_h hct))) ?_
 refine tka 5 ?_
 refine tka 6 ?_
 refine tkl 7 (cs:=[v,dv]) (fun w h=>h.1) ?_
 refine tka 8 ?_
 refine tk 9 (v:=.pointer (some (addrAt v c))) (fun w h=>R_idx (E:=env) (i:=(c:Int)) rfl rfl rfl rfl h.2.1 ⟨by omega,by rw [G2.hl];omega⟩) ?_
 refine tk 10 (v:=G2.h.getD c nS) (fun w h=>R_load (E:=env) rfl rfl rfl (h.2.1.cell (gm_h hct))) ?_
 refine tka 11 ?_
 refine tk 12 (v:=.pointer (some (addrAt (G2.h.getD c nS) r))) (fun w h=>h.2.2.elim fun xs hx=>R_idx (E:=env) (i:=(r:Int)) rfl rfl rfl rfl hx.2 ⟨by omega,by rw [hx.1];omega⟩) ?_
 refine tka 14 ?_
 refine t1 13 ?_
 refine le (xs:=G2.c.getD c []) ?_ (hh:=vm_r (has_vmx memA) hct) (hj:=gm_c hct hrt)
 refine nl ?_
 refine te (fun w hw=>⟨pt_at memA hw,vm_hw (has_vmx memA) hw,vm_rw (has_vmx memA) hw hct⟩) ?_
 refine t1 15 ?_
 refine ca hD1 ?_ (hp:=has1 (vm_c (has_vmx memA) hct hrt) (has1 (has_opg memA memA hbf) has0))
 rintro _ _ ⟨qv,rv',rfl,hqv,hrv,rfl⟩
 refine nl ?_
 refine te (fun w hw=>⟨pt_at memA hw,vm_hw (has_vmx memA) hw,vm_rw (has_vmx memA) hw hct⟩) ?_
 refine tka 16 ?_
 refine tka 17 ?_
 refine tka 18 ?_
 refine tka 19 ?_
 refine tk 20 (v:=.pointer (some (addrAt (G2.h.getD c nS) r))) (fun w h=>h.2.2.elim fun xs hx=>R_idx (E:=env) (i:=(r:Int)) rfl rfl rfl rfl hx.2 ⟨by omega,by rw [hx.1];omega⟩) ?_
 refine t1 21 ?_
 refine smx (G:=G2) (v:=v) (i:=c) (j:=r) (o:=qv) (q:=q) ?_ fitA hct hrt hqv
 refine nl ?_
 refine te (fun w hw=>⟨pt_at memA hw,vm_hw (has_vmx memA) hw,vm_rw (has_vmx memA) hw hct⟩) ?_
 refine t0 ?_
 repeat' first|(refine wo ?_;first|(refine ao ?_;first|refine aw ?_)|refine oa ?_)|refine rg ?_|refine xc ?_|refine nl ?_|refine xb ?_
 refine lp ⟨r + 1,G2.put c r qv q⟩ ⟨hrt,fun i j hi hj=>?_⟩
 dsimp only
 rw [hput]
 by_cases e:i = c∧j = r
 ·rw [if_pos e,if_pos (by omega),e.1,e.2];exact hqG
 ·rw [if_neg e,hG2 i j hi hj];exact ifc (by omega) _ _
end Go.Art
namespace Go.Art
open Go Go.Proofs Go.RowKit
theorem vm_sh {N:Nat} {C:Nat→Nat} {v:Value} {G:GM N C} {F:List Ch} {w:World} (h:Has F (vmx v G)) (hw:Sat F w):Sl w v G.h:=(vm_h h).P w hw
theorem vm_sr {N:Nat} {C:Nat→Nat} {v:Value} {G:GM N C} {F:List Ch} {w:World} {i:Nat} (h:Has F (vmx v G)) (hi:i < N) (hw:Sat F w):Sl w (G.h.getD i nS) (G.c.getD i []):=(vm_r h hi).P w hw
theorem addAt_null (l:List Rat) (j:Nat):addAt l j 0 = l:=by
 unfold addAt
 rw [Rat.add_zero]
 refine List.ext_getElem (by simp) fun i h1 h2=>?_
 rw [List.getElem_set]
 split
 ·rename_i e;subst e;simp [List.getD_eq_getElem?_getD,h2]
 ·rfl
theorem outB_null {n:Nat} {f g y:Rat} {c r a:Nat} (l:List Rat) (h:shar f c a = 0):∀ b,outB n f g y c r a l b = l
 | 0=>rfl
 | b + 1=>by rw [outB_step,outB_null l h b,h,Rat.mul_zero,Rat.zero_mul,addAt_null]
theorem pl_div {n c r:Nat} (hr:r ≤ n):(c * (n + 1) + r) / (n + 1) = c:=by rw [Nat.mul_comm,Nat.mul_add_div (by omega),Nat.div_eq_of_lt (by omega),Nat.add_zero]
theorem pl_mod {n c r:Nat} (hr:r ≤ n):(c * (n + 1) + r) % (n + 1) = r:=by rw [Nat.mul_comm,Nat.mul_add_mod,Nat.mod_eq_of_lt (by omega)]
theorem MR.lv {n W:Nat} {X:Nat→Nat→Nat} {l:List Rat} (h:MR n W X l) (hW:W ≠ 0):Lv n W l:=⟨h.len,fun i hi=>by
 have h1:i / (n + 1) ≤ n:=Nat.le_of_lt_succ ((Nat.div_lt_iff_lt_mul (by omega)).2 hi)
 have h2:i % (n + 1) ≤ n:=Nat.le_of_lt_succ (Nat.mod_lt _ (by omega))
 have h3:=h.eq _ _ h1 h2
 rw [show i / (n + 1) * (n + 1) + i % (n + 1) = i by rw [Nat.mul_comm];exact Nat.div_add_mod i (n + 1)] at h3
 have h4:=nz hW
 exact ⟨X (i / (n + 1)) (i % (n + 1)),by rw [h3];grind⟩⟩
theorem MR.le {n D E:Nat} {g:Nat→Nat→Nat} {l:List Rat} (h:MR n D g l) (hl:Lv n E l) (ht:tot n l ≤ 1) {i j:Nat} (hi:i ≤ n) (hj:j ≤ n):g i j ≤ D:=by
 have h1:=h.eq i j hi hj
 have h2:=Rat.le_trans (hl.le_tot (pl_lt hi hj)) ht
 have h3:=Rat.mul_le_mul_of_nonneg_left h2 (FrQ.nat D).nonneg
 rw [← h1,Rat.mul_one] at h3
 exact Rat.natCast_le_natCast.1 h3
structure NxL (n D u:Nat) (f:Rat) (l:List Rat) (X A B:Nat→Nat→Nat) (oN:Nat→List Rat) (oA:Nat→Nat→Nat→List Rat) (oB:Nat→Nat→Nat→Nat→List Rat):Prop where
 zero:oN 0 = List.replicate ((n + 1) * (n + 1)) 0
 fst:∀ c,oN (c * (n + 1) + 1) = oN (c * (n + 1))
 lst:∀ c,c ≤ n→oN (c * (n + 1) + (n + 1 - c)) = oN ((c + 1) * (n + 1))
 none:∀ c r,c + r ≤ n→1 ≤ r→X c r = 0→oN (c * (n + 1) + (r + 1)) = oN (c * (n + 1) + r)
 a0:∀ c r,oA c r 0 = oN (c * (n + 1) + r)
 a1:∀ c r,c + r ≤ n→1 ≤ r→X c r ≠ 0→oN (c * (n + 1) + (r + 1)) = oA c r (c + 1)
 b0:∀ c r a,oB c r a 0 = oA c r a
 b1:∀ c r a,oA c r (a + 1) = oB c r a r
 step:∀ c r a b,c + r ≤ n→1 ≤ r→a ≤ c→b < r→∀ g g',MR n D g (oB c r a b)→(∀ x y,g' x y = if x = c - a∧y = r - 1 - b + a then g (c - a) (r - 1 - b + a) + X c r * A c a * B (r - 1) b else g x y)→MR n D g' (oB c r a (b + 1))
 bnd:∀ c r a b,c + r ≤ n→1 ≤ r→X c r ≠ 0→a ≤ c→b ≤ r→∀ g,MR n D g (oB c r a b)→∀ i j,i ≤ n→j ≤ n→g i j ≤ D
 all:oN ((n + 1) * (n + 1)) = nextR f (1 / (u:Rat)) n l
 fin:∀ g,MR n D g (nextR f (1 / (u:Rat)) n l)→∀ i j,i ≤ n→j ≤ n→g i j ≤ D
theorem outN_runs {n:Nat} {f g:Rat} {x:List Rat} {a:Nat}:∀ m,(∀ i,a ≤ i→i < a + m→i % (n + 1) = 0∨x.getD i 0 = 0)→outN n f g x (a + m) = outN n f g x a
 | 0,_=>rfl
 | m + 1,h=>by
  rw [← Nat.add_assoc,outN_skip (h (a + m) (by omega) (by omega)),outN_runs m fun i h1 h2=>h i h1 (by omega)]
theorem next_pack {n W F up u:Nat} {f:Rat} {l:List Rat} {X:Nat→Nat→Nat} (hX:MR n W X l) (hW:W ≠ 0) (hs:Supp n l) (ht:tot n l ≤ 1) (hF:F ≠ 0) (hup:up ≤ F) (hf:(up:Rat) / (F:Rat) = f) (hu:1 ≤ u) :
  ∃ oN oA oB,NxL n (W * (F ^ n * u ^ n)) u f l X (fun c a=>shareN c a up F n) (fun c a=>shareN c a 1 u n) oN oA oB:=by
 have hlv:=hX.lv hW
 have hfc:Ch01 F f:=⟨⟨up,hf.symm⟩,by
  rw [← hf]
  have h1:=nz hF
  have h2:=(FrQ.nat F).nonneg
  exact le_div1 (by grind) (Rat.natCast_le_natCast.2 hup),hF⟩
 have hgc:Ch01 u (1 / (u:Rat)):=one_over (by omega)
 have hne:=nz hW
 have h0:∀ c r,c ≤ n→r ≤ n→(X c r = 0 ↔ l.getD (c * (n + 1) + r) 0 = 0):=fun c r hc hr=>by
  have h1:=hX.eq c r hc hr
  constructor
  ·intro e
   rw [e,show ((0:Nat):Rat) = 0 from rfl] at h1
   rcases Rat.mul_eq_zero.1 h1.symm with h | h
   ·exact absurd h hne
   ·exact h
  ·intro e
   rw [e,Rat.mul_zero] at h1
   exact Rat.natCast_inj.1 h1
 have hnot:∀ c r,c + r ≤ n→1 ≤ r→X c r ≠ 0→¬ ((c * (n + 1) + r) % (n + 1) = 0∨l.getD (c * (n + 1) + r) 0 = 0):=fun c r hc hr hx h=>by
  rw [pl_mod (by omega)] at h
  rcases h with h | h
  ·omega
  ·exact hx ((h0 c r (by omega) (by omega)).2 h)
 refine ⟨fun i=>outN n f (1 / (u:Rat)) l i,fun c r a=>outA n f (1 / (u:Rat)) (l.getD (c * (n + 1) + r) 0) c r (outN n f (1 / (u:Rat)) l (c * (n + 1) + r)) a,
  fun c r a b=>outB n f (1 / (u:Rat)) (l.getD (c * (n + 1) + r) 0) c r a (outA n f (1 / (u:Rat)) (l.getD (c * (n + 1) + r) 0) c r (outN n f (1 / (u:Rat)) l (c * (n + 1) + r)) a) b,?_⟩
 refine ⟨outN_zero _ _ _ _,fun c=>outN_skip (.inl ?_),fun c hc=>?_,fun c r hc hr hx=>?_,fun c r=>outA_zero _ _ _ _ _ _ _,fun c r hc hr hx=>?_,fun c r a=>outB_zero _ _ _ _ _ _ _ _,fun c r a=>?_,fun c r a b hc hr ha hb g g' hg hg'=>?_,fun c r a b hc hr hx ha hb g hg i j hi hj=>?_,outN_all _ _ _ _,fun g hg i j hi hj=>?_⟩
 ·have:=pl_mod (n:=n) (c:=c) (r:=0) (Nat.zero_le n)
  rwa [Nat.add_zero] at this
 ·have h1:(c + 1) * (n + 1) = c * (n + 1) + (n + 1 - c) + c:=by rw [Nat.succ_mul];omega
  show outN n f (1 / (u:Rat)) l (c * (n + 1) + (n + 1 - c)) = outN n f (1 / (u:Rat)) l ((c + 1) * (n + 1))
  rw [h1]
  refine (outN_runs c fun i h2 h3=>.inr ?_).symm
  obtain ⟨r,rfl⟩:=Nat.exists_eq_add_of_le (show c * (n + 1) ≤ i by omega)
  have hr:r ≤ n:=by omega
  exact hs.z _ (pl_lt hc hr) (by rw [pl_div hr,pl_mod hr];omega)
 ·exact outN_skip (.inr ((h0 c r (by omega) (by omega)).1 hx))
 ·have:=outN_step (n:=n) (f:=f) (g:=1 / (u:Rat)) (hnot c r hc hr hx)
  rw [pl_div (by omega),pl_mod (by omega)] at this
  exact this
 ·by_cases e:shar f c a = 0
  ·show outA n f _ _ c r _ (a + 1) = outB n f _ _ c r a _ r
   rw [outA_skip e,outB_null _ e]
  ·exact outA_step e
 ·show MR n _ g' (outB n f _ _ c r a _ (b + 1))
  rw [outB_step]
  refine MR.add hg (i:=c - a) (j:=r - 1 - b + a) (by omega) (by omega) hg' ?_
  have e1:=hX.eq c r (by omega) (by omega)
  have e2:=shareN_q (m:=c) (s:=a) (all:=n) hF hup ha (by omega)
  have e3:=shareN_q (m:=r - 1) (s:=b) (up:=1) (F:=u) (all:=n) (by omega) hu (by omega) (by omega)
  rw [hf] at e2
  rw [show ((1:Nat):Rat) = 1 from rfl] at e3
  rw [Rat.natCast_mul,Rat.natCast_mul,e1,e2,e3,Rat.natCast_mul,Rat.natCast_mul]
  generalize ((F ^ n:Nat):Rat) = x1
  generalize ((u ^ n:Nat):Rat) = x2
  generalize shar f c a = x3
  generalize shar (1 / (u:Rat)) (r - 1) b = x4
  generalize l.getD (c * (n + 1) + r) 0 = x5
  grind
 ·have hn:=hnot c r hc hr hx
  have hi':=pl_lt (n:=n) (i:=c) (j:=r) (by omega) (by omega)
  by_cases e:shar f c a = 0
  ·have hA:=out_okA hfc hgc hs hlv ht hi' hn (a:=a) (by rw [pl_div (by omega)];omega)
   rw [pl_div (by omega),pl_mod (by omega)] at hA
   have hg2:MR n (W * (F ^ n * u ^ n)) g (outA n f (1 / (u:Rat)) (l.getD (c * (n + 1) + r) 0) c r (outN n f (1 / (u:Rat)) l (c * (n + 1) + r)) a):=by
    have:=hg
    simp only [outB_null _ e] at this
    exact this
   exact hg2.le hA.1 hA.2 hi hj
  ·have hB:=out_okB hfc hgc hs hlv ht hi' hn (a:=a) (by rw [pl_div (by omega)];omega) (by rw [pl_div (by omega)];exact e) (b:=b) (by rw [pl_mod (by omega)];omega)
   rw [pl_div (by omega),pl_mod (by omega)] at hB
   exact MR.le hg hB.1 hB.2 hi hj
 ·have h:=out_ok hfc hgc hs hlv ht (i:=(n + 1) * (n + 1)) (Nat.le_refl _)
  rw [outN_all] at h
  exact hg.le h.1 h.2 hi hj
open Go Go.Proofs Go.RowKit
structure NxH (n:Nat) where
 c:Nat
 G:GM (n + 1) fun _=>n + 1
abbrev triC:Nat→Nat:=fun i=>i + 1
attribute [local irreducible] Fit pt own ro vw mpc lpt vels rels mow lrc dfr
attribute [local irreducible] lmp lme mit velg relg bnd owl dfrl evI solE opg shareN nextR
set_option maxHeartbeats 4000000 in
theorem Rnext25_tr (xv xd tv:Value) (t:List Int) (k n u:Nat) (hz:solE t k = 0) (hk:k ≤ 40) (hl:t.length ≤ 12) (hn:n ≤ 12) (hu1:1 ≤ u) (hu:u ≤ k) (XG:GS n) (W L:Nat) (l:List Rat) (hX:MR n W XG.get l) (hW:W ≠ 0) (hWl:(dg W).length ≤ L) (hL:L ≤ 100000) (hs:Supp n l) (ht:tot n l ≤ 1) (hxl:∀ i j,i ≤ n→j ≤ n→XG.get i j ≤ W) (hxv:xv.oneCell' = true) (hxd:xd.oneCell' = true) :
  Tr Tryz.prog 111 [.agg #[xv,xd],tv,I k,I n,I u] [vmx xv XG,vw xd (Us (dg W)),vw tv (Is t)] []
   fun r D=>∃ (v dv:Value) (G:GS n) (W':Nat),r = .agg #[v,dv]∧v.oneCell' = true∧dv.oneCell' = true∧W' ≠ 0∧(dg W').length ≤ L + 160∧MR n W' G.get (nextR (fT t k u) (1 / (u:Rat)) n l)∧(∀ i j,i ≤ n→j ≤ n→G.get i j ≤ W')∧D = [mxP v G,own T64 dv (Us (dg W'))]:=by
 have hFr:=RFree24_tr tv t k u hz hk hl hu1 hu
 have hFc:=(fT_ch hz hu1 hu).1
 have hFlt:=fT_lt hz hk hl hu1 hu
 have hFl:(dg (fT t k u).den).length ≤ 12:=Nat.le_trans ((dg_len _ _).2 hFlt) (by decide)
 obtain ⟨hup,hfq⟩:=rat01 hFc.fr.nonneg hFc.le
 have hden:=(fT t k u).den_nz
 obtain ⟨oN,oA,oB,NX⟩:=next_pack hX hW hs ht hden hup hfq hu1
 have hOf1:=ROf_tr 1 (by decide)
 have hOfu:=ROf_tr u (by omega)
 have hul:(dg u).length ≤ 12:=Nat.le_trans (dg_len1 (by omega)) (by decide)
 have hP1:=fun v=>Rpow_tr v (fT t k u).den n hFl hn
 have hP2:=fun v=>Rpow_tr v u n hul hn
 have p1:=pow_dg hFl n
 have p2:=pow_dg (dg_len1 (n:=u) (by omega)) n
 have q1:12 * n + 1 ≤ 145:=by omega
 have m1:(dg ((fT t k u).den ^ n * u ^ n)).length ≤ 158:=Nat.le_trans (dg_mul_len p1 p2) (by omega)
 have m2:(dg (W * ((fT t k u).den ^ n * u ^ n))).length ≤ L + 158:=dg_mul_len hWl m1
 have hM1:=fun a b=>RMul_tr a b (dg ((fT t k u).den ^ n)) (dg (u ^ n)) (Dg_dg _) (Dg_dg _) (by omega) (by omega)
 have hM2:=fun a b=>RMul_tr a b (dg W) (dg ((fT t k u).den ^ n * u ^ n)) (Dg_dg _) (Dg_dg _) (by omega) (by omega)
 simp only [nv_dg] at hM1 hM2
 have hE:=fun o ho=>Rempty_tr o ho n hn
 have hS1:=fun a b=>Rshares_tr a b (fT t k u).num.natAbs (fT t k u).den n hn hup hFl
 have hS2:=fun a b=>Rshares_tr a b 1 u n hn hu1 hul
 have hD0:W * ((fT t k u).den ^ n * u ^ n) ≠ 0:=Nat.mul_ne_zero hW (Nat.mul_ne_zero (Nat.ne_of_gt (Nat.pow_pos (Nat.pos_of_ne_zero hden))) (Nat.ne_of_gt (Nat.pow_pos hu1)))
 obtain ⟨Dn,hDn⟩ : ∃ Dn,Dn = W * ((fT t k u).den ^ n * u ^ n):=⟨_,rfl⟩
 rw [← hDn] at hM2 m2 hD0 NX
 unfold FQ2 at hFr
 have hshl:∀ c a,a ≤ c→c ≤ n→(dg (shareN c a (fT t k u).num.natAbs (fT t k u).den n)).length ≤ 200:=fun c a ha hc=>by
  have h1:=shareN_q (m:=c) (s:=a) (all:=n) hden hup ha hc
  rw [hfq] at h1
  have h2:=Rat.mul_le_mul_of_nonneg_left (shar_le hFc ha) (FrQ.nat ((fT t k u).den ^ n)).nonneg
  rw [← h1,Rat.mul_one] at h2
  exact Nat.le_trans (dg_mono (Rat.natCast_le_natCast.1 h2)) (Nat.le_trans p1 (by omega))
 have hshg:∀ c a,a ≤ c→c ≤ n→(dg (shareN c a 1 u n)).length ≤ 200:=fun c a ha hc=>by
  have h1:=shareN_q (m:=c) (s:=a) (up:=1) (F:=u) (all:=n) (by omega) hu1 ha hc
  have h2:=Rat.mul_le_mul_of_nonneg_left (shar_le (one_over (u:=u) (by omega)) ha) (FrQ.nat (u ^ n)).nonneg
  rw [show ((1:Nat):Rat) = 1 from rfl] at h1
  rw [← h1,Rat.mul_one] at h2
  exact Nat.le_trans (dg_mono (Rat.natCast_le_natCast.1 h2)) (Nat.le_trans p2 (by omega))
 have hxlen:∀ i j,i ≤ n→j ≤ n→(dg (XG.get i j)).length ≤ L:=fun i j hi hj=>Nat.le_trans (dg_mono (hxl i j hi hj)) hWl
 clear hz hFc hFlt hX ht hs hfq hDn hxl
 generalize fT t k u = f at *
 generalize f.den ^ n * u ^ n = e1 at *
 generalize f.den ^ n = e2 at *
 generalize u ^ n = e3 at *
 have hNf:=NX.fin
 have hNa:=NX.all
 rw [← hNa] at hNf ⊢
 refine Tr.mono (R:=fun r D=>∃ (v dv:Value) (G:GS n) (g:Nat) (H:GS n),r = .agg #[v,dv]∧v.oneCell' = true∧dv.oneCell' = true∧g ≠ 0∧g ∣ Dn∧MR n Dn H.get (oN ((n + 1) * (n + 1)))∧(∀ i j,i ≤ n→j ≤ n→g ∣ H.get i j∧G.get i j = H.get i j / g)∧D = [mxP v G,own T64 dv (Us (dg (Dn / g)))]) ?_ fun r D h=>by
  obtain ⟨v,dv,G,g,H,rfl,h1,h2,h3,h4,h5,h6,rfl⟩:=h
  obtain ⟨d,hd⟩:=h4
  have hg:Dn / g = d:=by rw [hd];exact Nat.mul_div_cancel_left d (Nat.pos_of_ne_zero h3)
  refine ⟨v,dv,G,Dn / g,rfl,h1,h2,?_,?_,?_,?_,rfl⟩
  ·rw [hg];intro e;rw [e,Nat.mul_zero] at hd;exact hD0 hd
  ·exact Nat.le_trans (dg_mono (Nat.div_le_self _ _)) (by omega)
  ·refine ⟨h5.len,fun i j hi hj=>?_⟩
   obtain ⟨⟨m,hm⟩,k2⟩:=h6 i j hi hj
   have k3:=h5.eq i j hi hj
   rw [k2,hg]
   rw [hm] at k3 ⊢
   rw [Nat.mul_div_cancel_left m (Nat.pos_of_ne_zero h3)]
   rw [hd,Rat.natCast_mul,Rat.natCast_mul] at k3
   have k4:=nz h3
   generalize (oN ((n + 1) * (n + 1))).getD (i * (n + 1) + j) 0 = z at *
   have k5:(g:Rat) * ((m:Rat) - (d:Rat) * z) = 0:=by grind
   rcases Rat.mul_eq_zero.1 k5 with k | k
   ·exact absurd k k4
   ·grind
  ·intro i j hi hj
   rw [(h6 i j hi hj).2]
   exact Nat.div_le_div_right (hNf H.get h5 i j hi hj)
 clear hNa
 have hun:(u:Int).toNat = u:=Int.toNat_natCast u
 refine Tr.enter env _ Tryz.func111 (by kernel_rfl) rfl Tryz.ntmps111 rfl (by repeat (first | exact has00 | refine has01 ?_)) fun w0=>?_
 repeat' first|(refine gca ?_;first|(refine ca hFr ?_;rintro _ _ ⟨f1,f2,rfl,hf1,hf2,rfl⟩)|(refine ca hOf1 ?_;rintro o1 _ ⟨ho1,rfl⟩)|(refine ca hOfu ?_;rintro ou _ ⟨hou,rfl⟩)|(refine ca (hP1 f2) ?_;rintro w1 _ ⟨hw1,rfl⟩)|(refine ca (hP2 ou) ?_;rintro w2 _ ⟨hw2,rfl⟩)|(refine ca (hM1 w1 w2) ?_;rintro w3 _ ⟨hw3,rfl⟩)|(refine ca (hM2 xd w3) ?_;rintro od _ ⟨hod,rfl⟩)|(refine ca (hE od hod) ?_;rintro _ _ ⟨ov,G0,rfl,hov,hG0,rfl⟩)|(refine ca (hS1 f1 f2) ?_;rintro fv _ ⟨FG,hfv,hFG,rfl⟩)|(refine ca (hS2 o1 ou) ?_;rintro gv _ ⟨OG,hgv,hOG,rfl⟩))|refine bx fun c5=>?_|refine al fun c=>?_|refine srz ?_|(refine gcv ?_;refine ntu (m:=(u:Int)) ?_;rw [hun])|(refine wo ?_;first|refine oa ?_|refine ld ?_)|refine sq ?_|refine rg ?_|refine xc ?_|refine nl ?_|refine bk ?_
 rename_i c10 c11
 clear hFr hOf1 hOfu hP1 hP2 hM1 hM2 hE hS1 hS2 p1 p2 q1 m1
 refine TC.loop (ι:=NxH n) (fun g=>[(19,I g.c)]) (fun g=>[mxP ov g.G]) (fun g=>g.c ≤ n + 1∧MR n Dn g.G.get (oN (g.c * (n + 1)))) (fun g=>n + 1 - g.c) ⟨0,G0⟩ [3,5,10,16,17,18] ⟨Nat.zero_le _,by dsimp only;rw [Nat.zero_mul,NX.zero];exact MR.zero n Dn fun i j _ _=>hG0 i j⟩ ?_
 clear hG0
 rintro ⟨cI,G⟩ ⟨hci,hG⟩
 dsimp only at hci hG ⊢
 by_cases hct:cI < n + 1
 rotate_left
 ·obtain rfl:cI = n + 1:=by omega
  have hLw:=Rlow25_tr ov od hov hod n hn G Dn hD0 (by omega) (fun i j hi hj=>Nat.le_trans (dg_mono (hNf G.get hG i j hi hj)) (by omega))
  repeat' first|(refine gca ?_;first|(refine ca hLw ?_;rintro _ _ ⟨dv,G',g,rfl,hdv,hg0,hgd,hgg,rfl⟩))|refine lda ?_|refine srz ?_|(refine wo ?_;first|(refine ao ?_;first|refine oa ?_)|refine oa ?_)|(refine gc ?_;first|(refine ci (fun hB=>?_) (fun hB=>?_) <;> try (exfalso;omega)))|refine sq ?_|refine rg ?_|refine xc ?_|refine nl ?_|refine xe ?_|refine rt ?_
  exact rca1 (cs:=[ov,dv]) (vs:=[ov,dv]) (T:=TLv) ⟨ov,dv,G',g,G,rfl,hov,hdv,hg0,hgd,hG,hgg,rfl⟩
 rw [← NX.fst] at hG
 clear hNf
 repeat' first|(refine wo ?_;first|(refine ao ?_;first|refine oa ?_)|refine oa ?_)|(refine gc ?_;first|(refine ci (fun hB=>?_) (fun hB=>?_) <;> try (exfalso;omega)))|refine sq ?_|refine rg ?_|refine xc ?_|refine nl ?_|refine sk ?_|refine bk ?_
 refine TC.loop (ι:=NxH n) (fun g=>[(20,I g.c)]) (fun g=>[mxP ov g.G]) (fun g=>(1 ≤ g.c∧g.c ≤ n + 1 - cI)∧MR n Dn g.G.get (oN (cI * (n + 1) + g.c))) (fun g=>n + 1 - g.c) ⟨1,G⟩ [3,5,10,16,17,18,19] ⟨⟨Nat.le_refl _,by dsimp only;omega⟩,hG⟩ ?_
 clear hG
 rintro ⟨rI,G⟩ ⟨⟨hr1,hri⟩,hG⟩
 dsimp only at hr1 hri hG ⊢
 by_cases hrt:cI + rI ≤ n
 rotate_left
 ·obtain rfl:rI = n + 1 - cI:=by omega
  rw [NX.lst cI (by omega)] at hG
  have hx1:¬ ((cI:Int) + ((n + 1 - cI:Nat):Int) ≤ (n:Int)):=by omega
  repeat' first|(refine wo ?_;first|(refine ao ?_;first|refine aw ?_|refine oa ?_)|refine oa ?_)|(refine gc ?_;first|(refine ci (fun hB=>?_) (fun hB=>?_) <;> try (exfalso;omega)))|refine sq ?_|refine rg ?_|refine xc ?_|refine nl ?_|refine xe ?_|refine xb ?_
  exact lp ⟨cI + 1,G⟩ ⟨hct,hG⟩
 have hrn:rI < n + 1:=by omega
 have hx1:(cI:Int) + (rI:Int) ≤ (n:Int):=by omega
 by_cases hx:XG.get cI rI = 0
 ·have hln:=Us_none hx
  rw [← NX.none cI rI hrt hr1 hx] at hG
  repeat' first|(refine wo ?_;first|(refine ao ?_;first|refine aw ?_|refine oa ?_)|refine oa ?_)|(refine gc ?_;first|(refine ci (fun hB=>?_) (fun hB=>?_) <;> try (exfalso;omega)))|refine sq ?_|refine rg ?_|refine xc ?_|refine nl ?_|refine sk ?_|refine bk ?_
  refine TC.loop (ι:=Unit) (fun _=>[(21,I 0)]) (fun _=>[]) (fun _=>True) (fun _=>0) () [3,5,10,16,17,18,19,20] trivial ?_
  rintro ⟨⟩ -
  repeat' first|refine ixn (i:=cI) (xs:=XG.h) ?_ (hh:=vm_h (has_mem (c:=vmx xv XG) memA)) (hb:=by rw [XG.hl];omega)|refine le (xs:=XG.h) ?_ (hh:=vm_h (has_mem (c:=vmx xv XG) memA)) (hj:=gm_h hct)|refine ixn (i:=rI) (xs:=XG.c.getD cI []) ?_ (hh:=vm_r (has_mem (c:=vmx xv XG) memA) hct) (hb:=by rw [XG.cc cI hct];omega)|refine le (xs:=XG.c.getD cI []) ?_ (hh:=vm_r (has_mem (c:=vmx xv XG) memA) hct) (hj:=gm_c hct hrn)|(refine ln (xs:=Us (dg (XG.get cI rI))) ?_ (hh:=vm_c (has_mem (c:=vmx xv XG) memA) hct hrn);rw [hln])|(refine wo ?_;first|(refine ao ?_;first|refine aw ?_|refine oa ?_)|refine oa ?_|refine ld ?_|refine gn ?_)|(refine gc ?_;first|refine cf ?_)|refine sq ?_|refine rg ?_|refine xc ?_|refine nl ?_|refine xe ?_|refine xb ?_
  exact lp ⟨rI + 1,G⟩ ⟨⟨by dsimp only;omega,by dsimp only;omega⟩,hG⟩
 have hln:=Us_pos hx
 obtain ⟨ml,hml⟩ : ∃ ml:Nat,(Us (dg (XG.get cI rI))).length = ml + 1:=⟨(Us (dg (XG.get cI rI))).length - 1,by omega⟩
 clear hln
 rw [← NX.a0] at hG
 repeat' first|(refine wo ?_;first|(refine ao ?_;first|refine aw ?_|refine oa ?_)|refine oa ?_)|(refine gc ?_;first|(refine ci (fun hB=>?_) (fun hB=>?_) <;> try (exfalso;omega)))|refine sq ?_|refine rg ?_|refine xc ?_|refine nl ?_|refine sk ?_|refine bk ?_
 refine TC.loop (ι:=NxH n) (fun g=>[(21,I g.c)]) (fun g=>[mxP ov g.G]) (fun g=>g.c ≤ cI + 1∧MR n Dn g.G.get (oA cI rI g.c)) (fun g=>cI + 1 - g.c) ⟨0,G⟩ [3,5,10,16,17,18,19,20] ⟨Nat.zero_le _,hG⟩ ?_
 clear hG
 rintro ⟨aI,G⟩ ⟨hai,hG⟩
 dsimp only at hai hG ⊢
 by_cases hat:aI < cI + 1
 rotate_left
 ·obtain rfl:aI = cI + 1:=by omega
  rw [← NX.a1 cI rI hrt hr1 hx] at hG
  repeat' first|refine ixn (i:=cI) (xs:=XG.h) ?_ (hh:=vm_h (has_mem (c:=vmx xv XG) memA)) (hb:=by rw [XG.hl];omega)|refine le (xs:=XG.h) ?_ (hh:=vm_h (has_mem (c:=vmx xv XG) memA)) (hj:=gm_h hct)|refine ixn (i:=rI) (xs:=XG.c.getD cI []) ?_ (hh:=vm_r (has_mem (c:=vmx xv XG) memA) hct) (hb:=by rw [XG.cc cI hct];omega)|refine le (xs:=XG.c.getD cI []) ?_ (hh:=vm_r (has_mem (c:=vmx xv XG) memA) hct) (hj:=gm_c hct hrn)|(refine ln (xs:=Us (dg (XG.get cI rI))) ?_ (hh:=vm_c (has_mem (c:=vmx xv XG) memA) hct hrn);rw [hml])|(refine wo ?_;first|(refine ao ?_;first|refine aw ?_|refine oa ?_)|refine oa ?_|refine ld ?_|refine gy ?_|(refine gsi (fun hB=>?_) (fun hB=>?_) <;> try (exfalso;omega)))|(refine gc ?_;first|(refine ci (fun hB=>?_) (fun hB=>?_) <;> try (exfalso;omega)))|refine sq ?_|refine rg ?_|refine xc ?_|refine nl ?_|refine xe ?_|refine xb ?_
  exact lp ⟨rI + 1,G⟩ ⟨⟨by dsimp only;omega,by dsimp only;omega⟩,hG⟩
 have hfg:=hFG cI aI (by omega) (by omega)
 have hMp:=RMul_tr ((XG.c.getD cI []).getD rI nS) ((FG.c.getD cI []).getD aI nS) (dg (XG.get cI rI)) (dg (FG.get cI aI)) (Dg_dg _) (Dg_dg _) (by have:=hxlen cI rI (by omega) (by omega);omega) (by rw [hfg];have:=hshl cI aI (by omega) (by omega);omega)
 rw [nv_dg,nv_dg] at hMp
 have hptl:(dg (XG.get cI rI * FG.get cI aI)).length ≤ L + 200:=dg_mul_len (hxlen cI rI (by omega) (by omega)) (by rw [hfg];exact hshl cI aI (by omega) (by omega))
 have hat':aI < triC cI:=hat
 rw [← NX.b0] at hG
 repeat' first|refine ixn (i:=cI) (xs:=XG.h) ?_ (hh:=vm_h (has_mem (c:=vmx xv XG) memA)) (hb:=by rw [XG.hl];omega)|refine le (xs:=XG.h) ?_ (hh:=vm_h (has_mem (c:=vmx xv XG) memA)) (hj:=gm_h hct)|refine ixn (i:=rI) (xs:=XG.c.getD cI []) ?_ (hh:=vm_r (has_mem (c:=vmx xv XG) memA) hct) (hb:=by rw [XG.cc cI hct];omega)|refine le (xs:=XG.c.getD cI []) ?_ (hh:=vm_r (has_mem (c:=vmx xv XG) memA) hct) (hj:=gm_c hct hrn)|(refine ln (xs:=Us (dg (XG.get cI rI))) ?_ (hh:=vm_c (has_mem (c:=vmx xv XG) memA) hct hrn);rw [hml])|(refine wo ?_;first|(refine ao ?_;first|refine oa ?_)|refine oa ?_|refine ld ?_|refine gy ?_|(refine gsi (fun hB=>?_) (fun hB=>?_) <;> try (exfalso;omega)))|(refine gc ?_;first|(refine ci (fun hB=>?_) (fun hB=>?_) <;> try (exfalso;omega)))|refine sq ?_|refine rg ?_|refine xc ?_|refine nl ?_|refine sk ?_|refine bk ?_
 refine rs (fun w=>w.heap[c5]? = some (.cells [xv,xd].toArray TLv (0,0))∧Sl w xv XG.h∧Sl w (XG.h.getD cI nS) (XG.c.getD cI [])∧Sl w fv FG.h∧Sl w (FG.h.getD cI nS) (FG.c.getD cI [])) ?_ (fun w hw=>⟨pt_at memA hw,vm_sh (has_mem (c:=vmx xv XG) memA) hw,vm_sr (has_mem (c:=vmx xv XG) memA) hct hw,vm_sh (has_vmx (G:=FG) (v:=fv) memA) hw,vm_sr (has_vmx (G:=FG) (v:=fv) memA) hct hw⟩)
 refine tka 0 ?_
 refine tkl 1 (cs:=[xv,xd]) (fun w h=>h.1) ?_
 refine tka 2 ?_
 refine tk 3 (v:=.pointer (some (addrAt xv cI))) (fun w h=>R_idx (E:=env) (i:=(cI:Int)) rfl rfl rfl rfl h.2.1 ⟨by omega,by rw [XG.hl];omega⟩) ?_
 refine tk 4 (v:=XG.h.getD cI nS) (fun w h=>R_load (E:=env) rfl rfl rfl (h.2.1.cell (gm_h hct))) ?_
 refine tka 5 ?_
 refine tk 6 (v:=.pointer (some (addrAt (XG.h.getD cI nS) rI))) (fun w h=>R_idx (E:=env) (i:=(rI:Int)) rfl rfl rfl rfl h.2.2.1 ⟨by omega,by rw [XG.cc cI hct];omega⟩) ?_
 refine tk 7 (v:=(XG.c.getD cI []).getD rI nS) (fun w h=>R_load (E:=env) rfl rfl rfl (h.2.2.1.cell (gm_c hct hrn))) ?_
 refine tka 8 ?_
 refine tka 9 ?_
 refine tk 10 (v:=.pointer (some (addrAt fv cI))) (fun w h=>R_idx (E:=env) (i:=(cI:Int)) rfl rfl rfl rfl h.2.2.2.1 ⟨by omega,by rw [FG.hl];omega⟩) ?_
 refine tk 11 (v:=FG.h.getD cI nS) (fun w h=>R_load (E:=env) rfl rfl rfl (h.2.2.2.1.cell (gm_h hct))) ?_
 refine tka 12 ?_
 refine tk 13 (v:=.pointer (some (addrAt (FG.h.getD cI nS) aI))) (fun w h=>R_idx (E:=env) (i:=(aI:Int)) rfl rfl rfl rfl h.2.2.2.2 ⟨by omega,by rw [FG.cc cI hct];omega⟩) ?_
 refine tk 14 (v:=(FG.c.getD cI []).getD aI nS) (fun w h=>R_load (E:=env) rfl rfl rfl (h.2.2.2.2.cell (gm_c hct hat'))) ?_
 refine t1 15 ?_
 refine ca hMp ?_ (hp:=has1 (vm_c (has_mem (c:=vmx xv XG) memA) hct hrn) (has1 (vm_c (has_vmx (v:=fv) (G:=FG) memA) hct hat') has0))
 rintro pv _ ⟨hpv,rfl⟩
 refine nl ?_
 refine te (fun w hw=>⟨pt_at memA hw,vm_sh (has_mem (c:=vmx xv XG) memA) hw,vm_sr (has_mem (c:=vmx xv XG) memA) hct hw,vm_sh (has_vmx (G:=FG) (v:=fv) memA) hw,vm_sr (has_vmx (G:=FG) (v:=fv) memA) hct hw⟩) ?_
 refine tka 16 ?_
 refine t0 ?_
 skip
 obtain ⟨r1',hr1'⟩ : ∃ r1',rI = r1' + 1:=⟨rI - 1,by omega⟩
 repeat' first|(refine wo ?_;first|refine oa ?_)|refine sq ?_|refine rg ?_|refine xc ?_|refine nl ?_|refine bk ?_
 refine TC.loop (ι:=NxH n) (fun g=>[(23,I g.c)]) (fun g=>[mxP ov g.G]) (fun g=>g.c ≤ rI∧MR n Dn g.G.get (oB cI rI aI g.c)) (fun g=>rI - g.c) ⟨0,G⟩ [3,5,10,16,17,18,19,20,21,22] ⟨Nat.zero_le _,hG⟩ ?_
 clear hG
 rintro ⟨bI,G⟩ ⟨hbi,hG⟩
 dsimp only at hbi hG ⊢
 by_cases hbt:bI < rI
 rotate_left
 ·obtain rfl:bI = rI:=by omega
  rw [← NX.b1] at hG
  repeat' first|(refine wo ?_;first|(refine ao ?_;first|refine aw ?_|refine oa ?_)|refine oa ?_)|(refine gc ?_;first|(refine ci (fun hB=>?_) (fun hB=>?_) <;> try (exfalso;omega)))|refine sq ?_|refine rg ?_|refine xc ?_|refine nl ?_|refine xe ?_|refine xb ?_
  exact lp ⟨aI + 1,G⟩ ⟨hat,hG⟩
 have hog:=hOG r1' bI (by omega) (by omega)
 obtain ⟨m,hm⟩ : ∃ m,m = cI - aI:=⟨_,rfl⟩
 obtain ⟨to,hto⟩ : ∃ to,to = rI - 1 - bI + aI:=⟨_,rfl⟩
 have hmn:m < n + 1:=by omega
 have hton:to < n + 1:=by omega
 have hrn':r1' < n + 1:=by omega
 have hbt':bI < triC r1':=show bI < r1' + 1 by omega
 have hogl:(dg (OG.get r1' bI)).length ≤ 200:=by rw [hog];exact hshg r1' bI (by omega) (by omega)
 have hMg:=fun v=>RMul_tr v ((OG.c.getD r1' []).getD bI nS) (dg (XG.get cI rI * FG.get cI aI)) (dg (OG.get r1' bI)) (Dg_dg _) (Dg_dg _) (by omega) (by omega)
 have hgl:(dg (G.get m to)).length ≤ 200000:=Nat.le_trans (dg_mono (NX.bnd cI rI aI bI hrt hr1 hx (by omega) (by omega) G.get hG m to (by omega) (by omega))) (by omega)
 have htl:(dg (XG.get cI rI * FG.get cI aI * OG.get r1' bI)).length ≤ 200000:=Nat.le_trans (dg_mul_len hptl hogl) (by omega)
 have hAd:=fun v=>RAdd_tr ((G.c.getD m []).getD to nS) v (dg (G.get m to)) (dg (XG.get cI rI * FG.get cI aI * OG.get r1' bI)) (Dg_dg _) (Dg_dg _) (by omega) (by omega)
 simp only [nv_dg] at hMg hAd
 obtain ⟨q,hq⟩ : ∃ q,q = G.get m to + XG.get cI rI * FG.get cI aI * OG.get r1' bI:=⟨_,rfl⟩
 rw [← hq] at hAd
 have hMR:=fun o=>NX.step cI rI aI bI hrt hr1 (by omega) hbt G.get (G.put m to o q).get hG fun x y=>by
  rw [GM.get_put G hmn hton o q x y,← hm,← hto,hq,hfg,hog,hr1',Nat.add_sub_cancel]
 have g1:(cI:Int) - aI = (m:Int):=by omega
 have g2:(rI:Int) - 1 = (r1':Int):=by omega
 have g3:(r1':Int) - bI + aI = (to:Int):=by omega
 clear hgl htl hptl hogl hshl hshg hxlen hG hFG hOG hfg hog
 generalize XG.get cI rI * FG.get cI aI * OG.get r1' bI = tm at *
 generalize XG.get cI rI * FG.get cI aI = part at *
 repeat' first|(refine aw (m:=(r1':Int)) ?_ (h:=by rw [← g2];rfl))|(refine aw (m:=(to:Int)) ?_ (h:=by rw [← g3];rfl))|(refine wo ?_;first|(refine ao ?_;first|refine aw ?_|refine oa ?_)|refine oa ?_)|(refine gc ?_;first|(refine ci (fun hB=>?_) (fun hB=>?_) <;> try (exfalso;omega)))|refine sq ?_|refine rg ?_|refine xc ?_|refine nl ?_|refine sk ?_|refine bk ?_
 refine rs (fun w=>w.heap[c]? = some (.cells [ov,od].toArray TLv (0,0))∧Sl w ov G.h∧(∃ xs,xs.length = n + 1∧Sl w (G.h.getD m nS) xs)∧Sl w gv OG.h∧Sl w (OG.h.getD r1' nS) (OG.c.getD r1' [])) ?_ (fun w hw=>⟨pt_at memA hw,vm_hw (v:=ov) (has_vmx (v:=ov) memA) hw,vm_rw (v:=ov) (has_vmx (v:=ov) memA) hw hmn,vm_sh (has_vmx (G:=OG) (v:=gv) memA) hw,vm_sr (has_vmx (G:=OG) (v:=gv) memA) hrn' hw⟩)
 refine tka 0 ?_
 refine tkl 1 (cs:=[ov,od]) (fun w h=>h.1) ?_
 refine tka 2 ?_
 refine tka 3 ?_
 refine tkw 4 (m:Int) ?_
 refine tk 5 (v:=.pointer (some (addrAt ov m))) (fun w h=>R_idx (E:=env) (i:=(m:Int)) rfl rfl rfl rfl h.2.1 ⟨by omega,by rw [G.hl];omega⟩) ?_
 refine tk 6 (v:=G.h.getD m nS) (fun w h=>R_load (E:=env) rfl rfl rfl (h.2.1.cell (gm_h hmn))) ?_
 refine tka 7 ?_
 refine tka 8 ?_
 refine tkl 9 (cs:=[ov,od]) (fun w h=>h.1) ?_
 refine tka 10 ?_
 refine tka 11 ?_
 refine tkw 12 (m:Int) ?_
 refine tk 13 (v:=.pointer (some (addrAt ov m))) (fun w h=>R_idx (E:=env) (i:=(m:Int)) rfl rfl rfl rfl h.2.1 ⟨by omega,by rw [G.hl];omega⟩) ?_
 refine tk 14 (v:=G.h.getD m nS) (fun w h=>R_load (E:=env) rfl rfl rfl (h.2.1.cell (gm_h hmn))) ?_
 refine tka 15 ?_
 refine tk 16 (v:=.pointer (some (addrAt (G.h.getD m nS) to))) (fun w h=>h.2.2.1.elim fun xs hx=>R_idx (E:=env) (i:=(to:Int)) rfl rfl rfl rfl hx.2 ⟨by omega,by rw [hx.1];omega⟩) ?_
 refine tka 18 ?_
 refine tka 19 ?_
 refine tka 20 ?_
 refine tkw 21 (r1':Int) ?_
 refine tk 22 (v:=.pointer (some (addrAt gv r1'))) (fun w h=>R_idx (E:=env) (i:=(r1':Int)) rfl rfl rfl rfl h.2.2.2.1 ⟨by omega,by rw [OG.hl];omega⟩) ?_
 refine tk 23 (v:=OG.h.getD r1' nS) (fun w h=>R_load (E:=env) rfl rfl rfl (h.2.2.2.1.cell (gm_h hrn'))) ?_
 refine tka 24 ?_
 refine tk 25 (v:=.pointer (some (addrAt (OG.h.getD r1' nS) bI))) (fun w h=>R_idx (E:=env) (i:=(bI:Int)) rfl rfl rfl rfl h.2.2.2.2 ⟨by omega,by rw [OG.cc r1' hrn'];omega⟩) ?_
 refine tk 26 (v:=(OG.c.getD r1' []).getD bI nS) (fun w h=>R_load (E:=env) rfl rfl rfl (h.2.2.2.2.cell (gm_c hrn' hbt'))) ?_
 refine t2 17 27 ?_ ?_
 ·refine le (xs:=G.c.getD m []) ?_ (hh:=vm_r (has_vmx (v:=ov) (G:=G) memA) hmn) (hj:=gm_c hmn hton)
  refine nl ?_
  refine te (fun w hw=>⟨pt_at memA hw,vm_hw (v:=ov) (has_vmx (v:=ov) memA) hw,vm_rw (v:=ov) (has_vmx (v:=ov) memA) hw hmn,vm_sh (has_vmx (G:=OG) (v:=gv) memA) hw,vm_sr (has_vmx (G:=OG) (v:=gv) memA) hrn' hw⟩) ?_
  refine t1 27 ?_
  refine ca (hMg pv) ?_ (hp:=has1 hasA (has1 (vm_c (has_vmx (v:=gv) (G:=OG) memA) hrn' hbt') has0))
  rintro mv _ ⟨hmv,rfl⟩
  refine nl ?_
  refine te (fun w hw=>⟨pt_at memA hw,vm_hw (v:=ov) (has_vmx (v:=ov) memA) hw,vm_rw (v:=ov) (has_vmx (v:=ov) memA) hw hmn,vm_sh (has_vmx (G:=OG) (v:=gv) memA) hw,vm_sr (has_vmx (G:=OG) (v:=gv) memA) hrn' hw⟩) ?_
  refine t1 28 ?_
  refine ca (hAd mv) ?_ (hp:=has1 (vm_c (has_vmx (v:=ov) (G:=G) memA) hmn hton) (has1 hasA has0))
  rintro av _ ⟨hav,rfl⟩
  refine nl ?_
  refine te (fun w hw=>⟨pt_at memA hw,vm_hw (v:=ov) (has_vmx (v:=ov) memA) hw,vm_rw (v:=ov) (has_vmx (v:=ov) memA) hw hmn,vm_sh (has_vmx (G:=OG) (v:=gv) memA) hw,vm_sr (has_vmx (G:=OG) (v:=gv) memA) hrn' hw⟩) ?_
  refine tk 29 (v:=.pointer (some (addrAt (G.h.getD m nS) to))) (fun w h=>h.2.2.1.elim fun xs hx=>R_idx (E:=env) (i:=(to:Int)) rfl rfl rfl rfl hx.2 ⟨by omega,by rw [hx.1];omega⟩) ?_
  refine t1 30 ?_
  refine smx (G:=G) (v:=ov) (i:=m) (j:=to) (o:=av) (q:=q) ?_ fitA hmn hton hav
  refine nl ?_
  refine te (fun w hw=>⟨pt_at memA hw,vm_hw (v:=ov) (has_vmx (v:=ov) memA) hw,vm_rw (v:=ov) (has_vmx (v:=ov) memA) hw hmn,vm_sh (has_vmx (G:=OG) (v:=gv) memA) hw,vm_sr (has_vmx (G:=OG) (v:=gv) memA) hrn' hw⟩) ?_
  refine t0 ?_
  repeat' first|(refine wo ?_;first|(refine ao ?_;first|refine aw ?_)|refine oa ?_)|refine rg ?_|refine xc ?_|refine nl ?_|refine xb ?_
  exact lp ⟨bI + 1,G.put m to av q⟩ ⟨hbt,hMR av⟩
 ·refine ca (hMg pv) ?_ (hp:=has1 hasA (has1 (vm_c (has_vmx (v:=gv) (G:=OG) memA) hrn' hbt') has0))
  rintro mv _ ⟨hmv,rfl⟩
  refine nl ?_
  refine te (fun w hw=>⟨pt_at memA hw,vm_hw (v:=ov) (has_vmx (v:=ov) memA) hw,vm_rw (v:=ov) (has_vmx (v:=ov) memA) hw hmn,vm_sh (has_vmx (G:=OG) (v:=gv) memA) hw,vm_sr (has_vmx (G:=OG) (v:=gv) memA) hrn' hw⟩) ?_
  refine t1 17 ?_
  refine le (xs:=G.c.getD m []) ?_ (hh:=vm_r (has_vmx (v:=ov) (G:=G) memA) hmn) (hj:=gm_c hmn hton)
  refine nl ?_
  refine te (fun w hw=>⟨pt_at memA hw,vm_hw (v:=ov) (has_vmx (v:=ov) memA) hw,vm_rw (v:=ov) (has_vmx (v:=ov) memA) hw hmn,vm_sh (has_vmx (G:=OG) (v:=gv) memA) hw,vm_sr (has_vmx (G:=OG) (v:=gv) memA) hrn' hw⟩) ?_
  refine t1 28 ?_
  refine ca (hAd mv) ?_ (hp:=has1 (vm_c (has_vmx (v:=ov) (G:=G) memA) hmn hton) (has1 hasA has0))
  rintro av _ ⟨hav,rfl⟩
  refine nl ?_
  refine te (fun w hw=>⟨pt_at memA hw,vm_hw (v:=ov) (has_vmx (v:=ov) memA) hw,vm_rw (v:=ov) (has_vmx (v:=ov) memA) hw hmn,vm_sh (has_vmx (G:=OG) (v:=gv) memA) hw,vm_sr (has_vmx (G:=OG) (v:=gv) memA) hrn' hw⟩) ?_
  refine tk 29 (v:=.pointer (some (addrAt (G.h.getD m nS) to))) (fun w h=>h.2.2.1.elim fun xs hx=>R_idx (E:=env) (i:=(to:Int)) rfl rfl rfl rfl hx.2 ⟨by omega,by rw [hx.1];omega⟩) ?_
  refine t1 30 ?_
  refine smx (G:=G) (v:=ov) (i:=m) (j:=to) (o:=av) (q:=q) ?_ fitA hmn hton hav
  refine nl ?_
  refine te (fun w hw=>⟨pt_at memA hw,vm_hw (v:=ov) (has_vmx (v:=ov) memA) hw,vm_rw (v:=ov) (has_vmx (v:=ov) memA) hw hmn,vm_sh (has_vmx (G:=OG) (v:=gv) memA) hw,vm_sr (has_vmx (G:=OG) (v:=gv) memA) hrn' hw⟩) ?_
  refine t0 ?_
  repeat' first|(refine wo ?_;first|(refine ao ?_;first|refine aw ?_)|refine oa ?_)|refine rg ?_|refine xc ?_|refine nl ?_|refine xb ?_
  exact lp ⟨bI + 1,G.put m to av q⟩ ⟨hbt,hMR av⟩
end Go.Art
namespace Go.Art
open Go Go.Proofs Go.RowKit
structure LvR (n:Nat) where
 v:Value
 d:Value
 G:GM (n + 1) fun _=>n + 1
 W:Nat
structure LvK (t:List Int) (k n i:Nat) (r:LvR n):Prop where
 v1:r.v.oneCell' = true
 d1:r.d.oneCell' = true
 w0:r.W ≠ 0
 wl:(dg r.W).length ≤ 145 + 160 * i
 eq:MR n r.W r.G.get (lvT t k n i)
 le:∀ a b,a ≤ n→b ≤ n→r.G.get a b ≤ r.W
def lvP {n:Nat} (r:LvR n):Ch:=bnd [mxP r.v r.G,own T64 r.d (Us (dg r.W))]
def lvsP {n:Nat} (Ls:List (LvR n)):Ch:=bnd (Ls.map lvP)
def lcs {n:Nat} (Ls:List (LvR n)):List Value:=(Ls.map fun r=>[r.v,r.d]).flatten
theorem lcs_len {n:Nat}:∀ Ls:List (LvR n),(lcs Ls).length = 2 * Ls.length
 | []=>rfl
 | r :: Ls=>by
  have:=lcs_len Ls
  unfold lcs at *
  rw [List.map_cons,List.flatten_cons,List.length_append,this]
  simp only [List.length_cons,List.length_nil]
  omega
theorem lcs_app {n:Nat} (Ls:List (LvR n)) (r:LvR n):lcs (Ls ++ [r]) = lcs Ls ++ [r.v,r.d]:=by unfold lcs;simp
theorem lcs_row {n:Nat}:∀ {Ls:List (LvR n)} {i:Nat} {r:LvR n},Ls[i]? = some r→((lcs Ls).drop (2 * i)).take 2 = [r.v,r.d]
 | [],_,_,h=>by simp at h
 | a :: Ls,0,r,h=>by
  have:a = r:=by simpa using h
  subst this;rfl
 | a :: Ls,i + 1,r,h=>by
  have h1:=lcs_row (Ls:=Ls) (i:=i) (r:=r) (by simpa using h)
  show (List.drop (2 * (i + 1)) (a.v :: a.d :: lcs Ls)).take 2 = _
  rw [show 2 * (i + 1) = 2 * i + 1 + 1 by omega,List.drop_succ_cons,List.drop_succ_cons]
  exact h1
theorem lvP_nb {n:Nat} (r:LvR n) (b:Nat):¬ (lvP r).bd b:=bnd_nob (by repeat (first | exact nb0 | refine nb1 ?_)) b
instance {n:Nat} (Ls:List (LvR n)):NoB (lvsP Ls):=⟨bnd_nob fun c hc b hb=>by
 obtain ⟨r,_,rfl⟩:=List.mem_map.1 hc
 exact lvP_nb r b hb⟩
theorem lv_mem {n:Nat} {Ls:List (LvR n)} {i:Nat} {r:LvR n} (h:Ls[i]? = some r):lvP r ∈ Ls.map lvP:=List.mem_map.2 ⟨r,List.mem_of_getElem? h,rfl⟩
theorem lv_x {n:Nat} {Ls:List (LvR n)} {i:Nat} {r:LvR n} {F:List Ch} (h:lvsP Ls ∈ F) (hr:Ls[i]? = some r):Has F (vmx r.v r.G):=has_bndC h (has_bndC (lv_mem hr) (has_vmx (List.Mem.head _)))
theorem lv_d {n:Nat} {Ls:List (LvR n)} {i:Nat} {r:LvR n} {F:List Ch} (h:lvsP Ls ∈ F) (hr:Ls[i]? = some r):Has F (vw r.d (Us (dg r.W))):=has_bndC h (has_bndC (lv_mem hr) (has_own (e:=T64) (List.mem_cons_of_mem _ (List.Mem.head _))))
theorem lvs_nil {n:Nat} (A:List Ch):Im A (lvsP ([]:List (LvR n)) :: A):=bnd_nil A
theorem lv_push {n:Nat} {Ls:List (LvR n)} (r:LvR n) {A F:List Ch} (hf:Fit A [mxP r.v r.G,own T64 r.d (Us (dg r.W)),lvsP Ls] F):Im A (lvsP (Ls ++ [r]) :: F):=by
 refine Im.trans hf ?_
 unfold lvsP
 rw [List.map_append,List.map_singleton]
 exact (im_bnd [mxP r.v r.G,own T64 r.d (Us (dg r.W))] (bnd (Ls.map lvP) :: F)).trans (bnd_snoc (lvP r) _ F)
theorem lv_tot {t:List Int} {k:Nat} (hz:solE t k = 0) (n:Nat) {j:Nat} (hj:j ≤ k):tot n (lvT t k n j) ≤ 1:=
 (lv_ok (Fp:=oneS t k) (F:=fun u=>(fT t k u).den) (pT_ch hz) (fun u h1 h2=>(fT_ch hz h1 h2).1) j hj).2
theorem lvT_nx (t:List Int) (k n j:Nat):nextR (fT t k (k - j)) (1 / ((k - j:Nat):Rat)) n (lvT t k n j) = lvT t k n (j + 1):=rfl
theorem lvT_fst (t:List Int) (k n:Nat):firstR (pT t k) n = lvT t k n 0:=rfl
theorem get_snoc {α:Type} {l:List α} {x y:α} {i:Nat} (h:(l ++ [x])[i]? = some y):(l[i]? = some y)∨(i = l.length∧x = y):=by
 rw [List.getElem?_append] at h
 split at h
 ·exact .inl h
 ·rename_i g
  rw [List.getElem?_singleton] at h
  split at h
  ·exact .inr ⟨by omega,by simpa using h⟩
  ·cases h
theorem lvK_one {t:List Int} {k n:Nat} {x:LvR n} (h:LvK t k n 0 x):∀ i r,[x][i]? = some r→LvK t k n i r:=fun i r hr=>by
 rw [List.getElem?_singleton] at hr
 split at hr
 ·rename_i e;subst e;have:x = r:=by simpa using hr
  subst this;exact h
 ·cases hr
structure LsG (n:Nat) where
 j:Nat
 s:Value
 Ls:List (LvR n)
 r:LvR n
attribute [local irreducible] Fit pt own ro vw mpc lpt vels rels mow lrc dfr
attribute [local irreducible] lmp lme mit velg relg bnd owl dfrl evI solE opg shareN nextR firstR lvR
theorem Rlevels_tr (tv:Value) (t:List Int) (k n:Nat) (hz:solE t k = 0) (hk:k ≤ 40) (hl:t.length ≤ 12) (hn:n ≤ 12):Tr Tryz.prog 61 [tv,I k,I n] [vw tv (Is t)] []
  fun u D=>∃ Ls:List (LvR n),u.oneCell' = true∧Ls.length = k + 1∧(∀ i r,Ls[i]? = some r→LvK t k n i r)∧D = [oww TLv 2 u (k + 1) (lcs Ls),lvsP Ls]:=by
 have hk1:=(solE_zero hz).1
 have hF:=Rfirst_tr tv t k n hz hk hl hn
 have hpF:FB (pT t k) 12:=evI_FB hz hk hl (Nat.le_refl k) (Nat.le_refl _)
 have hden:=(pT t k).den_nz
 have hW0:(pT t k).den ^ n ≠ 0:=Nat.ne_of_gt (Nat.pow_pos (Nat.pos_of_ne_zero hden))
 have hWl:(dg ((pT t k).den ^ n)).length ≤ 145:=Nat.le_trans (pow_dg hpF.2 n) (by omega)
 have ht0:=lv_tot hz n (Nat.zero_le k)
 have hstep:=fun j (hj:j < k) (r:LvR n) (hr:LvK t k n j r)=>Rnext25_tr r.v r.d tv t k n (k - j) hz hk hl hn (by omega) (by omega) r.G r.W (145 + 160 * j) (lvT t k n j) hr.eq hr.w0 hr.wl (by omega) (supp_lv _ _ _ _ j) (lv_tot hz n (Nat.le_of_lt hj)) hr.le hr.v1 hr.d1
 simp only [lvT_nx] at hstep
 rw [lvT_fst] at hF
 clear hpF hden
 obtain ⟨W0,hW0'⟩ : ∃ W0,W0 = (pT t k).den ^ n:=⟨_,rfl⟩
 rw [← hW0'] at hF hW0 hWl
 clear hz hW0'
 refine Tr.enter env _ Tryz.func61 (by kernel_rfl) rfl Tryz.ntmps61 rfl (by repeat (first | exact has00 | refine has01 ?_)) fun w0=>?_
 repeat' first|(refine gca ?_;first|(refine ca hF ?_;rintro _ _ ⟨v,dv,G,rfl,hv,hdv,hMR,rfl⟩))|refine al fun c=>?_|refine srz ?_|refine lda ?_|refine slws (sz:=2) (xs:=[v,dv]) fun g2=>?_|(refine wo ?_;first|refine oa ?_)|refine sq ?_|refine rg ?_|refine xc ?_|refine nl ?_|refine bk ?_
 have hL0:LvK t k n 0 ⟨v,dv,G,W0⟩:=⟨hv,hdv,hW0,hWl,hMR,fun a b ha hb=>hMR.le (hMR.lv hW0) ht0 ha hb⟩
 refine TC.im (lvs_nil (n:=n) _) ?_
 refine TC.im (lv_push (Ls:=[]) ⟨v,dv,G,W0⟩ fitA) ?_
 refine TC.loop (ι:=LsG n) (fun g=>[(9,I ((k - g.j:Nat):Int)),(8,g.s)]) (fun g=>[oww TLv 2 g.s (g.j + 1) (lcs g.Ls),lvsP g.Ls,pt c [g.r.v,g.r.d] TLv]) (fun g=>g.j ≤ k∧g.s.oneCell' = true∧g.Ls.length = g.j + 1∧g.Ls[g.j]? = some g.r∧∀ i r,g.Ls[i]? = some r→LvK t k n i r) (fun g=>k - g.j) ⟨0,.slice (some ⟨g2,0,none⟩) 1 1,[⟨v,dv,G,W0⟩],⟨v,dv,G,W0⟩⟩ [0,1,2,7] ⟨Nat.zero_le _,rfl,rfl,rfl,lvK_one hL0⟩ ?_
 clear hL0 hMR hv hdv hF
 rintro ⟨j,s,Ls,r⟩ ⟨hj,hs,hLl,hLr,hLK⟩
 dsimp only at hj hs hLl hLr hLK ⊢
 by_cases hjt:j < k
 rotate_left
 ·obtain rfl:j = k:=by omega
  repeat' first|(refine wo ?_;first|(refine ao ?_;first|refine oa ?_)|refine oa ?_)|(refine gc ?_;first|(refine ci (fun hB=>?_) (fun hB=>?_) <;> try (exfalso;omega)))|refine sq ?_|refine rg ?_|refine xc ?_|refine nl ?_|refine xe ?_|refine rt ?_
  exact r1 ⟨Ls,hs,hLl,hLK,rfl⟩
 have hrK:=hLK j r hLr
 have hS:=hstep j hjt r hrK
 clear hstep
 have hkj:((k - j:Nat):Int) - 1 = ((k - (j + 1):Nat):Int):=by omega
 have hkj0:0 < ((k - j:Nat):Int):=by omega
 repeat' first|(refine gca ?_;first|(refine ca hS ?_ (hp:=has1 (lv_x memA hLr) (has1 (lv_d memA hLr) (has1 hasA has0)));rintro _ _ ⟨v2,d2,G2,W2,rfl,hv2,hd2,hW2,hW2l,hMR2,hle2,rfl⟩))|refine lda ?_|refine srz ?_ (hj:=Nat.le_of_ble_eq_true rfl)|refine slws (sz:=2) (xs:=[v2,d2]) fun g2=>?_|refine apw (e:=TLv) (sz:=2) (N:=j + 1) (M:=1) (xs:=lcs Ls) (ys:=[v2,d2]) (by decide) rfl (one_cons hv2 (one_cons hd2 one_nil)) (fun s' hs'=>?_)|(refine aw (m:=((k - (j + 1):Nat):Int)) ?_ (h:=by rw [← hkj];rfl))|(refine wo ?_;first|(refine ao ?_;first|refine oa ?_)|refine oa ?_)|(refine gc ?_;first|(refine ci (fun hB=>?_) (fun hB=>?_) <;> try (exfalso;omega)))|refine sq ?_|refine rg ?_|refine xc ?_|refine nl ?_|refine sk ?_|refine bk ?_|refine xb ?_
 refine TX.im (lv_push (Ls:=Ls) ⟨v2,d2,G2,W2⟩ fitA) ?_
 exact lp ⟨j + 1,s',Ls ++ [⟨v2,d2,G2,W2⟩],⟨v2,d2,G2,W2⟩⟩ ⟨hjt,hs',by simp [hLl],by dsimp only;rw [List.getElem?_append_right (by omega),hLl,Nat.sub_self];rfl,fun i r' h=>by
  rcases get_snoc h with h' | ⟨h',e⟩
  ·exact hLK i r' h'
  ·subst e;rw [h',hLl];exact ⟨hv2,hd2,hW2,by dsimp only;omega,hMR2,hle2⟩⟩ (hf:=by dsimp only;rw [lcs_app];exact fitA)
end Go.Art
namespace Go.Art
open Go Go.Proofs Go.RowKit
theorem ps_mod {n c r:Nat} (hr:r ≤ n):(c * (n + 1) + r) % (n + 1) = r:=by rw [Nat.mul_comm,Nat.mul_add_mod,Nat.mod_eq_of_lt (by omega)]
theorem ps_step {n W u c r s:Nat} {g:Nat→Nat→Nat} {x:List Rat} (hM:MR n W g x) (hc:c ≤ n) (hr:r ≤ n) (hs:(s:Rat) = (W:Rat) * psN n u x (c * (n + 1) + r)) (h:u = 0∨r = 0):((s + g c r:Nat):Rat) = (W:Rat) * psN n u x (c * (n + 1) + (r + 1)):=by
 rw [← Nat.add_assoc,psN_in (by rw [ps_mod hr];exact h),Rat.natCast_add,hs,hM.eq c r hc hr]
 grind
theorem ps_skip {n W u c r s:Nat} {x:List Rat} (hr:r ≤ n) (hs:(s:Rat) = (W:Rat) * psN n u x (c * (n + 1) + r)) (h:¬ (u = 0∨r = 0)):(s:Rat) = (W:Rat) * psN n u x (c * (n + 1) + (r + 1)):=by
 rw [← Nat.add_assoc,psN_out (by rw [ps_mod hr];exact h)];exact hs
theorem ps_row {n W u c s:Nat} {x:List Rat} (hs:(s:Rat) = (W:Rat) * psN n u x (c * (n + 1) + (n + 1))):(s:Rat) = (W:Rat) * psN n u x ((c + 1) * (n + 1) + 0):=by
 rw [Nat.add_zero,Nat.succ_mul];exact hs
theorem natc_le {a b:Nat} (h:(a:Rat) ≤ (b:Rat)):a ≤ b:=by exact_mod_cast h
theorem ps_le {n W u i s:Nat} {x:List Rat} (hs:(s:Rat) = (W:Rat) * psN n u x i) (h:psN n u x i ≤ 1):s ≤ W:=by
 refine natc_le ?_
 rw [hs]
 have h0:(0:Rat) ≤ (W:Rat):=by exact_mod_cast Nat.zero_le W
 have:=Rat.mul_le_mul_of_nonneg_left h h0
 rwa [Rat.mul_one] at this
theorem ps_end {n W u s:Nat} {x:List Rat} (hW:W ≠ 0) (hs:(s:Rat) = (W:Rat) * psN n u x (n * (n + 1) + (n + 1))):mkRat (s:Int) W = stuckR n u x:=by
 rw [← Nat.succ_mul,psN_all] at hs
 have h0:(W:Rat) ≠ 0:=by exact_mod_cast hW
 rw [Rat.mkRat_eq_div,show ((s:Int):Rat) = (s:Rat) from rfl,hs]
 rw [Rat.mul_comm,Rat.div_def,Rat.mul_assoc,Rat.mul_inv_cancel _ h0,Rat.mul_one]
theorem ps_one {t:List Int} {k:Nat} (hz:solE t k = 0) (n u:Nat) {j:Nat} (hj:j ≤ k) {i:Nat} (hi:i ≤ (n + 1) * (n + 1)):psN n u (lvT t k n j) i ≤ 1:=
 Rat.le_trans (psN_le (lv_ok (n:=n) (Fp:=oneS t k) (F:=fun u=>(fT t k u).den) (pT_ch hz) (fun u h1 h2=>(fT_ch hz h1 h2).1) j hj).1 hi) (lv_tot hz n hj)
structure SuG where
 u:Nat
 v:Value
 hs:List HV
structure SuC where
 c:Nat
 v:Value
 s:Nat
attribute [local irreducible] Fit pt own ro vw mpc lpt vels rels mow lrc dfr
attribute [local irreducible] lmp lme mit velg relg bnd owl dfrl evI solE opg shareN nextR firstR lvR
theorem Rover_tr (mv dv:Value) (x W:Nat) (hx:(dg x).length ≤ 262144) (hW:(dg W).length ≤ 262144) (hW0:W ≠ 0):Tr Tryz.prog 63 [mv,dv] [vw mv (Us (dg x)),vw dv (Us (dg W))] [] (FQ (mkRat (x:Int) W)):=by
 have hI:=RIMake_tr false mv (dg x) (Dg_dg _) (by omega)
 have hM:=fun o=>RFMake_tr ((x:Nat):Int) o dv (dg W) (Dg_dg _) hx hW (by rw [nv_dg];exact hW0)
 rw [nv_dg,show sg false x = ((x:Nat):Int) from rfl] at hI
 simp only [nv_dg] at hM
 unfold IR at hI
 unfold iv dz at hM
 unfold FQ2 at hM
 unfold FQ
 clear hx hW
 generalize mkRat (x:Int) W = s at *
 generalize dg W = l2 at *
 rw [show ((x:Nat):Int).natAbs = x from rfl] at *
 have e0:decide (((x:Nat):Int) < 0) = false:=decide_eq_false (by omega)
 rw [e0] at *
 generalize dg x = l1 at *
 refine Tr.enter env _ Tryz.func63 (by kernel_rfl) rfl Tryz.ntmps63 rfl (by repeat (first | exact has00 | refine has01 ?_)) fun w0=>?_
 repeat' first|(refine gca ?_;first|(refine ca hI ?_;rintro _ _ ⟨o,rfl,ho,rfl⟩)|(refine ca (hM o) ?_;rintro _ _ ⟨vn,vd,rfl,hvn,hvd,rfl⟩))|refine al fun c=>?_|refine srz ?_|refine lda ?_|(refine wo ?_;first|refine oa ?_)|refine sq ?_|refine rg ?_|refine xc ?_|refine nl ?_|refine rt ?_
 exact rca1 (cs:=[.bool (decide (s.num < 0)),vn,vd]) (vs:=[.bool (decide (s.num < 0)),vn,vd]) (T:=TRt) ⟨vn,vd,rfl,hvn,hvd,rfl⟩
theorem Rref25_tr (tv:Value) (t:List Int) (k n:Int):Tr Tryz.prog 60 [tv,I k,I n] [vw tv (Is t)] [] fun u D=>u = I (ripE t k n)∧D = []:=by
 have hC:=RSoCheck_tr tv t k
 have h13:=@solE_13 t k
 unfold ripE
 by_cases hc:k < 1∨1024 < k∨n < 0∨4096 < n
 ·rw [if_pos hc]
  refine Tr.enter env _ Tryz.func60 (by kernel_rfl) rfl Tryz.ntmps60 rfl (by repeat (first | exact has00 | refine has01 ?_)) fun w0=>?_
  repeat' first|(refine wo ?_;first|(refine ao ?_;first|refine oa ?_)|refine oa ?_|refine gy ?_|refine gn ?_|(refine gsi (fun hB=>?_) (fun hB=>?_) <;> try (exfalso;omega)))|(refine gc ?_;first|refine ct ?_|(refine ci (fun hB=>?_) (fun hB=>?_) <;> try (exfalso;omega)))|refine sq ?_|refine rg ?_|refine xc ?_|refine nl ?_|refine bk ?_|refine rt ?_
  all_goals exact r1 ⟨rfl,rfl⟩
 ·rw [if_neg hc]
  by_cases hz:solE t k = 0
  ·rw [hz] at hC ⊢
   refine Tr.enter env _ Tryz.func60 (by kernel_rfl) rfl Tryz.ntmps60 rfl (by repeat (first | exact has00 | refine has01 ?_)) fun w0=>?_
   repeat' first|(refine gca ?_;first|(refine ca hC ?_;rintro _ _ ⟨rfl,rfl⟩))|(refine wo ?_;first|(refine ao ?_;first|refine oa ?_)|refine oa ?_|refine gy ?_|(refine gsi (fun hB=>?_) (fun hB=>?_) <;> try (exfalso;omega)))|(refine gc ?_;first|refine cf ?_|(refine ci (fun hB=>?_) (fun hB=>?_) <;> try (exfalso;omega)))|refine sq ?_|refine rg ?_|refine xc ?_|refine nl ?_|refine sk ?_|refine bk ?_|refine rt ?_|refine xb ?_
   exact r1 ⟨rfl,rfl⟩
  ·rw [h13 hz] at hC ⊢
   refine Tr.enter env _ Tryz.func60 (by kernel_rfl) rfl Tryz.ntmps60 rfl (by repeat (first | exact has00 | refine has01 ?_)) fun w0=>?_
   repeat' first|(refine gca ?_;first|(refine ca hC ?_;rintro _ _ ⟨rfl,rfl⟩))|(refine wo ?_;first|(refine ao ?_;first|refine oa ?_)|refine oa ?_|refine gy ?_|(refine gsi (fun hB=>?_) (fun hB=>?_) <;> try (exfalso;omega)))|(refine gc ?_;first|refine ct ?_|(refine ci (fun hB=>?_) (fun hB=>?_) <;> try (exfalso;omega)))|refine sq ?_|refine rg ?_|refine xc ?_|refine nl ?_|refine bk ?_|refine rt ?_
   exact r1 ⟨rfl,rfl⟩
set_option maxHeartbeats 1000000 in
theorem RStuck_tr (tv:Value) (t:List Int) (k n:Nat) (hz:solE t k = 0) (hk:k ≤ 40) (hl:t.length ≤ 12) (hn:n ≤ 12):Tr Tryz.prog 19 [tv,I k,I n] [vw tv (Is t)] []
  fun u D=>∃ v hs,u = tup2 v (I 0)∧v.oneCell' = true∧hs.length = k + 1∧D = [oww TRt 3 v (k + 1) (rcs (stL t k n) hs),ofr hs (stL t k n)]:=by
 have hk1:=(solE_zero hz).1
 have hR:=Rref25_tr tv t k n
 rw [show ripE t k n = 0 by unfold ripE;rw [if_neg (by omega)];exact hz] at hR
 have hLv:=Rlevels_tr tv t k n hz hk hl hn
 have hone:=fun u j (hj:j ≤ k) i (hi:i ≤ (n + 1) * (n + 1))=>ps_one hz n u (j:=j) hj (i:=i) hi
 have hstT:∀ u,stuckR n u (lvT t k n (k - u)) = stT t k n u:=fun u=>rfl
 have hsl:=stL_len t k n
 have hsg:=fun i (h:i < k + 1)=>stL_get (t:=t) (n:=n) h
 have htks:=fun i (h:i < k + 1)=>take_succ' (l:=stL t k n) (by rw [hsl];exact h) 0
 clear hz
 generalize stL t k n = LL at *
 refine Tr.enter env _ Tryz.func19 (by kernel_rfl) rfl Tryz.ntmps19 rfl (by repeat (first | exact has00 | refine has01 ?_)) fun w0=>?_
 repeat' first|(refine gca ?_;first|(refine ca hR ?_;rintro _ _ ⟨rfl,rfl⟩)|(refine ca hLv ?_;rintro lv _ ⟨Ls,hlv,hLl,hLK,rfl⟩))|(refine wo ?_;first|(refine ao ?_;first|refine oa ?_)|refine oa ?_)|(refine gc ?_;first|refine cf ?_)|refine sq ?_|refine rg ?_|refine xc ?_|refine nl ?_|refine sk ?_|refine bk ?_
 refine TC.im (oww_nil TRt 3 _) ?_
 refine TC.im (owl_nil (e:=T64) (g:=wU) _) ?_
 refine TC.loop (ι:=SuG) (fun g=>[(11,I g.u),(10,g.v)]) (fun g=>[oww TRt 3 g.v g.u (rcs (LL.take g.u) g.hs),ofr g.hs (LL.take g.u)]) (fun g=>g.u ≤ k + 1∧g.v.oneCell' = true∧g.hs.length = g.u) (fun g=>k + 1 - g.u) ⟨0,nS,[]⟩ [0,1,2,9] ⟨Nat.zero_le _,rfl,rfl⟩ ?_
 rintro ⟨u,v,hs'⟩ ⟨hu,hv,hhs⟩
 dsimp only at hu hv hhs ⊢
 by_cases hut:u < k + 1
 rotate_left
 ·obtain rfl:u = k + 1:=by omega
  rw [List.take_of_length_le (by rw [hsl];exact Nat.le_refl _)]
  repeat' first|(refine wo ?_;first|(refine ao ?_;first|refine oa ?_)|refine oa ?_)|(refine gc ?_;first|(refine ci (fun hB=>?_) (fun hB=>?_) <;> try (exfalso;omega)))|refine sq ?_|refine rg ?_|refine xc ?_|refine nl ?_|refine xe ?_|refine rt ?_
  exact r2 ⟨v,hs',rfl,hv,hhs,rfl⟩
 obtain ⟨j,hj⟩ : ∃ j,j = k - u:=⟨_,rfl⟩
 have hjk:j < k + 1:=by omega
 have hkj:(k:Int) - u = (j:Int):=by omega
 obtain ⟨r,hr⟩ : ∃ r,Ls[j]? = some r:=⟨Ls[j]'(by omega),List.getElem?_eq_getElem _⟩
 have hrK:=hLK j r hr
 have hrow:=lcs_row hr
 have hst:=hstT u
 rw [← hj] at hst
 have hone:=hone u j (by omega)
 have hWl:=hrK.wl
 have hW0:=hrK.w0
 have hMR:=hrK.eq
 have hgle:=hrK.le
 have hxv:=hrK.v1
 have hxd:=hrK.d1
 clear hLK hstT hrK
 obtain ⟨xv,xd,rG,rW⟩:=r
 dsimp only at hrow hWl hW0 hMR hgle hxv hxd
 have hlc:=lcs_len Ls
 repeat' first|refine aw (m:=(j:Int)) ?_ (h:=by rw [← hkj];rfl)|refine ixws (i:=(j:Int)) (N:=k + 1) (xs:=lcs Ls) ?_ (hm:=has_oww memA)|refine ldaw (N:=k + 1) (xs:=lcs Ls) (m:=2 * j) hrow ?_ (hm:=has_oww memA)|refine al fun c12=>?_|refine srz ?_ (hj:=Nat.le_of_ble_eq_true rfl)|(refine wo ?_;first|(refine ao ?_;first|refine oa ?_)|refine oa ?_)|(refine gc ?_;first|(refine ci (fun hB=>?_) (fun hB=>?_) <;> try (exfalso;omega)))|refine sq ?_|refine rg ?_|refine xc ?_|refine nl ?_|refine sk ?_|refine bk ?_
 refine TC.im (own_nil T64 _) ?_
 refine TC.loop (ι:=SuC) (fun g=>[(14,I g.c),(13,g.v)]) (fun g=>[own T64 g.v (Us (dg g.s))]) (fun g=>g.c ≤ n + 1∧g.v.oneCell' = true∧(g.s:Rat) = (rW:Rat) * psN n u (lvT t k n j) (g.c * (n + 1) + 0)) (fun g=>n + 1 - g.c) ⟨0,nS,0⟩ [0,1,2,9,10,11,12] ⟨Nat.zero_le _,rfl,by dsimp only;rw [Nat.zero_mul,psN_zero,Rat.mul_zero];rfl⟩ ?_ (hf:=by dsimp only;rw [dg_zero];exact fitA)
 rintro ⟨c,sv,s⟩ ⟨hc,hsv,hs⟩
 dsimp only at hc hsv hs ⊢
 by_cases hct:c < n + 1
 rotate_left
 ·obtain rfl:c = n + 1:=by omega
  have hse:(s:Rat) = (rW:Rat) * psN n u (lvT t k n j) (n * (n + 1) + (n + 1)):=by rw [Nat.succ_mul] at hs;exact hs
  have hq:=ps_end hW0 hse
  have hsW:s ≤ rW:=ps_le hse (hone _ (by rw [Nat.succ_mul];exact Nat.le_refl _))
  have hOv:=Rover_tr sv xd s rW (Nat.le_trans (dg_mono hsW) (by omega)) (by omega) hW0
  rw [hq,hst,← hsg u hut] at hOv
  have htk:=htks u hut
  have hrap:=fun p=>rcs_app (qs:=LL.take u) (rs:=[LL.getD u 0]) (hs:=hs') (gs:=[p]) (by rw [List.length_take,hsl];omega)
  have hsn:=fun (v1 v2:Value) (A F:List Ch) hf=>ofr_snoc (hs:=hs') (qs:=LL.take u) (by rw [List.length_take,hsl];omega) (LL.getD u 0) v1 v2 (A:=A) (F:=F) hf
  rw [← htk] at hsn hrap
  unfold FQ at hOv
  clear hs hse hq hsW hone hMR hgle hWl hrow hsg htks hst htk
  simp only [rcs_one] at hrap
  generalize LL.getD u 0 = qq at *
  repeat' first|(refine gca ?_;first|(refine ca hOv ?_ (hp:=has1 hasA (has1 (lv_d memA hr) has0));rintro _ _ ⟨vn,vd,rfl,hvn,hvd,rfl⟩))|refine slws (sz:=3) (xs:=rrow qq (vn,vd)) fun g2=>?_|refine apw (e:=TRt) (sz:=3) (N:=u) (M:=1) (xs:=rcs (LL.take u) hs') (ys:=rrow qq (vn,vd)) (by decide) rfl (one_cons rfl (one_cons hvn (one_cons hvd one_nil))) fun v' hv'=>?_|(refine wo ?_;first|(refine ao ?_;first|refine aw ?_|refine oa ?_)|refine oa ?_|refine ld ?_)|(refine gc ?_;first|(refine ci (fun hB=>?_) (fun hB=>?_) <;> try (exfalso;omega)))|refine sq ?_|refine rg ?_|refine xc ?_|refine nl ?_|refine xe ?_|refine xb ?_
  refine TX.im (hsn vn vd _ _ fitA) ?_
  exact lp ⟨u + 1,v',hs' ++ [(vn,vd)]⟩ ⟨hut,hv',by simp [hhs]⟩ (hf:=by dsimp only;rw [hrap];exact fitA)
 repeat' first|(refine wo ?_;first|(refine ao ?_;first|refine oa ?_)|refine oa ?_)|(refine gc ?_;first|(refine ci (fun hB=>?_) (fun hB=>?_) <;> try (exfalso;omega)))|refine sq ?_|refine rg ?_|refine xc ?_|refine nl ?_|refine sk ?_|refine bk ?_
 refine TC.loop (ι:=SuC) (fun g=>[(15,I g.c),(13,g.v)]) (fun g=>[own T64 g.v (Us (dg g.s))]) (fun g=>g.c ≤ n + 1∧g.v.oneCell' = true∧(g.s:Rat) = (rW:Rat) * psN n u (lvT t k n j) (c * (n + 1) + g.c)) (fun g=>n + 1 - g.c) ⟨0,sv,s⟩ [0,1,2,9,10,11,12,14] ⟨Nat.zero_le _,hsv,hs⟩ ?_
 clear hsv hs
 rintro ⟨q,sv,s⟩ ⟨hq,hsv,hs⟩
 dsimp only at hq hsv hs ⊢
 by_cases hqt:q < n + 1
 rotate_left
 ·obtain rfl:q = n + 1:=by omega
  have hs2:=ps_row hs
  clear hs
  repeat' first|(refine wo ?_;first|(refine ao ?_;first|refine aw ?_|refine oa ?_)|refine oa ?_)|(refine gc ?_;first|(refine ci (fun hB=>?_) (fun hB=>?_) <;> try (exfalso;omega)))|refine sq ?_|refine rg ?_|refine xc ?_|refine nl ?_|refine xe ?_|refine xb ?_
  exact lp ⟨c + 1,sv,s⟩ ⟨hct,hsv,hs2⟩
 have hsW:s ≤ rW:=ps_le hs (hone _ (by have:=Nat.mul_le_mul_right (n + 1) (show c + 1 ≤ n + 1 by omega);rw [Nat.succ_mul] at this;omega))
 have hAd:=RAdd_tr sv ((rG.c.getD c []).getD q nS) (dg s) (dg (rG.get c q)) (Dg_dg _) (Dg_dg _) (Nat.le_trans (Nat.le_trans (dg_mono hsW) hWl) (by omega)) (Nat.le_trans (Nat.le_trans (dg_mono (hgle c q (by omega) (by omega))) hWl) (by omega))
 rw [nv_dg,nv_dg] at hAd
 by_cases h:u = 0∨q = 0
 ·have hs2:=ps_step hMR (by omega) (by omega) hs h
  clear hs hsW hone hMR hgle hrow hst
  generalize s + rG.get c q = s2 at *
  repeat' first|(refine gca ?_;first|(refine ca hAd ?_ (hp:=has1 hasA (has1 (vm_c (lv_x memA hr) hct hqt) has0));rintro o _ ⟨ho,rfl⟩))|refine ixn (i:=c) (xs:=rG.h) ?_ (hh:=vm_h (lv_x memA hr)) (hb:=by rw [rG.hl];omega)|refine le (xs:=rG.h) ?_ (hh:=vm_h (lv_x memA hr)) (hj:=gm_h hct)|refine ixn (i:=q) (xs:=rG.c.getD c []) ?_ (hh:=vm_r (lv_x memA hr) hct) (hb:=by rw [rG.cc c hct];omega)|refine le (xs:=rG.c.getD c []) ?_ (hh:=vm_r (lv_x memA hr) hct) (hj:=gm_c hct hqt)|(refine wo ?_;first|(refine ao ?_;first|refine aw ?_|refine oa ?_)|refine oa ?_|refine ld ?_|refine gy ?_|refine gn ?_|(refine gsi (fun hB=>?_) (fun hB=>?_) <;> try (exfalso;omega)))|(refine gc ?_;first|refine ct ?_|(refine ci (fun hB=>?_) (fun hB=>?_) <;> try (exfalso;omega)))|refine sq ?_|refine rg ?_|refine xc ?_|refine nl ?_|refine sk ?_|refine bk ?_|refine xb ?_
  all_goals exact lp ⟨q + 1,o,s2⟩ ⟨hqt,ho,hs2⟩
 ·have hs2:=ps_skip (n:=n) (by omega) hs h
  clear hAd hsW
  repeat' first|(refine wo ?_;first|(refine ao ?_;first|refine aw ?_|refine oa ?_)|refine oa ?_|refine gy ?_|(refine gsi (fun hB=>?_) (fun hB=>?_) <;> try (exfalso;omega)))|(refine gc ?_;first|(refine ci (fun hB=>?_) (fun hB=>?_) <;> try (exfalso;omega)))|refine sq ?_|refine rg ?_|refine xc ?_|refine nl ?_|refine sk ?_|refine bk ?_|refine xb ?_
  exact lp ⟨q + 1,sv,s⟩ ⟨hqt,hsv,hs2⟩
end Go.Art
namespace Go.Art
open Go Go.Proofs Go.RowKit
def sIx (x:List Rat) (m:Nat):List Nat:=(List.range m).filter fun i=>decide (x.getD i 0 ≠ 0)
theorem sIx_zero (x:List Rat):sIx x 0 = []:=rfl
theorem sIx_in {x:List Rat} {m:Nat} (h:x.getD m 0 ≠ 0):sIx x (m + 1) = sIx x m ++ [m]:=by
 unfold sIx;rw [List.range_succ,List.filter_append,List.filter_cons,if_pos (decide_eq_true h)];rfl
theorem sIx_out {x:List Rat} {m:Nat} (h:x.getD m 0 = 0):sIx x (m + 1) = sIx x m:=by
 unfold sIx;rw [List.range_succ,List.filter_append,List.filter_cons,if_neg (by rw [decide_eq_true_eq];exact fun k=>k h)];simp
theorem sIx_len (x:List Rat) (m:Nat):(sIx x m).length ≤ m:=by
 have:=List.length_filter_le (fun i=>decide (x.getD i 0 ≠ 0)) (List.range m)
 rwa [List.length_range] at this
abbrev srow (c r:Nat) (q:Rat) (h:HV):List Value:=[I (c:Int),I (r:Int),.bool (decide (q.num < 0)),h.1,h.2]
def scs (n:Nat) (x:List Rat) (is:List Nat) (hs:List HV):List Value:=(List.zipWith (fun i h=>srow (i / (n + 1)) (i % (n + 1)) (x.getD i 0) h) is hs).flatten
theorem scs_app {n:Nat} {x:List Rat} {is:List Nat} {hs:List HV} (hl:hs.length = is.length) (i:Nat) (h:HV):scs n x (is ++ [i]) (hs ++ [h]) = scs n x is hs ++ srow (i / (n + 1)) (i % (n + 1)) (x.getD i 0) h:=by
 unfold scs
 rw [List.zipWith_append (by omega),List.flatten_append]
 simp
structure SsG where
 es:List (Option HV)
 v:Value
 is:List Nat
 hs:List HV
structure SsI (x:List Rat) (ez:List (Option HV)) (N i:Nat) (g:SsG):Prop where
 ii:g.is = sIx x i
 ov:g.v.oneCell' = true
 hl:g.hs.length = g.is.length
 el:g.es.length = N
 es:∀ j,i ≤ j→j < N→g.es.getD j none = ez.getD j none
theorem grB_out {A F:List Ch} {n:Nat} {v:Value} {qs:List Rat} {es:List (Option HV)} {z:HV} (hf:Fit A [grB n v qs es z] F):Im A (gP n v qs es z ++ F):=Im.trans hf (un_bnd (gP n v qs es z) F)
theorem gow_pop {A F:List Ch} {es:List (Option HV)} {qs:List Rat} {v1 v2:Value} (hf:Fit A [gow es qs] F) (hl:es.length = qs.length) {i:Nat} (hi:i < qs.length) (he:es.getD i none = some (v1,v2)):Im A (own T64 v1 (Us (dg (qs.getD i 0).num.natAbs)) :: own T64 v2 (Us (dg (qs.getD i 0).den)) :: gow (es.set i none) qs :: F):=Im.trans hf (gow_out hl hi he F)
structure SdG where
 d:Bool
 v:Value
 is:List Nat
 hs:List HV
attribute [local irreducible] Fit pt own ro vw mpc lpt vels rels mow lrc dfr
attribute [local irreducible] lmp lme mit velg relg bnd owl dfrl gow shB grB
abbrev TSt:TypeId:=45
abbrev TSs:TypeId:=41
abbrev ssD (n:Nat) (x:List Rat) (v:Value) (is:List Nat) (hs:List HV):List Ch:=[oww TSt 5 v is.length (scs n x is hs),ofr hs (is.map fun i=>x.getD i 0)]
set_option maxHeartbeats 1000000 in
theorem States_ok (tv:Value) (htv:tv.oneCell' = true) (t:List Int) (k n u:Nat) (hz:solE t k = 0) (hk:k ≤ 40) (hl:t.length ≤ 12) (hn:n ≤ 12) (hu:u ≤ k):Tr Tryz.prog 25 [tv,I k,I n,I u] [vw tv (Is t)] []
  fun w D=>∃ v hs,w = tup2 v (I 0)∧v.oneCell' = true∧hs.length = (sIx (lvT t k n (k - u)) ((n + 1) * (n + 1))).length∧D = ssD n (lvT t k n (k - u)) v (sIx (lvT t k n (k - u)) ((n + 1) * (n + 1))) hs:=by
 have hk1:=(solE_zero hz).1
 have hR:=riprefuses_tr tv t k n
 rw [show ripE t k n = 0 by unfold ripE;rw [if_neg (by omega)];exact hz] at hR
 have hLv:=levels_tr tv htv (k:Int) (n:Int)
 have hrunL:=fun p1 p2 p3=>@SeqW.run _ _ _ _ _ _ _ (levels1_seq p1 p2 p3 tv htv t k n hz hk hl hn)
 have hfb:∀ i,i < (n + 1) * (n + 1)→(dg ((lvT t k n (k - u)).getD i 0).num.natAbs).length ≤ 1099511627776:=fun i hi=>by
  obtain ⟨B,hB⟩ : ∃ B,B = 20000:=⟨_,rfl⟩
  have hB9:B ≤ 8589934592:=by omega
  obtain ⟨b1,b2,b3,b4⟩:=lvT_facts hz hk hl hn hB (j:=k - u) (by omega)
  exact Nat.le_trans ((y_FB b1 b2 b3 b4 hi).le hB9).1 (by decide)
 have hPl:=fun v hv=>places_tr n v hv
 have hNN:(n + 1) * (n + 1) ≤ 169:=Nat.mul_le_mul (show n + 1 ≤ 13 by omega) (show n + 1 ≤ 13 by omega)
 have hql:(lvT t k n (k - u)).length = (n + 1) * (n + 1):=(supp_lv _ _ _ _ _).len
 clear hz
 generalize lvT t k n = L at *
 generalize hx:L (k - u) = x at *
 refine Tr.enterM env _ Tryz.func25 (by kernel_rfl) rfl Tryz.ntmps25 rfl (by repeat (first | exact has00 | refine has01 ?_)) fun w0=>?_
 repeat' first|(refine gca ?_;first|(refine ca hR ?_;rintro _ _ ⟨rfl,rfl⟩)|(refine ca hLv ?_;rintro _ _ ⟨p1,p2,p3,rfl,rfl⟩))|refine bx1 fun c7=>?_|refine al fun c11=>?_|(refine wo ?_;first|(refine ao ?_;first|refine oa ?_)|refine oa ?_|refine ld ?_|refine gy ?_)|(refine gc ?_;first|refine cf ?_|(refine ci (fun hB=>?_) (fun hB=>?_) <;> try (exfalso;omega)))|refine sq ?_|refine rg ?_|refine xc ?_|refine nl ?_|refine sk ?_|refine bk ?_
 refine TC.im (oww_nil TSt 5 _) ?_
 refine TC.im (owl_nil (e:=T64) (g:=wU) _) ?_
 have hrun:=@hrunL p1 p2 p3
 clear hrunL hLv hR
 refine TC.range [lbd [lpt c7 [I u] TLI],lbd [lpt p1 [tv] TLs,lpt p2 [I k] TLI,lpt p3 [I n] TLI,vw tv (Is t)]] [pt c11 [nS] TSs,oww TSt 5 nS 0 [],ofr [] []] (fun l2 rec Dm pend B'=>∃ v hs,B' = dfr Dm :: pt c11 [v] TSs :: ssD n x v (sIx x ((n + 1) * (n + 1))) hs∧pend = some (.exit 0)∧v.oneCell' = true∧hs.length = (sIx x ((n + 1) * (n + 1))).length) ?_ ?_ (hp:=has1 (lbd_of (has1 hasA has0)) (has1 (lbd_of (has1 hasA (has1 hasA (has1 hasA (has1 hasA has0))))) has0))
 rotate_left
 ·rintro l2 rec Dm pend B' ⟨v,hs,rfl,rfl,hv,hhs⟩
  generalize sIx x ((n + 1) * (n + 1)) = is at *
  show TC env _ _ _ _ _ _
  refine TC.im (dfrl_nil _) ?_
  refine TC.im (dfrl_push (D:=Dm) (Ds:=[]) fitA) ?_
  repeat' first|(refine wo ?_;first|refine oa ?_|refine ld ?_)|refine sq ?_|refine rg ?_|refine xc ?_|refine nl ?_|refine xe ?_|refine rt ?_
  exact m2t (Ds:=[Dm]) ⟨v,hs,rfl,hv,hhs,rfl⟩
 intro rec l2 Dm hr
 refine Tr.unb (hrun (α:=SdG) (lbd [lpt c7 [I u] TLI]) l2 (fun g=>bnd (lrc l2 rec (if g.d then .done else .ready) (if g.d then some (.exit 0) else none) :: dfr Dm :: pt c11 [g.v] TSs :: ssD n x g.v g.is g.hs)) (fun g j=>g = ⟨false,nS,[],[]⟩∧j ≤ k - u) (fun g=>g.d = true∧g.v.oneCell' = true∧g.is = sIx x ((n + 1) * (n + 1))∧g.hs.length = g.is.length) ⟨false,nS,[],[]⟩ ⟨rfl,Nat.zero_le _⟩ (fun p=>bnd_nob (by repeat (first | exact nb0 | refine nb1 ?_))) ?_) ?_
 rotate_left
 ·rintro _ _ ⟨⟨d,v,is,hs⟩,rfl,h | h⟩
  ·exact absurd h.2 (by omega)
  ·obtain ⟨h1,h2,h3,h4⟩:=h
   dsimp only at h1 h2 h3 h4
   subst h1 h3
   exact ⟨_,rfl,.done,some (.exit 0),_,rfl,by decide,v,hs,rfl,rfl,h2,h4⟩
 clear hrun
 rintro g j v ez z hv hz hgr ⟨rfl,hju⟩ hj
 show Ty _ _ _ _ [grB n v (L j) ez z,bnd [lrc l2 rec .ready none,dfr Dm,pt c11 [nS] TSs,oww TSt 5 nS 0 [],ofr [] []]] _
 refine Ty.bndK (K:=[grB n v (L j) ez z]) ?_
 refine Ty.pre (pre:=[lpt c7 [I u] TLI]) ?_ (has_lbds (C:=[lpt c7 [I u] TLI]) (List.Mem.head _) _ (by repeat (first | exact has00 | refine has01 ?_)) fun c hc=>hc) (by repeat (first | exact has00 | refine has01 ?_))
 refine Ty.intro env hr (by repeat (first | exact has00 | refine has01 ?_)) fun w1=>?_
 by_cases hjk:j = k - u
 rotate_left
 ·repeat' first|refine al fun c13=>?_|refine srz ?_ (hj:=Nat.le_of_ble_eq_true rfl)|refine xbeg ?_|(refine wo ?_;first|(refine ao ?_;first|refine oa ?_)|refine oa ?_|refine ldl ?_)|(refine gc ?_;first|(refine cn (fun hB=>?_) (fun hB=>?_) <;> try (exfalso;omega)))|refine sq ?_|refine rg ?_|refine xc ?_|refine nl ?_|refine bk ?_|refine xe ?_
  exact yn ⟨[lrc l2 rec .ready none,dfr Dm,pt c11 [nS] TSs,oww TSt 5 nS 0 [],ofr [] []],[grB n v (L j) ez z],rfl,.inl ⟨rfl,⟨false,nS,[],[]⟩,rfl,rfl,by omega⟩⟩
 subst hjk
 rw [hx] at hgr ⊢
 clear hx hju hj
 have hhl:(hsE z ez).length = x.length:=by rw [hsE_len,hgr.el,hgr.ql]
 have hPl:=hPl v hv
 repeat' first|(refine gca ?_;first|(refine ca hPl ?_;rintro _ _ ⟨bp,rfl,rfl⟩))|refine al fun c13=>?_|refine srz ?_ (hj:=Nat.le_of_ble_eq_true rfl)|refine xbeg ?_|refine lda (cs:=[I n,v]) ?_|(refine wo ?_;first|(refine ao ?_;first|refine oa ?_)|refine oa ?_|refine ldl ?_)|(refine gc ?_;first|(refine cn (fun hB=>?_) (fun hB=>?_) <;> try (exfalso;omega)))|refine sq ?_|refine rg ?_|refine xc ?_|refine nl ?_|refine sk ?_|refine bk ?_
 refine TC.fact (fun w hw i hi=>fr_one (hs:=hsE z ez) (qs:=x) (has_grB hgr memA).2 hhl (i:=i) hi w hw) fun hone=>?_
 refine TC.im (grB_out (n:=n) (v:=v) (qs:=x) (es:=ez) (z:=z) fitA) ?_
 have hrun2:=@SeqP.run _ _ _ _ _ _ _ (places1_seq bp n v x (hsE z ez) hhl hql hn hone)
 refine TC.rangeI (l0:=l2) (rec0:=rec) memA [lbd [vw z.1 (Us (dg (0:Rat).num.natAbs))],lbd [lpt bp [I n,v] TGr,vwf v ((n + 1) * (n + 1)) (rcs x (hsE z ez))]] [pt c11 [nS] TSs,oww TSt 5 nS 0 [],ofr [] [],gow ez x] (fun l3 rec3 pend B'=>∃ g:SsG,B' = [pt c11 [g.v] TSs,oww TSt 5 g.v g.is.length (scs n x g.is g.hs),ofr g.hs (g.is.map fun i=>x.getD i 0),gow g.es x]∧pend = none∧SsI x ez ((n + 1) * (n + 1)) ((n + 1) * (n + 1)) g) ?_ ?_ (hp:=has1 (lbd_of (has1 hasA has0)) (has1 (lbd_of (has1 hasA (has1 hasA has0))) has0))
 rotate_left
 ·rintro l3 rec3 pend B' ⟨⟨es,ov,is,hs⟩,rfl,rfl,h1,h2,h3,h4,_⟩
  dsimp only at h1 h2 h3 h4 ⊢
  show TX env _ _ _ _ _ _
  repeat' first|refine xc ?_|refine xb ?_
  refine xo ?_
  exact ye ⟨[lrc l2 rec .done (some (.exit 0)),dfr Dm,pt c11 [ov] TSs,oww TSt 5 ov is.length (scs n x is hs),ofr hs (is.map fun i=>x.getD i 0)],[],rfl,.inr ⟨rfl,⟨true,ov,is,hs⟩,rfl,rfl,h2,h1,h3⟩⟩
 intro rec3 l3 hr3
 refine Tr.unb (hrun2 (α:=SsG) (lbd [vw z.1 (Us (dg (0:Rat).num.natAbs))]) l3 (fun g=>bnd [lrc l3 rec3 .ready none,pt c11 [g.v] TSs,oww TSt 5 g.v g.is.length (scs n x g.is g.hs),ofr g.hs (g.is.map fun i=>x.getD i 0),gow g.es x]) (fun g i=>SsI x ez ((n + 1) * (n + 1)) i g) (fun _=>False) ⟨ez,nS,[],[]⟩ ⟨rfl,rfl,rfl,hgr.el,fun _ _ _=>rfl⟩ (fun p=>bnd_nob (by repeat (first | exact nb0 | refine nb1 ?_))) ?_) ?_
 rotate_left
 ·rintro _ _ ⟨g,rfl,h | h⟩
  ·exact ⟨_,rfl,.ready,none,_,rfl,by decide,g,rfl,rfl,h⟩
  ·exact h.elim
 clear hrun2 hPl
 rintro ⟨es,ov,is,hs⟩ i ⟨h1,hov,hhs,hes,hE⟩ hi
 dsimp only at h1 hov hhs hes hE ⊢
 refine Ty.bnd ?_
 refine Ty.pre (pre:=[vw z.1 (Us (dg (0:Rat).num.natAbs))]) ?_ (has_lbds (C:=[vw z.1 (Us (dg (0:Rat).num.natAbs))]) (List.Mem.head _) _ (by repeat (first | exact has00 | refine has01 ?_)) fun c hc=>hc) (by repeat (first | exact has00 | refine has01 ?_))
 refine Ty.intro env hr3 (by repeat (first | exact has00 | refine has01 ?_)) fun w2=>?_
 have hfi:=hfb i hi
 obtain ⟨hx1,hx2⟩:=hone i (by rw [hql];exact hi)
 have hil:is.length ≤ 169:=by rw [h1];have:=sIx_len x i;omega
 have hEi:=hE i (Nat.le_refl i) hi
 have hxe:(hsE z ez).getD i nS2 = (ez.getD i none).getD z:=hsE_get (by rw [hgr.el];exact hi)
 have hel:es.length = x.length:=by rw [hes,hql]
 have hix:i < x.length:=by rw [hql];exact hi
 have hz0:=hgr.z i hi
 have hps:∀ F:List Ch,gow es x ∈ F→vw z.1 (Us (dg (0:Rat).num.natAbs)) ∈ F→Has F (vw ((hsE z ez).getD i nS2).1 (Us (dg (x.getD i 0).num.natAbs))):=fun F f1 f2=>by
  rw [hxe]
  cases he:ez.getD i none with
  | none=>rw [hz0 he];exact has_mem f2
  | some p=>rw [he] at hEi;exact (has_gowS hel f1 hix hEi).1
 clear hfb hone hgr
 by_cases hy0:x.getD i 0 = 0
 ·have h1':is = sIx x (i + 1):=by rw [sIx_out hy0];exact h1
  clear hxe hEi
  generalize (hsE z ez).getD i nS2 = hh at *
  obtain ⟨x1,x2⟩:=hh
  dsimp only at hx1 hx2 hps
  have hS:=some_tr (x.getD i 0) x1 x2 hx1 hfi
  rw [decide_eq_false (fun h=>h hy0)] at hS
  generalize x.getD i 0 = y at *
  generalize i / (n + 1) = c at *
  generalize i % (n + 1) = r at *
  repeat' first|(refine gca ?_;first|(refine ca hS ?_ (hp:=has1 (hps _ memA memA) has0);rintro _ _ ⟨rfl,rfl⟩))|refine al fun c14=>?_|refine srz ?_ (hj:=Nat.le_of_ble_eq_true rfl)|refine xbeg ?_|refine lda ?_|(refine gc ?_;first|refine cf ?_)|refine sq ?_|refine rg ?_|refine xc ?_|refine nl ?_|refine sk ?_|refine bk ?_|refine xb ?_
  exact yn ⟨⟨es,ov,is,hs⟩,rfl,.inl ⟨rfl,h1',hov,hhs,hes,fun j g1 g2=>hE j (by omega) g2⟩⟩
 have h1':is ++ [i] = sIx x (i + 1):=by rw [sIx_in hy0,h1]
 obtain ⟨⟨x1,x2⟩,hp⟩ : ∃ p,ez.getD i none = some p:=by
  cases he:ez.getD i none with
  | none=>exact absurd (hz0 he) hy0
  | some p=>exact ⟨p,rfl⟩
 rw [hp] at hxe hEi
 have hxe':(hsE z ez).getD i nS2 = (x1,x2):=hxe
 rw [hxe'] at hx1 hx2 hps ⊢
 dsimp only at hx1 hx2 hps
 have hS:=some_tr (x.getD i 0) x1 x2 hx1 hfi
 rw [decide_eq_true hy0] at hS
 have hsc:=scs_app (n:=n) (x:=x) hhs i (x1,x2)
 have hmp:(is ++ [i]).map (fun i=>x.getD i 0) = is.map (fun i=>x.getD i 0) ++ [x.getD i 0]:=by simp
 have hll:(is ++ [i]).length = is.length + 1:=by simp
 have hgo:=fun (A F:List Ch) (hf:Fit A [gow es x] F)=>gow_pop hf hel hix hEi
 have hor:=fun (A F:List Ch) (hf:Fit A _ F)=>ofr_snoc (hs:=hs) (qs:=is.map fun i=>x.getD i 0) (by rw [List.length_map];exact hhs) (x.getD i 0) x1 x2 hf
 have hsn:∀ j,i + 1 ≤ j→j < (n + 1) * (n + 1)→(es.set i none).getD j none = ez.getD j none:=fun j g1 g2=>by
  rw [getD_setO _ _ _ _ (by omega),if_neg (by omega)];exact hE j (by omega) g2
 have hsl:(es.set i none).length = (n + 1) * (n + 1):=by rw [List.length_set];exact hes
 clear hxe hxe' hEi hE hz0 hp hy0 h1
 rw [← hmp] at hor
 generalize x.getD i 0 = y at *
 generalize i / (n + 1) = c at *
 generalize i % (n + 1) = r at *
 repeat' first|(refine gca ?_;first|(refine ca hS ?_ (hp:=has1 (hps _ memA memA) has0);rintro _ _ ⟨rfl,rfl⟩))|refine al fun c14=>?_|refine srz ?_ (hj:=Nat.le_of_ble_eq_true rfl)|refine xbeg ?_|refine lda ?_|(refine wo ?_;first|refine ld ?_)|(refine gc ?_;first|refine ct ?_)|refine sq ?_|refine rg ?_|refine xc ?_|refine nl ?_|refine bk ?_
 repeat' first|refine lda (vs:=rrow y (x1,x2)) ?_|refine ixa (m:=2) (i:=0) ?_|refine ixa (m:=2) (i:=1) ?_|refine bdm ?_|refine slws (sz:=5) (xs:=srow c r y (x1,x2)) fun g2=>?_|refine apw (e:=TSt) (sz:=5) (N:=is.length) (M:=1) (xs:=scs n x is hs) (ys:=srow c r y (x1,x2)) (by decide) rfl (one_cons rfl (one_cons rfl (one_cons rfl (one_cons hx1 (one_cons hx2 one_nil))))) fun v' hv'=>?_|refine srz ?_ (hj:=Nat.le_of_ble_eq_true rfl)|(refine wo ?_;first|refine ld ?_|refine sr ?_)|refine nl ?_|refine xb ?_
 refine TX.im (hgo _ _ fitA) ?_
 refine TX.im (hor _ _ fitA) ?_
 rw [← hsc,← hll]
 exact yn ⟨⟨es.set i none,v',is ++ [i],hs ++ [(x1,x2)]⟩,rfl,.inl ⟨rfl,h1',hv',by rw [List.length_append,List.length_append,hhs];rfl,hsl,hsn⟩⟩
theorem States_err (tv:Value) (t:List Int) (k n u:Int) (h:ripE t k n ≠ 0):Tr Tryz.prog 25 [tv,I k,I n,I u] [vw tv (Is t)] [] fun w D=>w = tup2 nS (I (ripE t k n))∧D = []:=by
 have hR:=riprefuses_tr tv t k n
 generalize ripE t k n = e at *
 refine Tr.enter env _ Tryz.func25 (by kernel_rfl) rfl Tryz.ntmps25 rfl (by repeat (first | exact has00 | refine has01 ?_)) fun w0=>?_
 repeat' first|(refine gca ?_;first|(refine ca hR ?_;rintro _ _ ⟨rfl,rfl⟩))|refine bx1 fun c7=>?_|(refine wo ?_;first|(refine ao ?_;first|refine oa ?_)|refine oa ?_)|(refine gc ?_;first|(refine cn (fun hB=>?_) (fun hB=>?_) <;> try (exfalso;omega)))|refine sq ?_|refine rg ?_|refine xc ?_|refine nl ?_|refine rt ?_
 exact r2 ⟨rfl,rfl⟩
theorem States_none (tv:Value) (t:List Int) (k n u:Int) (h:ripE t k n = 0) (hu:u < 0∨k < u):Tr Tryz.prog 25 [tv,I k,I n,I u] [vw tv (Is t)] [] fun w D=>w = tup2 nS (I 3)∧D = []:=by
 have hR:=riprefuses_tr tv t k n
 rw [h] at hR
 by_cases h0:u < 0
 ·refine Tr.enter env _ Tryz.func25 (by kernel_rfl) rfl Tryz.ntmps25 rfl (by repeat (first | exact has00 | refine has01 ?_)) fun w0=>?_
  repeat' first|(refine gca ?_;first|(refine ca hR ?_;rintro _ _ ⟨rfl,rfl⟩))|refine bx1 fun c7=>?_|(refine wo ?_;first|(refine ao ?_;first|refine oa ?_)|refine oa ?_|refine ld ?_|refine gn ?_|(refine gsi (fun hB=>?_) (fun hB=>?_) <;> try (exfalso;omega)))|(refine gc ?_;first|refine ct ?_|refine cf ?_)|refine sq ?_|refine rg ?_|refine xc ?_|refine nl ?_|refine sk ?_|refine rt ?_
  exact r2 ⟨rfl,rfl⟩
 ·have h1:k < u:=hu.resolve_left h0
  refine Tr.enter env _ Tryz.func25 (by kernel_rfl) rfl Tryz.ntmps25 rfl (by repeat (first | exact has00 | refine has01 ?_)) fun w0=>?_
  repeat' first|(refine gca ?_;first|(refine ca hR ?_;rintro _ _ ⟨rfl,rfl⟩))|refine bx1 fun c7=>?_|(refine wo ?_;first|(refine ao ?_;first|refine oa ?_)|refine oa ?_|refine ld ?_|refine gy ?_|(refine gsi (fun hB=>?_) (fun hB=>?_) <;> try (exfalso;omega)))|(refine gc ?_;first|refine cf ?_|(refine ci (fun hB=>?_) (fun hB=>?_) <;> try (exfalso;omega)))|refine sq ?_|refine rg ?_|refine xc ?_|refine nl ?_|refine sk ?_|refine rt ?_
  exact r2 ⟨rfl,rfl⟩
end Go.Art
namespace Go.Art
open Go Go.Proofs Go.RowKit
theorem part_FB5 {t:List Int} {k n i:Nat} (hz:solE t k = 0) (hk:k ≤ 40) (hl:t.length ≤ 12) (hn:n ≤ 12) (hi:i ≤ k):FB (sR (fun u=>stT t k n (u + 1)) (List.range i)) 100000:=by
 obtain ⟨a,ha,he⟩:=part_nat hz n i hi
 rw [he]
 have h1:=oneS_lt hz hk hl
 have h2:oneS t k ^ n < 18446744073709551616 ^ 121:=by
  refine Nat.lt_of_le_of_lt (Nat.pow_le_pow_left (Nat.le_of_lt h1) n) ?_
  rw [← Nat.pow_mul]
  exact Nat.pow_lt_pow_right (by decide) (by omega)
 exact (FB_nat (B:=121) (Nat.ne_of_gt (Nat.pow_pos (Nat.pos_of_ne_zero (oneS_pos hz)))) (Nat.lt_of_le_of_lt ha h2) h2).le (by decide)
theorem st_FB5 {t:List Int} {k n u:Nat} (hz:solE t k = 0) (hk:k ≤ 40) (hl:t.length ≤ 12) (hn:n ≤ 12) (hu:u ≤ k):FB (stT t k n u) 100000:=by
 obtain ⟨B,hB⟩ : ∃ B,B = 20000:=⟨_,rfl⟩
 have hB9:B ≤ 100000:=by omega
 obtain ⟨b1,b2,b3,b4⟩:=lvT_facts hz hk hl hn hB (j:=k - u) (by omega)
 unfold stT
 rw [← psN_all]
 exact (FB_le1 (psN_fr b1 (Nat.le_refl _)) b3 (Rat.le_trans (psN_le b1 (Nat.le_refl _)) b2) b4).le hB9
theorem rat_over {a W:Nat} {q:Rat} (hW:W ≠ 0) (h:(a:Rat) = (W:Rat) * q):mkRat (a:Int) W = q:=by
 have h0:(W:Rat) ≠ 0:=by exact_mod_cast hW
 rw [Rat.mkRat_eq_div,show ((a:Int):Rat) = (a:Rat) from rfl,h]
 rw [Rat.mul_comm,Rat.div_def,Rat.mul_assoc,Rat.mul_inv_cancel _ h0,Rat.mul_one]
theorem mr_zero {n W c r:Nat} {g:Nat→Nat→Nat} {x:List Rat} (hW:W ≠ 0) (hM:MR n W g x) (hc:c ≤ n) (hr:r ≤ n):x.getD (c * (n + 1) + r) 0 = 0 ↔ g c r = 0:=by
 have h0:(W:Rat) ≠ 0:=by exact_mod_cast hW
 have h:=hM.eq c r hc hr
 constructor
 ·intro e
  rw [e,Rat.mul_zero] at h
  exact_mod_cast h
 ·intro e
  rw [e] at h
  rcases Rat.mul_eq_zero.1 h.symm with h | h
  ·exact absurd h h0
  ·exact h
theorem ps_div {n c r:Nat} (hr:r ≤ n):(c * (n + 1) + r) / (n + 1) = c:=by rw [Nat.mul_comm,Nat.mul_add_div (by omega),Nat.div_eq_of_lt (by omega),Nat.add_zero]
structure SwG where
 c:Nat
 v:Value
 is:List Nat
 hs:List HV
attribute [local irreducible] Fit pt own ro vw mpc lpt vels rels mow lrc dfr
attribute [local irreducible] lmp lme mit velg relg bnd owl dfrl evI solE opg shareN nextR firstR lvR
theorem RStuck_err (tv:Value) (t:List Int) (k n:Int) (h:ripE t k n ≠ 0):Tr Tryz.prog 19 [tv,I k,I n] [vw tv (Is t)] [] fun u D=>u = tup2 nS (I (ripE t k n))∧D = []:=by
 have hR:=Rref25_tr tv t k n
 generalize ripE t k n = e at *
 refine Tr.enter env _ Tryz.func19 (by kernel_rfl) rfl Tryz.ntmps19 rfl (by repeat (first | exact has00 | refine has01 ?_)) fun w0=>?_
 repeat' first|(refine gca ?_;first|(refine ca hR ?_;rintro _ _ ⟨rfl,rfl⟩))|(refine wo ?_;first|(refine ao ?_;first|refine oa ?_)|refine oa ?_)|(refine gc ?_;first|(refine cn (fun hB=>?_) (fun hB=>?_) <;> try (exfalso;omega)))|refine sq ?_|refine rg ?_|refine xc ?_|refine nl ?_|refine rt ?_
 exact r2 ⟨rfl,rfl⟩
theorem RFail_ok (tv:Value) (t:List Int) (k n:Nat) (hz:solE t k = 0) (hk:k ≤ 40) (hl:t.length ≤ 12) (hn:n ≤ 12):Tr Tryz.prog 21 [tv,I k,I n] [vw tv (Is t)] [] (FQ2 (failQ t k n) 0):=by
 have hS:=RStuck_tr tv t k n hz hk hl hn
 have hF1:=fun i (hi:i < k)=>st_FB5 hz hk hl hn (u:=i + 1) hi
 have hF2:=fun i (hi:i ≤ k)=>part_FB5 hz hk hl hn hi
 have hpart:=stL_part t k n
 have hget:=fun i (hi:i < k)=>stL_get (t:=t) (n:=n) (i:=i + 1) (Nat.succ_lt_succ hi)
 have hLL:=stL_len t k n
 have hq:failQ t k n = ((stL t k n).drop 1).foldl (· + ·) 0:=by
  have:=hpart k (Nat.le_refl k)
  rw [List.take_of_length_le (by rw [List.length_drop,hLL];omega)] at this
  exact this.symm
 rw [hq]
 clear hq
 generalize stL t k n = LL at *
 cases LL with
 | nil=>simp at hLL
 | cons q0 qs=>
 have hql:qs.length = k:=by simpa using hLL
 rw [List.drop_succ_cons,List.drop_zero] at hpart ⊢
 have hAdd:=fun v hs (hl':hs.length = qs.length)=>RFAdd_tr v qs hs hl' (by omega) (fun i hi=>by
  have:=hget i (by omega)
  rw [List.getD_cons_succ] at this
  rw [this];exact hF1 i (by omega)) (fun i hi=>by rw [hpart i (by omega)];exact hF2 i (by omega))
 clear hF1 hF2 hpart hget
 unfold FQ2 at hAdd ⊢
 rw [hql] at hAdd
 generalize qs.foldl (· + ·) (0:Rat) = p at *
 refine Tr.enter env _ Tryz.func21 (by kernel_rfl) rfl Tryz.ntmps21 rfl (by repeat (first | exact has00 | refine has01 ?_)) fun w0=>?_
 repeat' first|refine al fun c=>?_|refine srz ?_|refine (ca hS ?_) ; rintro _ _ ⟨v,hs,rfl,hv,hhs,rfl⟩|(refine wo ?_;first|(refine ao ?_;first|refine oa ?_)|refine oa ?_)|(refine gc ?_;first|refine cf ?_)|refine sq ?_|refine rg ?_|refine xc ?_|refine nl ?_|refine sk ?_
 obtain ⟨h0,hr,rfl⟩ : ∃ h0 hr,hs = h0 :: hr:=by cases hs with | nil=>simp at hhs | cons a b=>exact ⟨a,b,rfl⟩
 have hrl:hr.length = qs.length:=by simp at hhs;omega
 refine TO.im (ofr_pop (h:=h0) (hs:=hr) (q:=q0) (qs:=qs) fitA) ?_
 have hlen:(rcs (q0 :: qs) (h0 :: hr)).length ≤ (k + 1) * 3:=by rw [rcs_len (by simpa using hrl),List.length_cons,hql];exact Nat.le_refl _
 have hdr:(rcs (q0 :: qs) (h0 :: hr)).drop (1 * 3) = rcs qs hr:=rfl
 repeat' first|(refine gca ?_;first|(refine ca (hAdd _ hr (by omega)) ?_ (hp:=has1 (has_subW (e:=TRt) (sz:=3) memA hlen (by omega) (by omega) hdr) (has1 (has_ofr hrl memA) has0));rintro _ _ ⟨vn,vd,rfl,hvn,hvd,rfl⟩))|refine slw1 (sz:=3) (lo:=1) (N:=k + 1) ?_ (Nat.le_add_left 1 k) (hm:=has_oww memA)|refine srz ?_|(refine wo ?_;first|refine oa ?_)|refine xc ?_|refine nl ?_|refine rt ?_
 exact rca (cs:=[.bool (decide (p.num < 0)),vn,vd]) (vs:=[.bool (decide (p.num < 0)),vn,vd]) (T:=TRt) ⟨vn,vd,rfl,hvn,hvd,rfl⟩
theorem RFail_err (tv:Value) (t:List Int) (k n:Int) (h:ripE t k n ≠ 0):Tr Tryz.prog 21 [tv,I k,I n] [vw tv (Is t)] [] (FW (rqn,ripE t k n)):=by
 have hS:=RStuck_err tv t k n h
 refine Tr.mono (R:=fun u D=>u = tup2 rv0 (I (ripE t k n))∧D = [own T64 nS (Us []),own T64 nS (Us [])]) ?_ fun u D h=>FW.of0 h
 generalize ripE t k n = e at *
 refine Tr.enter env _ Tryz.func21 (by kernel_rfl) rfl Tryz.ntmps21 rfl (by repeat (first | exact has00 | refine has01 ?_)) fun w0=>?_
 repeat' first|(refine gca ?_;first|(refine ca hS ?_;rintro _ _ ⟨rfl,rfl⟩))|refine al fun c=>?_|refine bdz ?_|refine srz ?_|(refine wo ?_;first|(refine ao ?_;first|refine oa ?_)|refine oa ?_)|(refine gc ?_;first|(refine cn (fun hB=>?_) (fun hB=>?_) <;> try (exfalso;omega)))|refine sq ?_|refine rg ?_|refine xc ?_|refine nl ?_|refine rt ?_
 refine TX.im (own_nil T64 _) (TX.im (own_nil T64 _) ?_)
 exact rca (cs:=[.bool false,nS,nS]) (vs:=[.bool false,nS,nS]) (T:=TRt) ⟨rfl,rfl⟩
theorem RFail25_tr (tv:Value) (t:List Int) (k n:Int) (hk:k ≤ 40∨1024 < k) (hl:t.length ≤ 12) (hn:n ≤ 12∨4096 < n):Tr Tryz.prog 21 [tv,I k,I n] [vw tv (Is t)] [] (FW (failV t k n)):=by
 unfold failV
 by_cases h:ripE t k n = 0
 ·rw [if_pos h]
  obtain ⟨h1,h2,hz⟩:=ripE_zero h
  obtain ⟨kn,rfl⟩ : ∃ kn:Nat,k = kn:=⟨k.toNat,by omega⟩
  obtain ⟨nn,rfl⟩ : ∃ nn:Nat,n = nn:=⟨n.toNat,by omega⟩
  rw [Int.toNat_natCast,Int.toNat_natCast]
  exact RFail_ok tv t kn nn hz (by omega) hl (by omega)
 ·rw [if_neg h]
  exact RFail_err tv t k n h
theorem RStates_err (tv:Value) (t:List Int) (k n u:Int) (h:ripE t k n ≠ 0):Tr Tryz.prog 26 [tv,I k,I n,I u] [vw tv (Is t)] [] fun w D=>w = tup2 nS (I (ripE t k n))∧D = []:=by
 have hR:=Rref25_tr tv t k n
 generalize ripE t k n = e at *
 refine Tr.enter env _ Tryz.func26 (by kernel_rfl) rfl Tryz.ntmps26 rfl (by repeat (first | exact has00 | refine has01 ?_)) fun w0=>?_
 repeat' first|(refine gca ?_;first|(refine ca hR ?_;rintro _ _ ⟨rfl,rfl⟩))|(refine wo ?_;first|(refine ao ?_;first|refine oa ?_)|refine oa ?_)|(refine gc ?_;first|(refine cn (fun hB=>?_) (fun hB=>?_) <;> try (exfalso;omega)))|refine sq ?_|refine rg ?_|refine xc ?_|refine nl ?_|refine rt ?_
 exact r2 ⟨rfl,rfl⟩
theorem RStates_none (tv:Value) (t:List Int) (k n u:Int) (h:ripE t k n = 0) (hu:u < 0∨k < u):Tr Tryz.prog 26 [tv,I k,I n,I u] [vw tv (Is t)] [] fun w D=>w = tup2 nS (I 3)∧D = []:=by
 have hR:=Rref25_tr tv t k n
 rw [h] at hR
 by_cases h0:u < 0
 ·refine Tr.enter env _ Tryz.func26 (by kernel_rfl) rfl Tryz.ntmps26 rfl (by repeat (first | exact has00 | refine has01 ?_)) fun w0=>?_
  repeat' first|(refine gca ?_;first|(refine ca hR ?_;rintro _ _ ⟨rfl,rfl⟩))|(refine wo ?_;first|(refine ao ?_;first|refine oa ?_)|refine oa ?_|refine gn ?_|(refine gsi (fun hB=>?_) (fun hB=>?_) <;> try (exfalso;omega)))|(refine gc ?_;first|refine ct ?_|refine cf ?_)|refine sq ?_|refine rg ?_|refine xc ?_|refine nl ?_|refine sk ?_|refine rt ?_
  exact r2 ⟨rfl,rfl⟩
 ·have h1:k < u:=hu.resolve_left h0
  refine Tr.enter env _ Tryz.func26 (by kernel_rfl) rfl Tryz.ntmps26 rfl (by repeat (first | exact has00 | refine has01 ?_)) fun w0=>?_
  repeat' first|(refine gca ?_;first|(refine ca hR ?_;rintro _ _ ⟨rfl,rfl⟩))|(refine wo ?_;first|(refine ao ?_;first|refine oa ?_)|refine oa ?_|refine gy ?_|(refine gsi (fun hB=>?_) (fun hB=>?_) <;> try (exfalso;omega)))|(refine gc ?_;first|refine cf ?_|(refine ci (fun hB=>?_) (fun hB=>?_) <;> try (exfalso;omega)))|refine sq ?_|refine rg ?_|refine xc ?_|refine nl ?_|refine sk ?_|refine rt ?_
  exact r2 ⟨rfl,rfl⟩
set_option maxHeartbeats 1000000 in
theorem RStates_ok (tv:Value) (t:List Int) (k n u:Nat) (hz:solE t k = 0) (hk:k ≤ 40) (hl:t.length ≤ 12) (hn:n ≤ 12) (hu:u ≤ k):Tr Tryz.prog 26 [tv,I k,I n,I u] [vw tv (Is t)] []
  fun w D=>∃ v hs,w = tup2 v (I 0)∧v.oneCell' = true∧hs.length = (sIx (lvT t k n (k - u)) ((n + 1) * (n + 1))).length∧D = ssD n (lvT t k n (k - u)) v (sIx (lvT t k n (k - u)) ((n + 1) * (n + 1))) hs:=by
 have hk1:=(solE_zero hz).1
 have hR:=Rref25_tr tv t k n
 rw [show ripE t k n = 0 by unfold ripE;rw [if_neg (by omega)];exact hz] at hR
 have hLv:=Rlevels_tr tv t k n hz hk hl hn
 have hNN:(n + 1) * (n + 1) ≤ 169:=Nat.mul_le_mul (show n + 1 ≤ 13 by omega) (show n + 1 ≤ 13 by omega)
 clear hz
 obtain ⟨j,hj⟩ : ∃ j,j = k - u:=⟨_,rfl⟩
 have hjk:j < k + 1:=by omega
 have hkj:(k:Int) - u = (j:Int):=by omega
 rw [← hj]
 refine Tr.enter env _ Tryz.func26 (by kernel_rfl) rfl Tryz.ntmps26 rfl (by repeat (first | exact has00 | refine has01 ?_)) fun w0=>?_
 repeat' first|(refine gca ?_;first|(refine ca hR ?_;rintro _ _ ⟨rfl,rfl⟩)|(refine ca hLv ?_;rintro lv _ ⟨Ls,hlv,hLl,hLK,rfl⟩))|refine aw (m:=(j:Int)) ?_ (h:=by rw [← hkj];rfl)|(refine wo ?_;first|(refine ao ?_;first|refine oa ?_)|refine oa ?_|refine gy ?_)|(refine gc ?_;first|refine cf ?_|(refine ci (fun hB=>?_) (fun hB=>?_) <;> try (exfalso;omega)))|refine sq ?_|refine rg ?_|refine xc ?_|refine nl ?_|refine sk ?_
 obtain ⟨r,hr⟩ : ∃ r,Ls[j]? = some r:=⟨Ls[j]'(by omega),List.getElem?_eq_getElem _⟩
 have hrK:=hLK j r hr
 have hrow:=lcs_row hr
 have hWl:=hrK.wl
 have hW0:=hrK.w0
 have hMR:=hrK.eq
 have hgle:=hrK.le
 have hxv:=hrK.v1
 have hxd:=hrK.d1
 clear hLK hrK
 obtain ⟨xv,xd,rG,rW⟩:=r
 dsimp only at hrow hWl hW0 hMR hgle hxv hxd
 generalize lvT t k n j = x at *
 repeat' first|refine ixws (i:=(j:Int)) (N:=k + 1) (xs:=lcs Ls) ?_ (hm:=has_oww memA)|refine ldaw (N:=k + 1) (xs:=lcs Ls) (m:=2 * j) hrow ?_ (hm:=has_oww memA)|refine al fun c11=>?_|refine srz ?_ (hj:=Nat.le_of_ble_eq_true rfl)|(refine wo ?_;first|refine oa ?_)|refine sq ?_|refine rg ?_|refine xc ?_|refine nl ?_|refine bk ?_
 refine TC.im (oww_nil TSt 5 _) ?_
 refine TC.im (owl_nil (e:=T64) (g:=wU) _) ?_
 refine TC.loop (ι:=SwG) (fun g=>[(13,I g.c),(12,g.v)]) (fun g=>ssD n x g.v g.is g.hs) (fun g=>g.c ≤ n + 1∧g.v.oneCell' = true∧g.is = sIx x (g.c * (n + 1) + 0)∧g.hs.length = g.is.length) (fun g=>n + 1 - g.c) ⟨0,nS,[],[]⟩ [0,1,2,3,11] ⟨Nat.zero_le _,rfl,by dsimp only;rw [Nat.zero_mul,sIx_zero],rfl⟩ ?_
 rintro ⟨c,v,is,hs⟩ ⟨hc,hv,his,hhs⟩
 dsimp only at hc hv his hhs ⊢
 by_cases hct:c < n + 1
 rotate_left
 ·obtain rfl:c = n + 1:=by omega
  rw [← show (n + 1) * (n + 1) + 0 = (n + 1) * (n + 1) from rfl,← his]
  repeat' first|(refine wo ?_;first|(refine ao ?_;first|refine oa ?_)|refine oa ?_)|(refine gc ?_;first|(refine ci (fun hB=>?_) (fun hB=>?_) <;> try (exfalso;omega)))|refine sq ?_|refine rg ?_|refine xc ?_|refine nl ?_|refine xe ?_|refine rt ?_
  exact r2 ⟨v,hs,rfl,hv,hhs,rfl⟩
 repeat' first|(refine wo ?_;first|(refine ao ?_;first|refine oa ?_)|refine oa ?_)|(refine gc ?_;first|(refine ci (fun hB=>?_) (fun hB=>?_) <;> try (exfalso;omega)))|refine sq ?_|refine rg ?_|refine xc ?_|refine nl ?_|refine sk ?_|refine bk ?_
 refine TC.loop (ι:=SwG) (fun g=>[(14,I g.c),(12,g.v)]) (fun g=>ssD n x g.v g.is g.hs) (fun g=>g.c ≤ n + 1∧g.v.oneCell' = true∧g.is = sIx x (c * (n + 1) + g.c)∧g.hs.length = g.is.length) (fun g=>n + 1 - g.c) ⟨0,v,is,hs⟩ [0,1,2,3,11,13] ⟨Nat.zero_le _,hv,his,hhs⟩ ?_
 clear hv his hhs
 rintro ⟨q,v,is,hs⟩ ⟨hq,hv,his,hhs⟩
 dsimp only at hq hv his hhs ⊢
 by_cases hqt:q < n + 1
 rotate_left
 ·obtain rfl:q = n + 1:=by omega
  have his2:is = sIx x ((c + 1) * (n + 1) + 0):=by rw [his,Nat.succ_mul];rfl
  clear his
  repeat' first|(refine wo ?_;first|(refine ao ?_;first|refine aw ?_|refine oa ?_)|refine oa ?_)|(refine gc ?_;first|(refine ci (fun hB=>?_) (fun hB=>?_) <;> try (exfalso;omega)))|refine sq ?_|refine rg ?_|refine xc ?_|refine nl ?_|refine xe ?_|refine xb ?_
  exact lp ⟨c + 1,v,is,hs⟩ ⟨hct,hv,his2,hhs⟩
 have hz0:=mr_zero hW0 hMR (c:=c) (r:=q) (by omega) (by omega)
 have hval:=rat_over hW0 (hMR.eq c q (by omega) (by omega))
 have hgl:=hgle c q (by omega) (by omega)
 have hil:is.length ≤ 169:=by
  rw [his]
  have h1:=sIx_len x (c * (n + 1) + q)
  have h2:=pl_lt (n:=n) (i:=c) (j:=q) (by omega) (by omega)
  omega
 have hOv:=Rover_tr ((rG.c.getD c []).getD q nS) xd (rG.get c q) rW (Nat.le_trans (dg_mono hgl) (by omega)) (by omega) hW0
 rw [hval] at hOv
 unfold FQ at hOv
 by_cases hx:rG.get c q = 0
 ·have hln:=Us_none hx
  have h1':is = sIx x (c * (n + 1) + (q + 1)):=by rw [← Nat.add_assoc,sIx_out (hz0.2 hx)];exact his
  clear his hOv hval hz0 hx hgl hgle hMR
  repeat' first|refine ixn (i:=c) (xs:=rG.h) ?_ (hh:=vm_h (lv_x memA hr)) (hb:=by rw [rG.hl];omega)|refine le (xs:=rG.h) ?_ (hh:=vm_h (lv_x memA hr)) (hj:=gm_h hct)|refine ixn (i:=q) (xs:=rG.c.getD c []) ?_ (hh:=vm_r (lv_x memA hr) hct) (hb:=by rw [rG.cc c hct];omega)|refine le (xs:=rG.c.getD c []) ?_ (hh:=vm_r (lv_x memA hr) hct) (hj:=gm_c hct hqt)|(refine ln (xs:=Us (dg (rG.get c q))) ?_ (hh:=vm_c (lv_x memA hr) hct hqt);rw [hln])|(refine wo ?_;first|(refine ao ?_;first|refine aw ?_|refine oa ?_)|refine oa ?_|refine ld ?_)|(refine gc ?_;first|refine cf ?_|(refine ci (fun hB=>?_) (fun hB=>?_) <;> try (exfalso;omega)))|refine sq ?_|refine rg ?_|refine xc ?_|refine nl ?_|refine sk ?_|refine bk ?_|refine xb ?_
  exact lp ⟨q + 1,v,is,hs⟩ ⟨hqt,hv,h1',hhs⟩
 have hln:=Us_pos hx
 obtain ⟨ml,hml⟩ : ∃ ml:Nat,(Us (dg (rG.get c q))).length = ml + 1:=⟨(Us (dg (rG.get c q))).length - 1,by omega⟩
 have h1':is ++ [c * (n + 1) + q] = sIx x (c * (n + 1) + (q + 1)):=by rw [← Nat.add_assoc,sIx_in (fun e=>hx (hz0.1 e)),his]
 have hsc:=fun h=>scs_app (n:=n) (x:=x) hhs (c * (n + 1) + q) h
 rw [ps_div (show q ≤ n by omega),ps_mod (show q ≤ n by omega)] at hsc
 have hmp:(is ++ [c * (n + 1) + q]).map (fun i=>x.getD i 0) = is.map (fun i=>x.getD i 0) ++ [x.getD (c * (n + 1) + q) 0]:=by simp
 have hll:(is ++ [c * (n + 1) + q]).length = is.length + 1:=by simp
 have hor:=fun (v1 v2:Value) (A F:List Ch) hf=>ofr_snoc (hs:=hs) (qs:=is.map fun i=>x.getD i 0) (by rw [List.length_map];exact hhs) (x.getD (c * (n + 1) + q) 0) v1 v2 (A:=A) (F:=F) hf
 rw [← hmp] at hor
 clear his hval hz0 hx hgl hgle hMR hmp hln
 generalize x.getD (c * (n + 1) + q) 0 = y at *
 generalize is ++ [c * (n + 1) + q] = is2 at *
 repeat' first|refine ixn (i:=c) (xs:=rG.h) ?_ (hh:=vm_h (lv_x memA hr)) (hb:=by rw [rG.hl];omega)|refine le (xs:=rG.h) ?_ (hh:=vm_h (lv_x memA hr)) (hj:=gm_h hct)|refine ixn (i:=q) (xs:=rG.c.getD c []) ?_ (hh:=vm_r (lv_x memA hr) hct) (hb:=by rw [rG.cc c hct];omega)|refine le (xs:=rG.c.getD c []) ?_ (hh:=vm_r (lv_x memA hr) hct) (hj:=gm_c hct hqt)|(refine ln (xs:=Us (dg (rG.get c q))) ?_ (hh:=vm_c (lv_x memA hr) hct hqt);rw [hml])|(refine wo ?_;first|(refine ao ?_;first|refine oa ?_)|refine oa ?_|refine ld ?_)|(refine gc ?_;first|(refine ci (fun hB=>?_) (fun hB=>?_) <;> try (exfalso;omega)))|refine sq ?_|refine rg ?_|refine xc ?_|refine nl ?_|refine sk ?_|refine bk ?_
 refine rs (fun w=>w.heap[c11]? = some (.cells [xv,xd].toArray TLv (0,0))∧Sl w xv rG.h∧Sl w (rG.h.getD c nS) (rG.c.getD c [])) ?_ (fun w hw=>⟨pt_at memA hw,vm_sh (lv_x memA hr) hw,vm_sr (lv_x memA hr) hct hw⟩)
 refine tka 0 ?_
 refine tka 1 ?_
 refine tka 2 ?_
 refine tka 3 ?_
 refine tkl 4 (cs:=[xv,xd]) (fun w h=>h.1) ?_
 refine tka 5 ?_
 refine tk 6 (v:=.pointer (some (addrAt xv c))) (fun w h=>R_idx (E:=env) (i:=(c:Int)) rfl rfl rfl rfl h.2.1 ⟨by omega,by rw [rG.hl];omega⟩) ?_
 refine tk 7 (v:=rG.h.getD c nS) (fun w h=>R_load (E:=env) rfl rfl rfl (h.2.1.cell (gm_h hct))) ?_
 refine tka 8 ?_
 refine tk 9 (v:=.pointer (some (addrAt (rG.h.getD c nS) q))) (fun w h=>R_idx (E:=env) (i:=(q:Int)) rfl rfl rfl rfl h.2.2 ⟨by omega,by rw [rG.cc c hct];omega⟩) ?_
 refine tk 10 (v:=(rG.c.getD c []).getD q nS) (fun w h=>R_load (E:=env) rfl rfl rfl (h.2.2.cell (gm_c hct hqt))) ?_
 refine tka 11 ?_
 refine tkl 12 (cs:=[xv,xd]) (fun w h=>h.1) ?_
 refine t1 13 ?_
 refine ca hOv ?_ (hp:=has1 (vm_c (lv_x memA hr) hct hqt) (has1 (lv_d memA hr) has0))
 rintro _ _ ⟨vn,vd,rfl,hvn,hvd,rfl⟩
 refine nl ?_
 refine te (fun w hw=>⟨pt_at memA hw,vm_sh (lv_x memA hr) hw,vm_sr (lv_x memA hr) hct hw⟩) ?_
 refine tka 14 ?_
 refine t1 15 ?_
 refine slws (sz:=5) (xs:=srow c q y (vn,vd)) fun g2=>?_
 refine nl ?_
 refine te (fun w hw=>⟨pt_at memA hw,vm_sh (lv_x memA hr) hw,vm_sr (lv_x memA hr) hct hw⟩) ?_
 refine t1 16 ?_
 refine apw (e:=TSt) (sz:=5) (N:=is.length) (M:=1) (xs:=scs n x is hs) (ys:=srow c q y (vn,vd)) (by decide) rfl (one_cons rfl (one_cons rfl (one_cons rfl (one_cons hvn (one_cons hvd one_nil))))) fun v' hv'=>?_
 refine nl ?_
 refine te (fun w hw=>⟨pt_at memA hw,vm_sh (lv_x memA hr) hw,vm_sr (lv_x memA hr) hct hw⟩) ?_
 refine tka 17 ?_
 refine t0 ?_
 repeat' first|(refine wo ?_;first|(refine ao ?_;first|refine aw ?_)|refine oa ?_)|refine rg ?_|refine xc ?_|refine nl ?_|refine xb ?_
 refine TX.im (hor vn vd _ _ fitA) ?_
 rw [← hsc,← hll]
 exact lp ⟨q + 1,v',is2,hs ++ [(vn,vd)]⟩ ⟨hqt,hv',h1',by rw [hll,List.length_append,hhs];rfl⟩
end Go.Art
namespace Go.Art
open Go Go.Proofs Go.RowKit
abbrev wts (L:List (List Int × Nat)):List (List Int):=L.map fun s=>Zs (dg s.2)
structure MsG where
 i:Nat
 o:Value
attribute [local irreducible] Fit pt own ro vw mpc lpt vels rels mow lrc dfr
attribute [local irreducible] lmp lme mit velg relg bnd owl natG
end Go.Art
namespace Go.Art
open Go Go.Proofs Go.RowKit
structure CoG where
 i:Nat
 ov:Value
 hs:List Value
 ls:List (List Int)
structure CiG where
 q:Nat
 hs:List Value
 ls:List (List Int)
structure CwG where
 i:Nat
 v:Value
attribute [local irreducible] Fit pt own ro vw mpc lpt vels rels mow lrc dfr
attribute [local irreducible] lmp lme mit velg relg bnd owl natG setP szL solE risR
end Go.Art
namespace Go.Art
open Go
structure RaI (t:List Int) (all:Int) (u:AlS) (dn:List Bool):Prop where
 ld:dn.length = t.length
 dr:∀ c:Nat,c < t.length→dn.getD c false = true→u.rest.getD c 0 < all
 B:∀ c:Nat,c < t.length→((c:Int) ∈ u.B ↔ dn.getD c false = false∧u.rest.getD c 0 < all)
 A:∀ c:Nat,c < t.length→((c:Int) ∈ u.A ↔ all < u.rest.getD c 0)
 sB:u.B.Pairwise (· ≤ ·)
 sA:u.A.Pairwise (· ≤ ·)
open Go Go.Proofs Go.RowKit
section
variable {P:Program} {E:Env P} {n:Sh} {X:Cx} {s:List K} {fr:Fr} {A A':List Ch} {ops:Array Oper} {rest:List Oper} {d:Nat} {ty t el:TypeId} {pos:String} {after:Array Edge} {v z:Value} {x y:Operand} {by_:Nat}
end
attribute [local irreducible] Fit pt own ro vw mpc lpt vels rels mow lrc dfr
attribute [local irreducible] lmp lme mit velg relg
structure RmG where
 u:AlS
 dn:List Bool
 i:Nat
end Go.Art
namespace Go.Art
open Go Go.Proofs Go.RowKit
structure RvG where
 i:Nat
 v1:Value
 v2:Value
 ss:List Value
 gs:List Value
attribute [local irreducible] Fit pt own ro vw mpc lpt vels rels mow lrc dfr
attribute [local irreducible] lmp lme mit velg relg bnd owl natG setP szL solE risR
end Go.Art
namespace Go.Art
open Go Go.Proofs Go.RowKit
attribute [local irreducible] Fit pt own ro vw mpc lpt vels rels mow lrc dfr
attribute [local irreducible] lmp lme mit velg relg bnd owl dfrl
end Go.Art
namespace Go.Art
open Go Go.Proofs Go.RowKit
theorem R_nxor {P:Program} {n:Sh} {fr:Fr} {w:World} {t t' ty:TypeId} {x y:Operand} {a b:Nat} (hx:ev fr x = some (Un a)) (hy:ev fr y = some (Un b)) (ha:a < 18446744073709551616) (hb:b < 18446744073709551616):OpV P n fr (.binOp .xor t x y t') ty w (Un (a ^^^ b)) w:=R_bin hx hy (by
 show Result.ok (Value.int .u64 (IntKind.u64.wrap ((BitVec.ofInt 64 (a:Int) ^^^ BitVec.ofInt 64 (b:Int)).toNat:Int))) w = _
 have hx:a ^^^ b < 2 ^ 64:=Nat.xor_lt_two_pow (by omega) (by omega)
 rw [BitVec.toNat_xor,bv64 ha,bv64 hb,wrapN _ (a ^^^ b) (by omega)])
attribute [local irreducible] Fit pt own ro vw mpc lpt vels rels mow lrc dfr
attribute [local irreducible] lmp lme mit velg relg
theorem OverNat_tr (v:Value) (l:List Nat) (hd:Dg l):Tr Tryz.prog 67 [v] [] [own T64 v (Us l)] fun _ D=>D = []:=by
 refine Tr.enter env _ Tryz.func67 (by kernel_rfl) rfl Tryz.ntmps67 rfl (by repeat (first | exact has00 | refine has01 ?_)) fun w0=>?_
 refine TC.lenu (v:=v) (l:=l) fun hll=>?_
 repeat' first|(refine wo ?_;first|refine oa ?_)|refine sq ?_|refine rg ?_|refine xc ?_|refine nl ?_|refine bk ?_
 refine TC.loop (ι:=Nat × List Nat) (fun g=>[(2,I g.1)]) (fun g=>[own T64 v (Us g.2)]) (fun g=>g.1 ≤ l.length∧g.2.length = l.length∧Dg g.2) (fun g=>l.length - g.1) (0,l) [0] ⟨Nat.zero_le _,rfl,hd⟩ ?_
 rintro ⟨i,m⟩ ⟨hi,hm,hdm⟩
 dsimp only at hi hm hdm ⊢
 by_cases hlt:i < l.length
 ·have hx:=hdm.getD i
  have hr:m.getD i 0 ^^^ 2779096485 < 18446744073709551616:=by
   have:=Nat.xor_lt_two_pow (n:=64) (show m.getD i 0 < 2 ^ 64 from hx) (show 2779096485 < 2 ^ 64 by decide)
   exact Nat.lt_of_lt_of_eq this rfl
  repeat' first|(refine nao ?_;refine TO.val (v:=Un (m.getD i 0 ^^^ 2779096485)) (fun _ _=>R_nxor (a:=m.getD i 0) (b:=2779096485) rfl rfl hx (by decide)) ?_)|(refine wo ?_;first|(refine ao ?_;first|refine aw ?_|refine oa ?_)|refine lu ?_|refine sou ?_|refine oa ?_|refine lnm ?_|refine ixmn ?_)|(refine gc ?_;first|(refine ci (fun hB=>?_) (fun hB=>?_) <;> try (exfalso;omega)))|refine sq ?_|refine rg ?_|refine xc ?_|refine nl ?_|refine sk ?_|refine bk ?_|refine xb ?_
  exact lp (i + 1,m.set i (m.getD i 0 ^^^ 2779096485)) ⟨hlt,by dsimp only;rw [List.length_set];exact hm,hdm.set hr⟩
 ·obtain rfl:i = l.length:=by omega
  repeat' first|(refine wo ?_;first|(refine ao ?_;first|refine oa ?_)|refine oa ?_|refine lnm ?_)|(refine gc ?_;first|(refine ci (fun hB=>?_) (fun hB=>?_) <;> try (exfalso;omega)))|refine sq ?_|refine rg ?_|refine xc ?_|refine nl ?_|refine xe ?_
  exact e0 rfl
theorem OverRatio_tr (t:Fr3) (n1 d1:Value) (h1:Dg t.2.1) (h2:Dg t.2.2):Tr Tryz.prog 23 [.agg #[.bool t.1,n1,d1]] [] [own T64 n1 (Us t.2.1),own T64 d1 (Us t.2.2)] fun _ D=>D = []:=by
 refine Tr.enter env _ Tryz.func23 (by kernel_rfl) rfl Tryz.ntmps23 rfl (by repeat (first | exact has00 | refine has01 ?_)) fun w0=>?_
 repeat' first|(refine gca ?_;first|(refine ca (OverNat_tr n1 t.2.1 h1) ?_;rintro _ _ rfl)|(refine ca (OverNat_tr d1 t.2.2 h2) ?_;rintro _ _ rfl))|refine bx fun q=>?_|(refine wo ?_;first|refine oa ?_|refine ld ?_)|refine sq ?_|refine rg ?_|refine xc ?_|refine nl ?_
 exact e0 rfl
theorem SameRatioT_tr (t:Fr3) (n1 d1 n2 d2:Value):Tr Tryz.prog 22 [.agg #[.bool t.1,n1,d1],.agg #[.bool t.1,n2,d2]] [vw n1 (Us t.2.1),vw d1 (Us t.2.2),vw n2 (Us t.2.1),vw d2 (Us t.2.2)] []
  fun v D=>v = .bool true∧D = []:=(SameRatio_tr t t n1 d1 n2 d2).mono fun v D h=>by rw [decide_eq_true rfl] at h;exact h
end Go.Art
namespace Go.Art
open Go Go.Proofs Go.RowKit
attribute [local irreducible] Fit pt own ro vw mpc lpt vels rels mow lrc dfr
attribute [local irreducible] lmp lme mit velg relg bnd owl dfrl massW setsW massD
end Go.Art
namespace Go.Art
open Go Go.Proofs Go.RowKit
def setA (k a:Nat):List Int:=(belowI k).filter fun s=>Nat.beq (a / 2 ^ s.toNat % 2) 1
def chkP (k:Nat):Bool:=(List.range (k + 1)).all fun d=>(risR d 0 k).isPerm (((List.range (2 ^ k)).filter fun a=>Nat.beq (popK k a) d).map (setA k))
def chkO (k:Nat):Bool:=(List.range (k + 1)).all fun d=>(endsL d k []).all fun js=>(ordF 0 (upto k) js).isPerm (setA k (msk (ordF 0 (upto k) js))) && Nat.beq (popK k (msk (ordF 0 (upto k) js))) d
open Go Go.Proofs Go.RowKit
def smlT (m:Int) (tbl:List Int) (k:Nat):List Int:=(tbl.take k).map fun x=>pick x m
attribute [local irreducible] Fit pt own ro vw mpc lpt vels rels mow lrc dfr
attribute [local irreducible] lmp lme mit velg relg bnd owl dfrl massW setsW massD smlT solE
end Go.Art
namespace Go.Art
open Go Go.Proofs Go.RowKit
structure MwG where
 i:Nat
attribute [local irreducible] Fit pt own ro vw mpc lpt vels rels mow lrc dfr
attribute [local irreducible] lmp lme mit velg relg bnd owl dfrl massW setsW massD smlT solE natG itemS oneS
end Go.Art
namespace Go.Art
open Go Go.Proofs Go.RowKit
theorem stL_one:stL [1,1] 2 2 = [mkRat ((5:Nat):Int) 8,mkRat ((1:Nat):Int) 8,mkRat ((1:Nat):Int) 4]:=by decide +kernel
theorem failV_one:failV [1,1] ((2:Nat):Int) ((2:Nat):Int) = (rqf (mkRat ((3:Nat):Int) 8),0):=by
 have h:failQ [1,1] 2 2 = mkRat ((3:Nat):Int) 8:=by decide +kernel
 unfold failV
 rw [if_pos (by decide),Int.toNat_natCast,h]
theorem solE_one:solE [1,1] ((2:Nat):Int) = 0:=by decide
attribute [local irreducible] Fit pt own ro vw mpc lpt vels rels mow lrc dfr
attribute [local irreducible] lmp lme mit velg relg bnd owl dfrl massW setsW massD smlT solE failV failQ stL
theorem is25_tr (t:Fr3) (e:Int) (n1 d1:Value) (x y:Nat) (hx:x < 9223372036854775808) (hy:y < 9223372036854775808) (hy0:y ≠ 0):Tr Tryz.prog 28 [.agg #[.bool t.1,n1,d1],I e,I x,I y] [vw n1 (Us t.2.1),vw d1 (Us t.2.2)] []
  fun v D=>v = .bool (decide (e = 0∧t = rqf (mkRat x y)))∧D = []:=by
 have hP:=FPair_tr x y hx hy hy0
 unfold FQ2 at hP
 have hl:0 < (dg (mkRat (x:Int) y).den).length:=by have:=dg_len_pos (mkRat (x:Int) y).den_nz;omega
 generalize mkRat (x:Int) y = q at *
 refine Tr.enter env _ Tryz.func28 (by kernel_rfl) rfl Tryz.ntmps28 rfl (by repeat (first | exact has00 | refine has01 ?_)) fun w0=>?_
 repeat' first|(refine gca ?_;first|(refine ca hP ?_;rintro _ _ ⟨vn,vd,rfl,hvn,hvd,rfl⟩)|(refine ca (SameRatio_tr t (rqf q) n1 d1 vn vd) ?_;rintro _ _ ⟨rfl,rfl⟩))|refine bx fun b1=>?_|refine al fun b2=>?_|refine lda ?_|refine srz ?_|(refine wo ?_;first|(refine ao ?_;first|refine oa ?_)|refine oa ?_|refine ld ?_|refine lnm ?_|refine gy ?_|refine gn ?_|(refine gsi (fun hB=>?_) (fun hB=>?_) <;> try (exfalso;omega)))|refine sq ?_|refine rg ?_|refine xc ?_|refine nl ?_|refine rt ?_
 ·refine r1 ⟨?_,rfl⟩
  congr 1;exact decide_eq_decide.2 ⟨fun h=>⟨by assumption,h⟩,fun h=>h.2⟩
 ·refine r1 ⟨?_,rfl⟩
  rw [decide_eq_false fun h=>absurd h.1 (by assumption)]
theorem fails25_tr (tv:Value) (htv:tv.oneCell' = true) (t:List Int) (k n:Int) (x y:Nat) (hx:x < 9223372036854775808) (hy:y < 9223372036854775808) (hy0:y ≠ 0) (hl:t.length ≤ 12) (hk:k ≤ 40∨1024 < k) (hn:n ≤ 12∨4096 < n) (h:failV t k n = (rqf (mkRat x y),0)) :
  Tr Tryz.prog 29 [tv,I k,I n,I x,I y] [vw tv (Is t)] [] fun v D=>v = .bool true∧D = []:=by
 have hF:=Fail_tr tv htv t k n hk hl hn
 rw [h] at hF
 have hI:=fun a b=>is25_tr (rqf (mkRat x y)) 0 a b x y hx hy hy0
 simp only [and_self,decide_true] at hI
 unfold FW at hF
 dsimp only at hF
 generalize mkRat (x:Int) y = q at *
 refine Tr.enter env _ Tryz.func29 (by kernel_rfl) rfl Tryz.ntmps29 rfl (by repeat (first | exact has00 | refine has01 ?_)) fun w0=>?_
 repeat' first|(refine gca ?_;first|(refine ca hF ?_;rintro _ _ ⟨vn,vd,rfl,hvn,hvd,rfl⟩)|(refine ca (hI vn vd) ?_;rintro _ _ ⟨rfl,rfl⟩))|refine al fun c=>?_|refine srz ?_|refine lda ?_|(refine wo ?_;first|refine oa ?_)|refine sq ?_|refine rg ?_|refine xc ?_|refine nl ?_|refine rt ?_
 exact r1 ⟨rfl,rfl⟩
theorem len3 {l:List HV} (h:l.length = 3):∃ a b c,l = [a,b,c]:=by
 match l,h with
 | [a,b,c],_=>exact ⟨a,b,c,rfl⟩
theorem awake25_tr:Tr Tryz.prog 16 [] [] [] fun v D=>v = .bool true∧D = []:=by
 have hS:=fun s hs=>Stuck_tr s hs [1,1] 2 2 solE_one (by decide) (by decide) (by decide)
 rw [stL_one] at hS
 have hF:=fun s hs=>fails25_tr s hs [1,1] 2 2 3 8 (by decide) (by decide) (by decide) (by decide) (by decide) (by decide) failV_one
 have hI0:=fun a b=>is25_tr (rqf (mkRat ((5:Nat):Int) 8)) 0 a b 5 8 (by decide) (by decide) (by decide)
 have hI1:=fun a b=>is25_tr (rqf (mkRat ((1:Nat):Int) 8)) 0 a b 1 8 (by decide) (by decide) (by decide)
 have hI2:=fun a b=>is25_tr (rqf (mkRat ((1:Nat):Int) 4)) 0 a b 1 4 (by decide) (by decide) (by decide)
 simp only [and_self,decide_true] at hI0 hI1 hI2
 generalize mkRat ((5:Nat):Int) 8 = q0 at *
 generalize mkRat ((1:Nat):Int) 8 = q1 at *
 generalize mkRat ((1:Nat):Int) 4 = q2 at *
 refine Tr.enter env _ Tryz.func16 (by kernel_rfl) rfl Tryz.ntmps16 rfl (by repeat (first | exact has00 | refine has01 ?_)) fun w0=>?_
 repeat' first|(refine gca ?_;first|(refine ca (hS v hv) ?_;rintro _ _ ⟨sv,hs,rfl,hsv,hhs,rfl⟩))|refine slz fun v hv=>?_|(refine wo ?_;first|refine oa ?_)|refine sq ?_|refine rg ?_|refine xc ?_|refine nl ?_
 obtain ⟨a0,a1,a2,rfl⟩:=len3 hhs
 have hh:=fun (F:List Ch) (h:ofr [a0,a1,a2] [q0,q1,q2] ∈ F) (i:Nat) (hi:i < 3)=>has_fr (has_ofr (hs:=[a0,a1,a2]) (qs:=[q0,q1,q2]) rfl h) rfl (i:=i) hi
 repeat' first|(refine gca ?_;first|(refine ca (hI0 a0.1 a0.2) ?_ (hp:=has1 (hh _ memA 0 (by decide)).1 (has1 (hh _ memA 0 (by decide)).2 has0));rintro _ _ ⟨rfl,rfl⟩)|(refine ca (hI1 a1.1 a1.2) ?_ (hp:=has1 (hh _ memA 1 (by decide)).1 (has1 (hh _ memA 1 (by decide)).2 has0));rintro _ _ ⟨rfl,rfl⟩)|(refine ca (hI2 a2.1 a2.2) ?_ (hp:=has1 (hh _ memA 2 (by decide)).1 (has1 (hh _ memA 2 (by decide)).2 has0));rintro _ _ ⟨rfl,rfl⟩)|(refine ca (hF v2 hv2) ?_;rintro _ _ ⟨rfl,rfl⟩))|refine lnw ?_ (hm:=has_oww memA)|refine ixws ?_ (hm:=has_oww memA)|refine ldaw (m:=0) (sz:=3) (vs:=rrow q0 a0) rfl ?_ (hm:=has_oww memA)|refine ldaw (m:=3) (sz:=3) (vs:=rrow q1 a1) rfl ?_ (hm:=has_oww memA)|refine ldaw (m:=6) (sz:=3) (vs:=rrow q2 a2) rfl ?_ (hm:=has_oww memA)|refine slz fun v2 hv2=>?_|(refine wo ?_;first|(refine ao ?_;first|refine oa ?_)|refine oa ?_|refine gy ?_)|refine xc ?_|refine nl ?_|refine rt ?_
 exact r1 ⟨rfl,rfl⟩
end Go.Art
namespace Go.Art
open Go Go.Proofs Go.RowKit
attribute [local irreducible] Fit pt own ro vw mpc lpt vels rels mow lrc dfr
attribute [local irreducible] lmp lme mit velg relg bnd owl dfrl massW setsW massD smlT solE failV failQ stL
end Go.Art
namespace Go.Art
open Go Go.Proofs Go.RowKit
structure WholeF (n:Nat) (x:List Rat) (is:List Nat):Prop where
 sum:sR (fun i=>x.getD i 0) is = 1
 pre:∀ i,FB (sR (fun i=>x.getD i 0) (is.take i)) 8589934592
 one:∀ i,i < is.length→FB (x.getD (is.getD i 0) 0) 8589934592
 at_:∀ i,i < is.length→is.getD i 0 / (n + 1) + is.getD i 0 % (n + 1) = n
theorem rsub3 {α:Type} {l r:List α} {m a:Nat} (h:(l.drop m).take a = r) (j b:Nat) (hj:j + b ≤ a):(l.drop (m + j)).take b = (r.drop j).take b:=by
 subst h
 rw [List.drop_take,List.take_take,Nat.min_eq_left (by omega),List.drop_drop]
theorem rcell3 {α:Type} {l r:List α} {m a:Nat} (h:(l.drop m).take a = r) {j:Nat} (hj:j < a):l[m + j]? = r[j]?:=by
 subst h
 rw [List.getElem?_take,if_pos hj,List.getElem?_drop]
theorem scs_row {n:Nat} {x:List Rat} {is:List Nat} {hs:List HV} (hl:hs.length = is.length) {i:Nat} (hi:i < is.length):((scs n x is hs).drop (5 * i)).take 5 = srow (is.getD i 0 / (n + 1)) (is.getD i 0 % (n + 1)) (x.getD (is.getD i 0) 0) (hs.getD i nS2):=by
 refine flat_row (sz:=5) (fun r hr=>?_) ?_
 ·obtain ⟨j,hj,rfl⟩:=List.mem_iff_getElem.1 hr
  rw [List.getElem_zipWith];rfl
 ·rw [List.getElem?_zipWith,List.getElem?_eq_getElem hi,List.getElem?_eq_getElem (show i < hs.length by omega)]
  simp [List.getD_eq_getElem?_getD,hi,show i < hs.length by omega]
open Go Go.Proofs Go.RowKit
section
variable {P:Program} {E:Env P} {n:Sh} {X:Cx} {s:List K} {fr:Fr} {A A':List Ch} {ops:Array Oper} {rest:List Oper} {d m N sz by_:Nat} {ty t t' el:TypeId} {pos:String} {after:Array Edge} {v u z:Value} {x y:Operand} {xs vs:List Value} {dt:TypeDesc} {k1 k':IntKind} {w:World}
theorem qldw (hj:xs[m]? = some u) (k:TQ E n X s ops rest ((d,u) :: fr) A) (hx:ev fr x = some (.pointer (some (adr v m))):=by rfl) (hm:Has A (vwf v N xs):=by exact hasA) (ht:lk E.und t = some dt:=by rfl) (hg:aggB dt = false:=by rfl) (hd:Nat.blt d n.n = true:=by rfl) :
  TQ E n X s ops (⟨some d,.load t x,ty,pos,after,none⟩ :: rest) fr A:=TQ.val (fun w h=>R_load ht hg hx (SlW.cell (hm.P w h) hj)) k hd
end
structure WgG where
 i:Nat
 a:Value
 b:Value
attribute [local irreducible] Fit pt own ro vw mpc lpt vels rels mow lrc dfr
attribute [local irreducible] lmp lme mit velg relg bnd owl dfrl massW setsW massD smlT solE failV failQ stL natG itemS oneS
end Go.Art
namespace Go.Art
open Go Go.Proofs Go.RowKit
abbrev StkP (L:List Rat) (e:Int) (u:Value) (D:List Ch):Prop:=∃ v hs,u = tup2 v (I e)∧hs.length = L.length∧D = [oww TRt 3 v L.length (rcs L hs),ofr hs L]
def stkV (t:List Int) (k n:Int):List Rat × Int:=if ripE t k n = 0 then (stL t k.toNat n.toNat,0) else ([],ripE t k n)
theorem stkV_len {t:List Int} {k n:Int} (hk:k ≤ 40∨1024 < k):(stkV t k n).1.length ≤ 41:=by
 unfold stkV
 split
 ·rename_i h
  have:=(ripE_zero h).1
  rw [stL_len];omega
 ·exact Nat.zero_le _
theorem failV_dg (t:List Int) (k n:Int):Dg (failV t k n).1.2.1∧Dg (failV t k n).1.2.2:=by
 unfold failV
 split
 ·exact ⟨Dg_dg _,Dg_dg _⟩
 ·exact ⟨Dg.nil,Dg.nil⟩
theorem stk_none (e:Int):∀ v D,(v = tup2 nS (I e)∧D = ([]:List Ch))→∃ D',StkP [] e v D'∧Im D D'∧∀ c ∈ D',∀ b,¬ c.bd b:=by
 rintro v D ⟨rfl,rfl⟩
 exact ⟨_,⟨nS,[],rfl,rfl,rfl⟩,(owl_nil (e:=T64) (g:=wU) []).trans (oww_nil TRt 3 _),by repeat (first | exact nb0 | refine nb1 ?_)⟩
attribute [local irreducible] Fit pt own ro vw mpc lpt vels rels mow lrc dfr
attribute [local irreducible] lmp lme mit velg relg bnd owl dfrl massW setsW massD smlT solE failV failQ stL
theorem StuckV_tr (tv:Value) (htv:tv.oneCell' = true) (t:List Int) (k n:Int) (hk:k ≤ 40∨1024 < k) (hl:t.length ≤ 12) (hn:n ≤ 12∨4096 < n):Tr Tryz.prog 18 [tv,I k,I n] [vw tv (Is t)] [] (StkP (stkV t k n).1 (stkV t k n).2):=by
 unfold stkV
 by_cases h:ripE t k n = 0
 ·rw [if_pos h]
  obtain ⟨h1,h2,hz⟩:=ripE_zero h
  obtain ⟨kn,rfl⟩ : ∃ kn:Nat,k = kn:=⟨k.toNat,by omega⟩
  obtain ⟨nn,rfl⟩ : ∃ nn:Nat,n = nn:=⟨n.toNat,by omega⟩
  rw [Int.toNat_natCast,Int.toNat_natCast]
  refine (Stuck_tr tv htv t kn nn hz (by omega) hl (by omega)).mono fun u D h=>?_
  obtain ⟨v,hs,h1,h2,h3,h4⟩:=h
  exact ⟨v,hs,h1,by rw [stL_len];exact h3,by rw [stL_len];exact h4⟩
 ·rw [if_neg h]
  exact (Stuck_err tv t k n h).post (stk_none _)
theorem RStuckV_tr (tv:Value) (t:List Int) (k n:Int) (hk:k ≤ 40∨1024 < k) (hl:t.length ≤ 12) (hn:n ≤ 12∨4096 < n):Tr Tryz.prog 19 [tv,I k,I n] [vw tv (Is t)] [] (StkP (stkV t k n).1 (stkV t k n).2):=by
 unfold stkV
 by_cases h:ripE t k n = 0
 ·rw [if_pos h]
  obtain ⟨h1,h2,hz⟩:=ripE_zero h
  obtain ⟨kn,rfl⟩ : ∃ kn:Nat,k = kn:=⟨k.toNat,by omega⟩
  obtain ⟨nn,rfl⟩ : ∃ nn:Nat,n = nn:=⟨n.toNat,by omega⟩
  rw [Int.toNat_natCast,Int.toNat_natCast]
  refine (RStuck_tr tv t kn nn hz (by omega) hl (by omega)).mono fun u D h=>?_
  obtain ⟨v,hs,h1,h2,h3,h4⟩:=h
  exact ⟨v,hs,h1,by rw [stL_len];exact h3,by rw [stL_len];exact h4⟩
 ·rw [if_neg h]
  exact (RStuck_err tv t k n h).post (stk_none _)
theorem dear25_tr (tv:Value) (t:List Int) (k n:Int):Tr Tryz.prog 15 [tv,I k,I n] [vw tv (Is t)] [] fun v D=>(∃ b,v = .bool b∧(b = false→t.length ≤ 12∧(k ≤ 40∨1024 < k)∧(n ≤ 12∨4096 < n)))∧D = []:=by
 refine Tr.enter env _ Tryz.func15 (by kernel_rfl) rfl Tryz.ntmps15 rfl (by repeat (first | exact has00 | refine has01 ?_)) fun w0=>?_
 by_cases h1:(10:Int) < t.length
 ·repeat' first|(refine wo ?_;first|(refine ao ?_;first|refine oa ?_)|refine oa ?_|refine lnm ?_|refine gn ?_|refine gu ?_|(refine gsi (fun hB=>?_) (fun hB=>?_) <;> try (exfalso;omega)))|refine sq ?_|refine rg ?_|refine xc ?_|refine nl ?_|refine rt ?_
  all_goals exact r1 ⟨⟨true,rfl,by intro h;cases h⟩,rfl⟩
 by_cases h2:6 < k
 ·by_cases h3:k ≤ 1024
  ·repeat' first|(refine wo ?_;first|(refine ao ?_;first|refine oa ?_)|refine oa ?_|refine lnm ?_|refine gy ?_|refine gn ?_|refine gu ?_|(refine gsi (fun hB=>?_) (fun hB=>?_) <;> try (exfalso;omega)))|refine sq ?_|refine rg ?_|refine xc ?_|refine nl ?_|refine rt ?_
   all_goals exact r1 ⟨⟨true,rfl,by intro h;cases h⟩,rfl⟩
  ·by_cases h4:6 < n
   ·by_cases h5:n ≤ 4096
    ·repeat' first|(refine wo ?_;first|(refine ao ?_;first|refine oa ?_)|refine oa ?_|refine lnm ?_|refine gy ?_|(refine gsi (fun hB=>?_) (fun hB=>?_) <;> try (exfalso;omega)))|refine sq ?_|refine rg ?_|refine xc ?_|refine nl ?_|refine rt ?_
     all_goals (refine r1 ⟨⟨_,rfl,fun h=>?_⟩,rfl⟩;simp at h;omega)
    ·repeat' first|(refine wo ?_;first|(refine ao ?_;first|refine oa ?_)|refine oa ?_|refine lnm ?_|refine gy ?_|(refine gsi (fun hB=>?_) (fun hB=>?_) <;> try (exfalso;omega)))|refine sq ?_|refine rg ?_|refine xc ?_|refine nl ?_|refine rt ?_
     all_goals (refine r1 ⟨⟨_,rfl,fun h=>?_⟩,rfl⟩;omega)
   ·repeat' first|(refine wo ?_;first|(refine ao ?_;first|refine oa ?_)|refine oa ?_|refine lnm ?_|refine gy ?_|refine gn ?_|(refine gsi (fun hB=>?_) (fun hB=>?_) <;> try (exfalso;omega)))|refine sq ?_|refine rg ?_|refine xc ?_|refine nl ?_|refine rt ?_
    all_goals (refine r1 ⟨⟨_,rfl,fun h=>?_⟩,rfl⟩;omega)
 ·by_cases h4:6 < n
  ·by_cases h5:n ≤ 4096
   ·repeat' first|(refine wo ?_;first|(refine ao ?_;first|refine oa ?_)|refine oa ?_|refine lnm ?_|refine gy ?_|refine gn ?_|(refine gsi (fun hB=>?_) (fun hB=>?_) <;> try (exfalso;omega)))|refine sq ?_|refine rg ?_|refine xc ?_|refine nl ?_|refine rt ?_
    all_goals (refine r1 ⟨⟨_,rfl,fun h=>?_⟩,rfl⟩;simp at h;omega)
   ·repeat' first|(refine wo ?_;first|(refine ao ?_;first|refine oa ?_)|refine oa ?_|refine lnm ?_|refine gy ?_|refine gn ?_|(refine gsi (fun hB=>?_) (fun hB=>?_) <;> try (exfalso;omega)))|refine sq ?_|refine rg ?_|refine xc ?_|refine nl ?_|refine rt ?_
    all_goals (refine r1 ⟨⟨_,rfl,fun h=>?_⟩,rfl⟩;omega)
  ·repeat' first|(refine wo ?_;first|(refine ao ?_;first|refine oa ?_)|refine oa ?_|refine lnm ?_|refine gy ?_|refine gn ?_|(refine gsi (fun hB=>?_) (fun hB=>?_) <;> try (exfalso;omega)))|refine sq ?_|refine rg ?_|refine xc ?_|refine nl ?_|refine rt ?_
   all_goals (refine r1 ⟨⟨_,rfl,fun h=>?_⟩,rfl⟩;omega)
theorem RippleTells_tr (tv:Value) (t:List Int) (k n:Int):Tr Tryz.prog 3 [tv,I k,I n] [vw tv (Is t)] [] fun v D=>v = .bool true∧D = []:=by
 have hD:=dear25_tr tv t k n
 refine Tr.enter env _ Tryz.func3 (by kernel_rfl) rfl Tryz.ntmps3 rfl (by repeat (first | exact has00 | refine has01 ?_)) fun w0=>?_
 repeat' first|(refine gca ?_;first|(refine ca hD ?_;rintro _ _ ⟨⟨b,rfl,hb⟩,rfl⟩;cases b)|(refine ca awake25_tr ?_;rintro _ _ ⟨rfl,rfl⟩))|(refine wo ?_;first|refine oa ?_)|(refine gc ?_;first|refine ct ?_|refine cf ?_)|refine sq ?_|refine rg ?_|refine xc ?_|refine nl ?_|refine sk ?_|refine rt ?_
 rotate_left
 ·exact r1 ⟨rfl,rfl⟩
 obtain ⟨h1,h2,h3⟩:=hb rfl
 have hC:=CopyInts_tr tv t (by omega)
 have hS:=fun o ho=>StuckV_tr o ho t k n h2 h1 h3
 have hRS:=RStuckV_tr tv t k n h2 h1 h3
 have hF:=fun o ho=>Fail_tr o ho t k n h2 h1 h3
 have hRF:=RFail25_tr tv t k n h2 h1 h3
 have hLl:=stkV_len (t:=t) (n:=n) h2
 have d1:=failV_dg t k n
 generalize failV t k n = m1 at *
 generalize stkV t k n = sv at *
 obtain ⟨t1,e1⟩:=m1
 obtain ⟨L,e⟩:=sv
 unfold FW at hF hRF
 unfold StkP at hS hRS
 dsimp only at hF hRF hS hRS hLl d1
 clear hD hb
 repeat' first|(refine gca ?_;first|(refine ca hC ?_;rintro o _ rfl;refine TO.one (v:=o) (xs:=Is t) fun ho=>?_)|(refine ca (hS o ho) ?_;rintro _ _ ⟨v1,hs1,rfl,hl1,rfl⟩)|(refine ca hRS ?_;rintro _ _ ⟨v2,hs2,rfl,hl2,rfl⟩)|(refine ca (hF o ho) ?_;rintro _ _ ⟨n1,k1,rfl,hn1,hk1,rfl⟩)|(refine ca hRF ?_;rintro _ _ ⟨n2,k2,rfl,hn2,hk2,rfl⟩))|refine al fun c=>?_|refine srz ?_|(refine wo ?_;first|refine oa ?_)|refine sq ?_|refine rg ?_|refine xc ?_|refine nl ?_
 have hS1:=SameRatioT_tr t1 n1 k1 n2 k2
 repeat' first|(refine gca ?_;first|(refine ca hS1 ?_;rintro _ _ ⟨rfl,rfl⟩))|refine lda ?_|refine lnw (v:=v1) (N:=L.length) ?_ (hm:=has_oww memA)|refine lnw (v:=v2) (N:=L.length) ?_ (hm:=has_oww memA)|(refine wo ?_;first|(refine ao ?_;first|refine oa ?_)|refine oa ?_|refine gy ?_|(refine gsi (fun hB=>?_) (fun hB=>?_) <;> try (exfalso;omega)))|refine sq ?_|refine rg ?_|refine xc ?_|refine nl ?_|refine bk ?_
 rw [show decide (e1 = e1) = true from decide_eq_true rfl]
 refine TC.loop (ι:=Nat) (fun i=>[(17,I i),(16,.bool true)]) (fun i=>[ofr (hs1.drop i) (L.drop i)]) (fun i=>i ≤ L.length) (fun i=>L.length - i) 0 [0,7,8,10,12,14] (Nat.zero_le _) ?_
 rintro i hi
 by_cases hlt:i < L.length
 ·have hr1:=rcs_row (hs:=hs1) (qs:=L) hl1 (i:=i) hlt
  have hr2:=rcs_row (hs:=hs2) (qs:=L) hl2 (i:=i) hlt
  have hg2:=fun (F:List Ch) (h:ofr hs2 L ∈ F)=>has_fr (has_ofr hl2 h) hl2 (i:=i) hlt
  rw [drop_getD hlt 0,drop_getD (l:=hs1) (by omega) nS2]
  generalize hs1.getD i nS2 = x1 at *
  generalize hs2.getD i nS2 = x2 at *
  obtain ⟨a1,b1⟩:=x1
  obtain ⟨a2,b2⟩:=x2
  dsimp only at hg2
  have hpop:=fun (A F:List Ch) hf=>ofr_pop (h:=(a1,b1)) (hs:=hs1.drop (i + 1)) (q:=L.getD i 0) (qs:=L.drop (i + 1)) (A:=A) (F:=F) hf
  generalize L.getD i 0 = q at *
  have hSr:=SameRatioT_tr (rqf q) a1 b1 a2 b2
  have hOv:=OverRatio_tr (rqf q) a1 b1 (Dg_dg _) (Dg_dg _)
  generalize hX1:rcs L hs1 = xs1 at *
  generalize hX2:rcs L hs2 = xs2 at *
  refine TC.im (hpop _ _ fitA) ?_
  repeat' first|refine lnw (v:=v1) (N:=L.length) ?_ (hm:=has_oww memA)|(refine wo ?_;first|(refine ao ?_;first|refine oa ?_)|refine oa ?_|refine gy ?_)|(refine gc ?_;first|(refine ci (fun hB=>?_) (fun hB=>?_) <;> try (exfalso;omega)))|refine sq ?_|refine rg ?_|refine xc ?_|refine nl ?_|refine sk ?_|refine bk ?_
  repeat' first|refine qixws (v:=v1) (N:=L.length) (xs:=xs1) ?_ (hm:=has_oww memA)|refine qixws (v:=v2) (N:=L.length) (xs:=xs2) ?_ (hm:=has_oww memA)|refine qldaw (v:=v1) (m:=3 * i) hr1 ?_ (hm:=has_oww memA)|refine qldaw (v:=v2) (m:=3 * i) hr2 ?_ (hm:=has_oww memA)|(refine qca hSr (fun _ _ h=>h) ?_ (hp:=has1 hasA (has1 hasA (has1 (hg2 _ memA).1 (has1 (hg2 _ memA).2 has0)))))|(refine wo ?_;first|refine oa ?_)|refine rg ?_|refine xc ?_|refine rq ?_|refine nq ?_|(refine wq ?_;first|refine qa ?_)
  repeat' first|(refine gca ?_;first|(refine ca hOv ?_;rintro _ _ rfl))|refine ixws (v:=v1) (N:=L.length) (xs:=xs1) ?_ (hm:=has_oww memA)|refine ldaw (v:=v1) (m:=3 * i) hr1 ?_ (hm:=has_oww memA)|(refine wo ?_;first|(refine ao ?_;first|refine aw ?_)|refine oa ?_)|refine rg ?_|refine xc ?_|refine nl ?_|refine xb ?_
  exact lp (i + 1) hlt
 obtain rfl:i = L.length:=by omega
 have hSI:=SameIntsT_tr o tv t
 repeat' first|(refine gca ?_;first|(refine ca (OverRatio_tr t1 n1 k1 d1.1 d1.2) ?_;rintro _ _ rfl)|(refine ca hSI ?_;rintro _ _ ⟨rfl,rfl⟩)|(refine ca awake25_tr ?_;rintro _ _ ⟨rfl,rfl⟩))|refine lnw (v:=v1) (N:=L.length) ?_ (hm:=has_oww memA)|refine lda ?_|(refine wo ?_;first|(refine ao ?_;first|refine oa ?_)|refine oa ?_|refine gy ?_)|(refine gc ?_;first|(refine ci (fun hB=>?_) (fun hB=>?_) <;> try (exfalso;omega)))|refine sq ?_|refine rg ?_|refine xc ?_|refine nl ?_|refine xe ?_|refine rt ?_
 all_goals exact r1 ⟨rfl,rfl⟩
end Go.Art
namespace Go.Art
open Go Go.Proofs Go.RowKit
abbrev StaP (n:Nat) (x:List Rat) (is:List Nat) (e:Int) (u:Value) (D:List Ch):Prop:=∃ v hs,u = tup2 v (I e)∧hs.length = is.length∧D = [oww TSt 5 v is.length (scs n x is hs),ofr hs (is.map fun i=>x.getD i 0)]
def staV (t:List Int) (k n u:Int):List Rat × List Nat × Int:=
 if ripE t k n ≠ 0 then ([],[],ripE t k n) else if u < 0∨k < u then ([],[],3) else
 (lvT t k.toNat n.toNat (k.toNat - u.toNat),sIx (lvT t k.toNat n.toNat (k.toNat - u.toNat)) ((n.toNat + 1) * (n.toNat + 1)),0)
theorem staV_len {t:List Int} {k n u:Int} (hn:n ≤ 12∨4096 < n):(staV t k n u).2.1.length ≤ 169:=by
 unfold staV
 split
 ·exact Nat.zero_le _
 ·rename_i h
  split
  ·exact Nat.zero_le _
  ·have:=(ripE_zero (Classical.not_not.1 h)).2.1
   exact Nat.le_trans (sIx_len _ _) (Nat.mul_le_mul (show n.toNat + 1 ≤ 13 by omega) (show n.toNat + 1 ≤ 13 by omega))
theorem sta_none (n:Nat) (e:Int):∀ v D,(v = tup2 nS (I e)∧D = ([]:List Ch))→∃ D',StaP n [] [] e v D'∧Im D D'∧∀ c ∈ D',∀ b,¬ c.bd b:=by
 rintro v D ⟨rfl,rfl⟩
 exact ⟨_,⟨nS,[],rfl,rfl,rfl⟩,(owl_nil (e:=T64) (g:=wU) []).trans (oww_nil TSt 5 _),by repeat (first | exact nb0 | refine nb1 ?_)⟩
attribute [local irreducible] Fit pt own ro vw mpc lpt vels rels mow lrc dfr
attribute [local irreducible] lmp lme mit velg relg bnd owl dfrl massW setsW massD smlT solE failV failQ stL
theorem StatesV_tr (tv:Value) (htv:tv.oneCell' = true) (t:List Int) (k n u:Int) (hk:k ≤ 40∨1024 < k) (hl:t.length ≤ 12) (hn:n ≤ 12∨4096 < n):Tr Tryz.prog 25 [tv,I k,I n,I u] [vw tv (Is t)] [] (StaP n.toNat (staV t k n u).1 (staV t k n u).2.1 (staV t k n u).2.2):=by
 unfold staV
 by_cases h:ripE t k n = 0
 ·rw [if_neg (fun g=>g h)]
  by_cases hu:u < 0∨k < u
  ·rw [if_pos hu]
   exact (States_none tv t k n u h hu).post (sta_none _ _)
  rw [if_neg hu]
  obtain ⟨h1,h2,hz⟩:=ripE_zero h
  obtain ⟨kn,rfl⟩ : ∃ kn:Nat,k = kn:=⟨k.toNat,by omega⟩
  obtain ⟨nn,rfl⟩ : ∃ nn:Nat,n = nn:=⟨n.toNat,by omega⟩
  obtain ⟨un,rfl⟩ : ∃ un:Nat,u = un:=⟨u.toNat,by omega⟩
  rw [Int.toNat_natCast,Int.toNat_natCast,Int.toNat_natCast]
  refine (States_ok tv htv t kn nn un hz (by omega) hl (by omega) (by omega)).mono fun u D h=>?_
  obtain ⟨v,hs,h1,h2,h3,h4⟩:=h
  exact ⟨v,hs,h1,h3,h4⟩
 ·rw [if_pos h]
  exact (States_err tv t k n u h).post (sta_none _ _)
theorem RStatesV_tr (tv:Value) (t:List Int) (k n u:Int) (hk:k ≤ 40∨1024 < k) (hl:t.length ≤ 12) (hn:n ≤ 12∨4096 < n):Tr Tryz.prog 26 [tv,I k,I n,I u] [vw tv (Is t)] [] (StaP n.toNat (staV t k n u).1 (staV t k n u).2.1 (staV t k n u).2.2):=by
 unfold staV
 by_cases h:ripE t k n = 0
 ·rw [if_neg (fun g=>g h)]
  by_cases hu:u < 0∨k < u
  ·rw [if_pos hu]
   exact (RStates_none tv t k n u h hu).post (sta_none _ _)
  rw [if_neg hu]
  obtain ⟨h1,h2,hz⟩:=ripE_zero h
  obtain ⟨kn,rfl⟩ : ∃ kn:Nat,k = kn:=⟨k.toNat,by omega⟩
  obtain ⟨nn,rfl⟩ : ∃ nn:Nat,n = nn:=⟨n.toNat,by omega⟩
  obtain ⟨un,rfl⟩ : ∃ un:Nat,u = un:=⟨u.toNat,by omega⟩
  rw [Int.toNat_natCast,Int.toNat_natCast,Int.toNat_natCast]
  refine (RStates_ok tv t kn nn un hz (by omega) hl (by omega) (by omega)).mono fun u D h=>?_
  obtain ⟨v,hs,h1,h2,h3,h4⟩:=h
  exact ⟨v,hs,h1,h3,h4⟩
 ·rw [if_pos h]
  exact (RStates_err tv t k n u h).post (sta_none _ _)
theorem RippleStates_tr (tv:Value) (t:List Int) (k n u:Int):Tr Tryz.prog 4 [tv,I k,I n,I u] [vw tv (Is t)] [] fun v D=>v = .bool true∧D = []:=by
 have hD:=dear25_tr tv t k n
 refine Tr.enter env _ Tryz.func4 (by kernel_rfl) rfl Tryz.ntmps4 rfl (by repeat (first | exact has00 | refine has01 ?_)) fun w0=>?_
 repeat' first|(refine gca ?_;first|(refine ca hD ?_;rintro _ _ ⟨⟨b,rfl,hb⟩,rfl⟩;cases b)|(refine ca awake25_tr ?_;rintro _ _ ⟨rfl,rfl⟩))|(refine wo ?_;first|refine oa ?_)|(refine gc ?_;first|refine ct ?_|refine cf ?_)|refine sq ?_|refine rg ?_|refine xc ?_|refine nl ?_|refine sk ?_|refine rt ?_
 rotate_left
 ·exact r1 ⟨rfl,rfl⟩
 obtain ⟨h1,h2,h3⟩:=hb rfl
 have hC:=CopyInts_tr tv t (by omega)
 have hS:=fun o ho=>StatesV_tr o ho t k n u h2 h1 h3
 have hRS:=RStatesV_tr tv t k n u h2 h1 h3
 have hLl:=staV_len (t:=t) (k:=k) (u:=u) h3
 generalize staV t k n u = sv at *
 generalize n.toNat = nn at *
 obtain ⟨x,is,e⟩:=sv
 unfold StaP at hS hRS
 dsimp only at hS hRS hLl
 clear hD hb
 repeat' first|(refine gca ?_;first|(refine ca hC ?_;rintro o _ rfl;refine TO.one (v:=o) (xs:=Is t) fun ho=>?_)|(refine ca (hS o ho) ?_;rintro _ _ ⟨v1,hs1,rfl,hl1,rfl⟩)|(refine ca hRS ?_;rintro _ _ ⟨v2,hs2,rfl,hl2,rfl⟩))|(refine wo ?_;first|refine oa ?_)|refine sq ?_|refine rg ?_|refine xc ?_|refine nl ?_
 repeat' first|refine lnw (v:=v1) (N:=is.length) ?_ (hm:=has_oww memA)|refine lnw (v:=v2) (N:=is.length) ?_ (hm:=has_oww memA)|(refine wo ?_;first|(refine ao ?_;first|refine oa ?_)|refine oa ?_|refine gy ?_|(refine gsi (fun hB=>?_) (fun hB=>?_) <;> try (exfalso;omega)))|refine sq ?_|refine rg ?_|refine xc ?_|refine nl ?_|refine bk ?_
 rw [show decide (e = e) = true from decide_eq_true rfl]
 have hml:(is.map fun i=>x.getD i 0).length = is.length:=by rw [List.length_map]
 refine TC.loop (ι:=Nat) (fun i=>[(15,I i),(14,.bool true)]) (fun i=>[ofr (hs1.drop i) ((is.map fun i=>x.getD i 0).drop i)]) (fun i=>i ≤ is.length) (fun i=>is.length - i) 0 [0,9,10,12] (Nat.zero_le _) ?_
 rintro i hi
 by_cases hlt:i < is.length
 ·have hrow1:=scs_row (n:=nn) (x:=x) hl1 hlt
  have hrow2:=scs_row (n:=nn) (x:=x) hl2 hlt
  have hg2:=fun (F:List Ch) (h:ofr hs2 (is.map fun i=>x.getD i 0) ∈ F)=>has_fr (has_ofr (by rw [hml];exact hl2) h) (by rw [hml];exact hl2) (i:=i) (by rw [hml];exact hlt)
  have hmg:(is.map fun i=>x.getD i 0).getD i 0 = x.getD (is.getD i 0) 0:=by simp [List.getD_eq_getElem?_getD,hlt]
  rw [drop_getD (l:=is.map fun i=>x.getD i 0) (by rw [hml];exact hlt) 0,drop_getD (l:=hs1) (by omega) nS2]
  rw [hmg] at hg2 ⊢
  generalize hs1.getD i nS2 = x1 at *
  generalize hs2.getD i nS2 = x2 at *
  obtain ⟨a1,b1⟩:=x1
  obtain ⟨a2,b2⟩:=x2
  dsimp only at hg2
  generalize x.getD (is.getD i 0) 0 = q at *
  generalize is.getD i 0 / (nn + 1) = cl at *
  generalize is.getD i 0 % (nn + 1) = rp at *
  have hpop:=fun (A F:List Ch) hf=>ofr_pop (h:=(a1,b1)) (hs:=hs1.drop (i + 1)) (q:=q) (qs:=(is.map fun i=>x.getD i 0).drop (i + 1)) (A:=A) (F:=F) hf
  have hr1:=rsub3 hrow1 2 3 (by decide)
  have hr2:=rsub3 hrow2 2 3 (by decide)
  have h10:=rcell3 hrow1 (j:=0) (by decide)
  have h11:=rcell3 hrow1 (j:=1) (by decide)
  have h20:=rcell3 hrow2 (j:=0) (by decide)
  have h21:=rcell3 hrow2 (j:=1) (by decide)
  dsimp only [srow,List.drop,List.take] at hr1 hr2
  have hSr:=SameRatioT_tr (rqf q) a1 b1 a2 b2
  have hOv:=OverRatio_tr (rqf q) a1 b1 (Dg_dg _) (Dg_dg _)
  clear hrow1 hrow2 hmg
  generalize hX1:scs nn x is hs1 = xs1 at *
  generalize hX2:scs nn x is hs2 = xs2 at *
  refine TC.im (hpop _ _ fitA) ?_
  repeat' first|refine lnw (v:=v1) (N:=is.length) ?_ (hm:=has_oww memA)|(refine wo ?_;first|(refine ao ?_;first|refine oa ?_)|refine oa ?_|refine gy ?_)|(refine gc ?_;first|(refine ci (fun hB=>?_) (fun hB=>?_) <;> try (exfalso;omega)))|refine sq ?_|refine rg ?_|refine xc ?_|refine nl ?_|refine sk ?_|refine bk ?_
  repeat' first|refine qixws (v:=v1) (N:=is.length) (xs:=xs1) ?_ (hm:=has_oww memA)|refine qixws (v:=v2) (N:=is.length) (xs:=xs2) ?_ (hm:=has_oww memA)|refine qfaf (v:=v1) ?_|refine qfaf (v:=v2) ?_|refine qldw (v:=v1) h10 ?_ (hm:=has_oww memA)|refine qldw (v:=v1) h11 ?_ (hm:=has_oww memA)|refine qldw (v:=v2) h20 ?_ (hm:=has_oww memA)|refine qldw (v:=v2) h21 ?_ (hm:=has_oww memA)|refine qldaw (v:=v1) (m:=5 * i + 2) hr1 ?_ (hm:=has_oww memA)|refine qldaw (v:=v2) (m:=5 * i + 2) hr2 ?_ (hm:=has_oww memA)|(refine qca hSr (fun _ _ h=>h) ?_ (hp:=has1 hasA (has1 hasA (has1 (hg2 _ memA).1 (has1 (hg2 _ memA).2 has0)))))|(refine wo ?_;first|refine oa ?_)|refine rg ?_|refine xc ?_|refine rq ?_|refine nq ?_|(refine wq ?_;first|(refine qao ?_;first|refine qa ?_)|refine qa ?_|refine qgy ?_|(refine qgsi (fun hB=>?_) (fun hB=>?_) <;> try (exfalso;omega)))
  repeat' first|(refine gca ?_;first|(refine ca hOv ?_;rintro _ _ rfl))|refine ixws (v:=v1) (N:=is.length) (xs:=xs1) ?_ (hm:=has_oww memA)|refine faf (v:=v1) ?_|refine ldaw (v:=v1) (m:=5 * i + 2) hr1 ?_ (hm:=has_oww memA)|(refine wo ?_;first|(refine ao ?_;first|refine aw ?_)|refine oa ?_)|refine rg ?_|refine xc ?_|refine nl ?_|refine xb ?_
  exact lp (i + 1) hlt
 obtain rfl:i = is.length:=by omega
 have hSI:=SameIntsT_tr o tv t
 repeat' first|(refine gca ?_;first|(refine ca hSI ?_;rintro _ _ ⟨rfl,rfl⟩)|(refine ca awake25_tr ?_;rintro _ _ ⟨rfl,rfl⟩))|refine lnw (v:=v1) (N:=is.length) ?_ (hm:=has_oww memA)|(refine wo ?_;first|(refine ao ?_;first|refine oa ?_)|refine oa ?_|refine gy ?_)|(refine gc ?_;first|(refine ci (fun hB=>?_) (fun hB=>?_) <;> try (exfalso;omega)))|refine sq ?_|refine rg ?_|refine xc ?_|refine nl ?_|refine xe ?_|refine rt ?_
 all_goals exact r1 ⟨rfl,rfl⟩
end Go.Art
