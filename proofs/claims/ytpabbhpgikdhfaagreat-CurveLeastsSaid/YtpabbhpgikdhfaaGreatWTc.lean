/- Texts put together: Za Zb Zc Zd Ze Ar LaySort Srt Q Lt Nu Bg Nv Qa Ob Qb Qc Ss Ql Qm So Al Qn Qp Zf Nq Nr Ns Nt Ia Rm. Conditions: none. -/
import Derived.Test.YtpabbhpgikdhfaaGreatWTb
set_option linter.unusedSimpArgs false
set_option linter.unusedVariables false
namespace Go.Art
open Go Go.Proofs Go.RowKit
theorem nv_cmp_lt {a b:List Nat} (ha:Dg a) {j:Nat} (h:nv (a.drop (j + 1)) = nv (b.drop (j + 1))) (hx:a.getD j 0 < b.getD j 0):nv a < nv b:=by
 refine nv_lt_of ha j ?_
 rw [nv_step a j,nv_step b j,h]
 omega
theorem Dg.snoc {l:List Nat} {x:Nat} (h:Dg l) (hx:x < 18446744073709551616):Dg (l ++ [x]):=h.app (Dg.one hx)
structure NaG where
 i:Nat
 c:Nat
 o:Value
 ys:List Nat
attribute [local irreducible] Fit pt own ro vw mpc lpt vels rels mow lrc dfr
theorem RTrim_tr (v:Value) (l:List Nat) (hd:Dg l) (hl:l.length ≤ 17592186044416):Tr Tryz.prog 113 [v] [vw v (Us l)] [] fun u D=>u.oneCell' = true∧D = [own T64 u (Us (dg (nv l)))]:=by
 refine Tr.enter env _ Tryz.func113 (by kernel_rfl) rfl Tryz.ntmps113 rfl (by repeat (first | exact has00 | refine has01 ?_)) fun w0=>?_
 refine TC.fact (p:=slSub v 0 l.length = v) (fun w hw=>by have:=slSub_all (vw_sl (hw.h (vw v (Us l)) (List.Mem.head _)));rwa [Us_len] at this) fun hv=>?_
 refine TC.lenu (v:=v) (l:=l) fun hlen=>?_
 repeat' first|(refine wo ?_;first|refine oa ?_)|refine sq ?_|refine rg ?_|refine xc ?_|refine nl ?_|refine bk ?_
 refine TC.loop (ι:=Nat × Value) (fun i=>[(0,i.2)]) (fun _=>[]) (fun i=>i.1 ≤ l.length∧i.2 = slSub v 0 i.1∧nv (l.drop i.1) = 0) (fun i=>i.1) (l.length,v) [] ⟨Nat.le_refl _,hv.symm,by simp [nv]⟩ ?_
 rintro ⟨k,u⟩ ⟨h1,h2,h3⟩
 dsimp only at h1 h2 h3 ⊢
 obtain ⟨m,hm⟩ : ∃ m,m = l.take k:=⟨_,rfl⟩
 have hu:Has [vw v (Us l)] (vw u (Us m)):=by rw [h2,hm];exact has_take (has_vw (List.Mem.head _)) h1
 have hkl:m.length = k:=by rw [hm];simp;omega
 have hge:((m.length:Int) - 1).toNat = k - 1:=by omega
 have hT:m.length = 0∨m.getD (((m.length:Int) - 1).toNat) 0 ≠ 0→m = dg (nv l):=fun h=>by
  have ht:Tm (l.take k):=by
   rw [← hm];refine Tm_of (h.imp List.eq_nil_of_length_eq_zero fun h=>?_)
   rwa [hge,← hkl] at h
  rw [hm,← dg_top hd h3,dg_nv (hd.take k) ht]
 have hZ:0 < k→m.getD (((m.length:Int) - 1).toNat) 0 = 0→nv (l.drop (k - 1)) = 0:=fun h0 h=>by
  have:=nv_step l (k - 1)
  rw [show k - 1 + 1 = k by omega,h3,Nat.mul_zero,Nat.add_zero] at this
  refine this.trans (Eq.trans ?_ h)
  rw [hge,hm,List.getD_eq_getElem?_getD,List.getD_eq_getElem?_getD,List.getElem?_take,if_pos (by omega)]
 have hN:∀ m,slSub u 0 m = slSub v 0 m:=fun m=>by rw [h2,slSub_sub]
 refine TC.im (B:=[vw v (Us l)]) (Im.refl _) ?_
 repeat' first|(refine sl0 fun o=>?_)|(refine apu (l:=[]) (news:=m) (fun o=>?_);refine TO.one (v:=o) (xs:=Us ([] ++ m)) fun ho=>?_)|(refine wo ?_;first|(refine ao ?_;first|refine aw ?_|refine oa ?_)|refine lu ?_|refine oa ?_|refine lnm ?_|refine ixm ?_|refine schm ?_|refine gy ?_|refine gn ?_|(refine gsi (fun hB=>?_) (fun hB=>?_) <;> try (exfalso;omega)))|(refine gc ?_;first|refine cf ?_|(refine ci (fun hB=>?_) (fun hB=>?_) <;> try (exfalso;omega)))|refine sq ?_|refine rg ?_|refine xc ?_|refine nl ?_|refine sk ?_|refine bk ?_|refine xe ?_|refine rt ?_|refine xb ?_
 ·exact lp (k - 1,slSub u 0 ((m.length:Int) - 1).toNat) ⟨by dsimp only;omega,by dsimp only;rw [hN,hge],hZ (by omega) (by omega)⟩
 ·rw [← hT (.inr (by omega))]
  exact r1 ⟨ho,rfl⟩
 ·rw [← hT (.inl (by omega))]
  exact r1 ⟨ho,rfl⟩
theorem Rdigit_tr (v:Value) (l:List Nat) (i:Nat):Tr Tryz.prog 112 [v,I i] [vw v (Us l)] [] fun u D=>u = Un (l.getD i 0)∧D = []:=by
 have h0:¬ i < l.length→l.getD i 0 = 0:=fun h=>by rw [List.getD_eq_getElem?_getD,List.getElem?_eq_none (by omega)];rfl
 refine Tr.enter env _ Tryz.func112 (by kernel_rfl) rfl Tryz.ntmps112 rfl (by repeat (first | exact has00 | refine has01 ?_)) fun w0=>?_
 refine TC.lenu (v:=v) (l:=l) fun hlen=>?_
 repeat' first|(refine wo ?_;first|(refine ao ?_;first|refine oa ?_)|refine lu ?_|refine oa ?_|refine lnm ?_|refine ixmn ?_)|(refine gc ?_;first|(refine ci (fun hB=>?_) (fun hB=>?_) <;> try (exfalso;omega)))|refine sq ?_|refine rg ?_|refine xc ?_|refine nl ?_|refine sk ?_|refine rt ?_
 ·exact r1 ⟨rfl,rfl⟩
 ·exact r1 ⟨by rw [h0 (by omega)],rfl⟩
theorem ROf_tr (x:Nat) (hx:x < 18446744073709551616):Tr Tryz.prog 176 [Un x] [] [] fun u D=>u.oneCell' = true∧D = [own T64 u (Us (dg x))]:=by
 have e:nv [x] = x:=by simp [nv]
 have hT:=fun o=>RTrim_tr o [x] (Dg.one hx) (by simp)
 simp only [e] at hT
 refine Tr.enter env _ Tryz.func176 (by kernel_rfl) rfl Tryz.ntmps176 rfl (by repeat (first | exact has00 | refine has01 ?_)) fun w0=>?_
 repeat' first|(refine gca ?_;first|(refine ca (hT o) ?_;rintro o2 _ ⟨ho2,rfl⟩))|(refine slu [x] fun o ho=>?_)|(refine wo ?_;first|refine oa ?_)|refine sq ?_|refine rg ?_|refine xc ?_|refine nl ?_|refine rt ?_
 exact r1 ⟨ho2,rfl⟩
theorem RNCheck_tr (v:Value) (l:List Nat):Tr Tryz.prog 158 [v] [vw v (Us l)] [] fun u D=>u = I (if 0 < l.length∧l.getD (l.length - 1) 0 = 0 then 6 else 0)∧D = []:=by
 have hge:((l.length:Int) - 1).toNat = l.length - 1:=by omega
 rw [← hge]
 refine Tr.enter env _ Tryz.func158 (by kernel_rfl) rfl Tryz.ntmps158 rfl (by repeat (first | exact has00 | refine has01 ?_)) fun w0=>?_
 refine TC.lenu (v:=v) (l:=l) fun hlen=>?_
 repeat' first|(refine wo ?_;first|(refine ao ?_;first|refine aw ?_|refine oa ?_)|refine lu ?_|refine oa ?_|refine lnm ?_|refine ixm ?_|refine gy ?_|refine gn ?_|(refine gsi (fun hB=>?_) (fun hB=>?_) <;> try (exfalso;omega)))|(refine gc ?_;first|refine cf ?_|(refine ci (fun hB=>?_) (fun hB=>?_) <;> try (exfalso;omega)))|refine sq ?_|refine rg ?_|refine xc ?_|refine nl ?_|refine sk ?_|refine rt ?_
 all_goals first
  | exact r1 ⟨by rw [if_pos (by omega)],rfl⟩
  | exact r1 ⟨by rw [if_neg (by omega)],rfl⟩
theorem RCmp_tr (v1 v2:Value) (a b:List Nat) (ha:Dg a) (hb:Dg b):Tr Tryz.prog 159 [v1,v2] [vw v1 (Us a),vw v2 (Us b)] [] fun u D=>u = I (cmpN (nv a) (nv b))∧D = []:=by
 refine Tr.enter env _ Tryz.func159 (by kernel_rfl) rfl Tryz.ntmps159 rfl (by repeat (first | exact has00 | refine has01 ?_)) fun w0=>?_
 refine TC.lenu (v:=v1) (l:=a) fun hla=>?_
 refine TC.lenu (v:=v2) (l:=b) fun hlb=>?_
 repeat' first|refine mxx ?_|(refine wo ?_;first|(refine ao ?_;first|refine aw ?_)|refine oa ?_|refine lnm ?_)|refine sq ?_|refine rg ?_|refine xc ?_|refine nl ?_|refine bk ?_
 refine TC.loop (ι:=Int) (fun k=>[(5,I k)]) (fun _=>[]) (fun k=>-1 ≤ k∧k ≤ 9223372036854775807∧nv (a.drop (k + 1).toNat) = nv (b.drop (k + 1).toNat)) (fun k=>(k + 1).toNat) (max (a.length:Int) b.length - 1) [0,1] ⟨by omega,by omega,?_⟩ ?_
 ·rw [List.drop_eq_nil_of_le (by omega),List.drop_eq_nil_of_le (by omega)]
 rintro k ⟨hk1,hk2,hI⟩
 by_cases hk:0 ≤ k
 ·obtain ⟨j,rfl⟩ : ∃ j:Nat,k = j:=⟨k.toNat,by omega⟩
  rw [show ((j:Int) + 1).toNat = j + 1 by omega] at hI
  have hL:=nv_cmp_lt ha hI
  have hG:=nv_cmp_lt hb hI.symm
  have s1:=nv_step a j
  have s2:=nv_step b j
  rw [hI] at s1
  have hx:=ha.getD j
  have hy:=hb.getD j
  have h1:=Rdigit_tr v1 a j
  have h2:=Rdigit_tr v2 b j
  generalize a.getD j 0 = x at *
  generalize b.getD j 0 = y at *
  repeat' first|(refine gca ?_;first|(refine ca h1 ?_;rintro _ _ ⟨rfl,rfl⟩)|(refine ca h2 ?_;rintro _ _ ⟨rfl,rfl⟩))|(refine wo ?_;first|(refine ao ?_;first|refine aw ?_|refine oa ?_)|refine oa ?_)|(refine gc ?_;first|refine ct ?_|(refine ci (fun hB=>?_) (fun hB=>?_) <;> try (exfalso;omega)))|refine sq ?_|refine rg ?_|refine xc ?_|refine nl ?_|refine sk ?_|refine bk ?_|refine rt ?_|refine xb ?_
  ·exact r1 ⟨by rw [cmpN,if_pos (hL (by omega))],rfl⟩
  ·exact r1 ⟨by have:=hG (by omega);rw [cmpN,if_neg (by omega),if_pos this],rfl⟩
  ·exact lp ((j:Int) - 1) ⟨by omega,by omega,by rw [show ((j:Int) - 1 + 1).toNat = j by omega,s1,s2];omega⟩
 ·obtain rfl:k = -1:=by omega
  repeat' first|(refine wo ?_;first|(refine ao ?_;first|refine oa ?_)|refine oa ?_)|(refine gc ?_;first|refine cf ?_)|refine sq ?_|refine rg ?_|refine xc ?_|refine nl ?_|refine xe ?_|refine rt ?_
  have e:cmpN (nv a) (nv b) = 0:=cmpN_eq.2 (by simpa using hI)
  exact r1 ⟨by rw [e],rfl⟩
theorem RAdd_tr (v1 v2:Value) (a b:List Nat) (ha:Dg a) (hb:Dg b) (hla:a.length ≤ 1099511627776) (hlb:b.length ≤ 1099511627776):Tr Tryz.prog 62 [v1,v2] [vw v1 (Us a),vw v2 (Us b)] [] fun u D=>u.oneCell' = true∧D = [own T64 u (Us (dg (nv a + nv b)))]:=by
 obtain ⟨m,hm⟩ : ∃ m:Nat,m = max a.length b.length:=⟨_,rfl⟩
 refine Tr.enter env _ Tryz.func62 (by kernel_rfl) rfl Tryz.ntmps62 rfl (by repeat (first | exact has00 | refine has01 ?_)) fun w0=>?_
 repeat' first|(refine wo ?_;first|refine oa ?_)|refine sq ?_|refine rg ?_|refine xc ?_|refine nl ?_|refine bk ?_
 refine TC.im (own_nil T64 _) ?_
 refine TC.loop (ι:=NaG) (fun g=>[(7,I g.i),(6,Un g.c),(5,g.o)]) (fun g=>[own T64 g.o (Us g.ys)]) (fun g=>(g.ys.length = g.i∧g.i ≤ m + 1∧g.c ≤ 1)∧Dg g.ys∧nv g.ys + g.c * 18446744073709551616 ^ g.i = nv (a.take g.i) + nv (b.take g.i)) (fun g=>m + 1 - g.i) ⟨0,0,nS,[]⟩ [0,1] ⟨⟨rfl,Nat.zero_le _,Nat.zero_le _⟩,Dg.nil,by simp [nv]⟩ ?_ (hf:=by dsimp only;exact fitA)
 rintro ⟨i,c,o,ys⟩ ⟨⟨h1,h2,hc⟩,hd,hI⟩
 dsimp only at h1 h2 hc hd hI ⊢
 by_cases hi:i < m + 1
 ·have hx:=ha.getD i
  have hy:=hb.getD i
  have hD1:=Rdigit_tr v1 a i
  have hD2:=Rdigit_tr v2 b i
  have hs:=fun (d e:Nat) (h:d + 18446744073709551616 * e = a.getD i 0 + b.getD i 0 + c)=>add_step (p:=18446744073709551616 ^ i) hI h
  have hta:=nv_take_s a i
  have htb:=nv_take_s b i
  have pk:∀ (d e:Nat),d + 18446744073709551616 * e = a.getD i 0 + b.getD i 0 + c→nv (ys ++ [d]) + e * 18446744073709551616 ^ (i + 1) = nv (a.take (i + 1)) + nv (b.take (i + 1)):=fun d e h=>by
   rw [nv_snoc,h1,hta,htb,Nat.pow_succ];exact hs d e h
  clear hs hta htb hI
  generalize a.getD i 0 = x at *
  generalize b.getD i 0 = y at *
  have pk2:Unit→∀ (d e:Nat),d + 18446744073709551616 * e = x + y + c→nv (ys ++ [d]) + e * 18446744073709551616 ^ (i + 1) = nv (a.take (i + 1)) + nv (b.take (i + 1)):=fun _=>pk
  clear pk
  repeat' first|(refine gca ?_;first|(refine ca hD1 ?_;rintro _ _ ⟨rfl,rfl⟩)|(refine ca hD2 ?_;rintro _ _ ⟨rfl,rfl⟩))|refine mxx ?_|(refine slu [_] fun q hq=>?_)|(refine apu (v:=o) (l:=ys) (news:=[_]) (fun o2=>?_))|(refine wo ?_;first|(refine ao ?_;first|(refine nao ?_;first|refine nad ?_|refine nadm ?_)|(refine naou ?_;first|refine nad ?_|refine nadm ?_)|refine aw ?_|refine oa ?_)|refine oa ?_|refine lnm ?_)|(refine gc ?_;first|(refine ci (fun hB=>?_) (fun hB=>?_) <;> try (exfalso;omega)))|refine sq ?_|refine rg ?_|refine xc ?_|refine nl ?_|refine sk ?_|refine bk ?_|refine xb ?_
  ·exact lp ⟨i + 1,1,o2,ys ++ [(x + y) % 18446744073709551616 + c]⟩ ⟨⟨by simp [h1],hi,by dsimp only;omega⟩,hd.snoc (by omega),pk2 () _ 1 (by omega)⟩
  ·exact lp ⟨i + 1,1,o2,ys ++ [((x + y) % 18446744073709551616 + c) % 18446744073709551616]⟩ ⟨⟨by simp [h1],hi,by dsimp only;omega⟩,hd.snoc (by omega),pk2 () _ 1 (by omega)⟩
  ·exact lp ⟨i + 1,0,o2,ys ++ [((x + y) % 18446744073709551616 + c) % 18446744073709551616]⟩ ⟨⟨by simp [h1],hi,by dsimp only;omega⟩,hd.snoc (by omega),pk2 () _ 0 (by omega)⟩
 ·obtain rfl:i = m + 1:=by omega
  have hn:nv ys = nv a + nv b:=by
   rw [nv_take_all (by omega),nv_take_all (by omega)] at hI
   have b1:=nv_lt ha
   have b2:=nv_lt hb
   have b3:18446744073709551616 ^ a.length ≤ 18446744073709551616 ^ m:=Nat.pow_le_pow_right (by decide) (by omega)
   have b4:18446744073709551616 ^ b.length ≤ 18446744073709551616 ^ m:=Nat.pow_le_pow_right (by decide) (by omega)
   rw [Nat.pow_succ] at hI
   rcases Nat.eq_zero_or_pos c with h0 | h0
   ·subst h0;omega
   ·obtain rfl:c = 1:=by omega
    omega
  have hT:=RTrim_tr o ys hd (by omega)
  rw [hn] at hT
  clear hI hn
  repeat' first|(refine gca ?_;first|(refine ca hT ?_;rintro o2 _ ⟨ho2,rfl⟩))|refine mxx ?_|(refine wo ?_;first|(refine ao ?_;first|refine oa ?_)|refine oa ?_|refine lnm ?_)|(refine gc ?_;first|(refine ci (fun hB=>?_) (fun hB=>?_) <;> try (exfalso;omega)))|refine sq ?_|refine rg ?_|refine xc ?_|refine nl ?_|refine xe ?_|refine rt ?_
  exact r1 ⟨ho2,rfl⟩
end Go.Art
namespace Go.Art
open Go Go.Proofs Go.RowKit
theorem nv_drop_div {l:List Nat} (h:Dg l) (q:Nat):nv (l.drop q) = nv l / 18446744073709551616 ^ q:=by
 have h1:=nv_cut l q
 have h2:=nv_low h q
 have h0:0 < 18446744073709551616 ^ q:=Nat.pow_pos (by decide)
 rw [h1,Nat.add_mul_div_left _ _ h0,Nat.div_eq_of_lt h2,Nat.zero_add]
theorem pow_W (q:Nat):18446744073709551616 ^ q = 2 ^ (64 * q):=by rw [Nat.pow_mul]
def Bt (n b:Nat):Prop:=n < 2 ^ b∧(b = 0∨2 ^ (b - 1) ≤ n)
theorem both_val {a b c d:Nat} (ha:a < 4294967296) (hb:b < 4294967296) (hc:c < 4294967296) (hd:d < 4294967296) :
  (b * d < 18446744073709551616∧a * d + b * d / 4294967296 < 18446744073709551616∧b * c + (a * d + b * d / 4294967296) % 4294967296 < 18446744073709551616) ∧
  (a * c + (a * d + b * d / 4294967296) / 4294967296 + (b * c + (a * d + b * d / 4294967296) % 4294967296) / 4294967296) * 18446744073709551616 + ((b * c + (a * d + b * d / 4294967296) % 4294967296) % 4294967296 * 4294967296 + b * d % 4294967296) = (a * 4294967296 + b) * (c * 4294967296 + d):=by
 have e:(a * 4294967296 + b) * (c * 4294967296 + d) = a * c * 18446744073709551616 + (a * d + b * c) * 4294967296 + b * d:=by
  rw [Nat.add_mul,Nat.mul_add,Nat.mul_add]
  have:a * 4294967296 * (c * 4294967296) = a * c * 18446744073709551616:=by rw [Nat.mul_mul_mul_comm]
  have:a * 4294967296 * d = a * d * 4294967296:=by ac_rfl
  have:b * (c * 4294967296) = b * c * 4294967296:=by ac_rfl
  omega
 have h1:a * d ≤ 4294967295 * 4294967295:=Nat.mul_le_mul (by omega) (by omega)
 have h2:b * c ≤ 4294967295 * 4294967295:=Nat.mul_le_mul (by omega) (by omega)
 have h3:b * d ≤ 4294967295 * 4294967295:=Nat.mul_le_mul (by omega) (by omega)
 rw [e]
 generalize a * c = p at *
 generalize a * d = q at *
 generalize b * c = r at *
 generalize b * d = s at *
 omega
attribute [local irreducible] Fit pt own ro vw mpc lpt vels rels mow lrc dfr
theorem RSub_tr (v1 v2:Value) (a b:List Nat) (ha:Dg a) (hb:Dg b) (hla:a.length ≤ 1099511627776) (hle:nv b ≤ nv a):Tr Tryz.prog 225 [v1,v2] [vw v1 (Us a),vw v2 (Us b)] [] fun u D=>∃ o,u = tup2 o (I 0)∧o.oneCell' = true∧D = [own T64 o (Us (dg (nv a - nv b)))]:=by
 have hC:=RCmp_tr v1 v2 a b ha hb
 have hcm:¬ cmpN (nv a) (nv b) < 0:=by rw [cmpN_lt];omega
 obtain ⟨cm,hc⟩ : ∃ cm,cm = cmpN (nv a) (nv b):=⟨_,rfl⟩
 rw [← hc] at hC hcm
 clear hc
 refine Tr.enter env _ Tryz.func225 (by kernel_rfl) rfl Tryz.ntmps225 rfl (by repeat (first | exact has00 | refine has01 ?_)) fun w0=>?_
 repeat' first|(refine gca ?_;first|(refine ca hC ?_;rintro _ _ ⟨rfl,rfl⟩))|(refine wo ?_;first|(refine ao ?_;first|refine oa ?_)|refine oa ?_)|(refine gc ?_;first|(refine ci (fun hB=>?_) (fun hB=>?_) <;> try (exfalso;omega)))|refine sq ?_|refine rg ?_|refine xc ?_|refine nl ?_|refine sk ?_|refine bk ?_
 refine TC.im (own_nil T64 _) ?_
 refine TC.loop (ι:=NaG) (fun g=>[(8,I g.i),(7,Un g.c),(6,g.o)]) (fun g=>[own T64 g.o (Us g.ys)]) (fun g=>(g.ys.length = g.i∧g.i ≤ a.length∧g.c ≤ 1)∧Dg g.ys∧nv g.ys + nv (b.take g.i) = nv (a.take g.i) + g.c * 18446744073709551616 ^ g.i) (fun g=>a.length - g.i) ⟨0,0,nS,[]⟩ [0,1] ⟨⟨rfl,Nat.zero_le _,Nat.zero_le _⟩,Dg.nil,by simp [nv]⟩ ?_ (hf:=by dsimp only;exact fitA)
 rintro ⟨i,c,o,ys⟩ ⟨⟨h1,h2,hc⟩,hd,hI⟩
 dsimp only at h1 h2 hc hd hI ⊢
 by_cases hi:i < a.length
 ·have hx:=ha.getD i
  have hy:=hb.getD i
  have hD2:=Rdigit_tr v2 b i
  have hs:=fun (d e:Nat) (h:d + b.getD i 0 + c = a.getD i 0 + e * 18446744073709551616)=>sub_step (p:=18446744073709551616 ^ i) hI h
  have hta:=nv_take_s a i
  have htb:=nv_take_s b i
  have pk:∀ (d e:Nat),d + b.getD i 0 + c = a.getD i 0 + e * 18446744073709551616→nv (ys ++ [d]) + nv (b.take (i + 1)) = nv (a.take (i + 1)) + e * 18446744073709551616 ^ (i + 1):=fun d e h=>by
   rw [nv_snoc,h1,hta,htb,Nat.pow_succ];exact hs d e h
  clear hs hta htb hI
  generalize b.getD i 0 = y at *
  have pk2:Unit→∀ (d e:Nat),d + y + c = a.getD i 0 + e * 18446744073709551616→nv (ys ++ [d]) + nv (b.take (i + 1)) = nv (a.take (i + 1)) + e * 18446744073709551616 ^ (i + 1):=fun _=>pk
  clear pk
  repeat' first|(refine qca hD2 (fun _ _ h=>h) ?_)|(refine slu [_] fun q hq=>?_)|(refine apu (v:=o) (l:=ys) (news:=[_]) (fun o2=>?_))|(refine wo ?_;first|(refine ao ?_;first|(refine nao ?_;first|refine nsb ?_|refine nsbm ?_)|(refine naou ?_;first|refine nsb ?_|refine nsbm ?_)|refine aw ?_|refine oa ?_)|refine oa ?_|refine lnm ?_)|(refine gc ?_;first|(refine ci (fun hB=>?_) (fun hB=>?_) <;> try (exfalso;omega)))|refine sq ?_|refine rg ?_|refine xc ?_|refine nl ?_|refine sk ?_|refine bk ?_|refine xb ?_|refine rq ?_|refine nq ?_|(refine wq ?_;first|refine qlu ?_|refine qa ?_|refine qixmn ?_)
  ·exact lp ⟨i + 1,1,o2,ys ++ [(a.getD i 0 + 18446744073709551616 - y) % 18446744073709551616 - c]⟩ ⟨⟨by simp [h1],hi,by dsimp only;omega⟩,hd.snoc (by omega),pk2 () _ 1 (by omega)⟩
  ·exact lp ⟨i + 1,1,o2,ys ++ [((a.getD i 0 + 18446744073709551616 - y) % 18446744073709551616 + 18446744073709551616 - c) % 18446744073709551616]⟩ ⟨⟨by simp [h1],hi,by dsimp only;omega⟩,hd.snoc (by omega),pk2 () _ 1 (by omega)⟩
  ·exact lp ⟨i + 1,0,o2,ys ++ [((a.getD i 0 + 18446744073709551616 - y) % 18446744073709551616 + 18446744073709551616 - c) % 18446744073709551616]⟩ ⟨⟨by simp [h1],hi,by dsimp only;omega⟩,hd.snoc (by omega),pk2 () _ 0 (by omega)⟩
 ·obtain rfl:i = a.length:=by omega
  have hn:nv ys = nv a - nv b:=by
   rw [List.take_length] at hI
   have b1:=nv_lt ha
   have b2:=nv_lt hd
   rw [h1] at b2
   have b3:nv (b.take a.length) = nv b:=by
    have h5:=nv_cut b a.length
    rcases Nat.eq_zero_or_pos (nv (b.drop a.length)) with h6 | h6
    ·rw [h6] at h5;omega
    ·have h7:18446744073709551616 ^ a.length * 1 ≤ 18446744073709551616 ^ a.length * nv (b.drop a.length):=Nat.mul_le_mul_left _ h6
     omega
   rw [b3] at hI
   rcases Nat.eq_zero_or_pos c with h0 | h0
   ·subst h0;omega
   ·obtain rfl:c = 1:=by omega
    omega
  have hT:=RTrim_tr o ys hd (by omega)
  rw [hn] at hT
  clear hI hn
  repeat' first|(refine gca ?_;first|(refine ca hT ?_;rintro o2 _ ⟨ho2,rfl⟩))|(refine wo ?_;first|(refine ao ?_;first|refine oa ?_)|refine oa ?_|refine lnm ?_)|(refine gc ?_;first|(refine ci (fun hB=>?_) (fun hB=>?_) <;> try (exfalso;omega)))|refine sq ?_|refine rg ?_|refine xc ?_|refine nl ?_|refine xe ?_|refine rt ?_
  exact r2 ⟨o2,rfl,ho2,rfl⟩
theorem RLen_tr (v:Value) (l:List Nat) (hd:Dg l) (hl:l.length ≤ 1099511627776):Tr Tryz.prog 256 [v] [vw v (Us l)] [] fun u D=>∃ b:Nat,u = I b∧Bt (nv l) b∧b ≤ 64 * l.length∧D = []:=by
 have hT:=RTrim_tr v l hd (by omega)
 have hll:=dg_len_le hd
 obtain ⟨n,hn⟩ : ∃ n,n = nv l:=⟨_,rfl⟩
 rw [← hn] at hT hll ⊢
 by_cases h0:n = 0
 ·subst h0
  have hlen:(dg 0).length = 0:=by rw [dg_zero];rfl
  refine Tr.enter env _ Tryz.func256 (by kernel_rfl) rfl Tryz.ntmps256 rfl (by repeat (first | exact has00 | refine has01 ?_)) fun w0=>?_
  repeat' first|(refine gca ?_;first|(refine ca hT ?_;rintro o _ ⟨ho,rfl⟩))|(refine wo ?_;first|(refine ao ?_;first|refine oa ?_)|refine oa ?_|refine lnm ?_)|(refine gc ?_;first|(refine ci (fun hB=>?_) (fun hB=>?_) <;> try (exfalso;omega)))|refine sq ?_|refine rg ?_|refine xc ?_|refine nl ?_|refine rt ?_
  exact r1 ⟨0,rfl,⟨by decide,.inl rfl⟩,Nat.zero_le _,rfl⟩
 have hp:=dg_len_pos h0
 obtain ⟨tb1,tb2⟩:=top_bounds h0
 have htd:(dg n).getD ((dg n).length - 1) 0 ≠ 0:=(Tm_dg n).top (by omega)
 have htl:(dg n).getD ((dg n).length - 1) 0 < 18446744073709551616:=(Dg_dg n).getD _
 have hge:(((dg n).length:Int) - 1).toNat = (dg n).length - 1:=by omega
 obtain ⟨m,hm⟩ : ∃ m,m = (dg n).length - 1:=⟨_,rfl⟩
 have hm2:((dg n).length:Int) - 1 = m:=by omega
 rw [← hm] at tb1 tb2 htd htl hge
 obtain ⟨t,ht⟩ : ∃ t,(dg n).getD (((dg n).length:Int) - 1).toNat 0 = t:=⟨_,rfl⟩
 have ht2:(dg n).getD m 0 = t:=by rw [← ht,hge]
 rw [ht2] at tb1 tb2 htd htl
 have pk:Unit→∀ b,Bt t b→0 < b→b ≤ 64→Bt n (64 * m + b)∧64 * m + b ≤ 64 * l.length:=fun _ b hb h1 h2=>by
  obtain ⟨g1,g2⟩:=hb
  refine ⟨⟨?_,.inr ?_⟩,by omega⟩
  ·rw [Nat.pow_add,← pow_W,Nat.mul_comm]
   exact Nat.lt_of_lt_of_le tb2 (Nat.mul_le_mul_right _ g1)
  ·rw [show 64 * m + b - 1 = 64 * m + (b - 1) by omega,Nat.pow_add,← pow_W,Nat.mul_comm]
   exact Nat.le_trans (Nat.mul_le_mul_right _ (g2.resolve_left (by omega))) tb1
 clear tb1 tb2 ht2
 refine Tr.enter env _ Tryz.func256 (by kernel_rfl) rfl Tryz.ntmps256 rfl (by repeat (first | exact has00 | refine has01 ?_)) fun w0=>?_
 repeat' first|(refine gca ?_;first|(refine ca hT ?_;rintro o _ ⟨ho,rfl⟩))|refine lue ht ?_|(refine wo ?_;first|(refine ao ?_;first|refine aw ?_|refine oa ?_)|refine oa ?_|refine lnm ?_|refine ixm ?_)|(refine gc ?_;first|(refine ci (fun hB=>?_) (fun hB=>?_) <;> try (exfalso;omega)))|refine sq ?_|refine rg ?_|refine xc ?_|refine nl ?_|refine sk ?_|refine bk ?_
 refine TC.loop (ι:=Nat × Nat) (fun g=>[(3,I ((64 * m + g.1:Nat):Int)),(4,Un g.2)]) (fun _=>[]) (fun g=>g.1 ≤ 64∧g.2 = t / 2 ^ g.1∧(g.1 = 0∨2 ^ (g.1 - 1) ≤ t)) (fun g=>g.2) (0,t) [] ⟨Nat.zero_le _,by simp,.inl rfl⟩ ?_ (hs:=by dsimp only;rw [show ((64 * m + 0:Nat):Int) = 64 * (((dg n).length:Int) - 1) by omega];(repeat (refine Sub.cons rfl (by first | rfl | go_num) ?_));exact Sub.nil)
 rintro ⟨b,y⟩ ⟨h1,h2,h3⟩
 dsimp only at h1 h2 h3 ⊢
 by_cases hy:0 < y
 ·have hb63:b < 64:=by
   rcases Nat.lt_or_ge b 64 with h | h
   ·exact h
   ·obtain rfl:b = 64:=by omega
    rw [Nat.div_eq_of_lt (by simpa using htl)] at h2;omega
  have hle:2 ^ b ≤ t:=by
   rcases Nat.lt_or_ge t (2 ^ b) with h | h
   ·rw [Nat.div_eq_of_lt h] at h2;omega
   ·exact h
  have hyl:y ≤ t:=by rw [h2];exact Nat.div_le_self _ _
  have hnx:Unit→(y / 2 = t / 2 ^ (b + 1)∧(b + 1 = 0∨2 ^ (b + 1 - 1) ≤ t)):=fun _=>⟨by rw [h2,Nat.div_div_eq_div_mul,← Nat.pow_succ],.inr hle⟩
  clear h2 h3 hle
  repeat' first|(refine wo ?_;first|(refine ao ?_;first|(refine nao ?_;first|refine nqu ?_)|(refine naou ?_;first|refine nqu ?_)|refine aw ?_|refine oa ?_)|refine oa ?_)|(refine gc ?_;first|(refine ci (fun hB=>?_) (fun hB=>?_) <;> try (exfalso;omega)))|refine sq ?_|refine rg ?_|refine xc ?_|refine nl ?_|refine sk ?_|refine bk ?_|refine xb ?_
  exact lp (b + 1,y / 2) ⟨hb63,(hnx ()).1,(hnx ()).2⟩ (hs:=by dsimp only;rw [show ((64 * m + (b + 1):Nat):Int) = ((64 * m + b:Nat):Int) + 1 by omega];(repeat (refine Sub.cons rfl (by first | rfl | go_num) ?_));exact Sub.nil) (hlt:=by dsimp only;omega)
 ·obtain rfl:y = 0:=by omega
  have hbt:t < 2 ^ b:=by
   rcases Nat.lt_or_ge t (2 ^ b) with h | h
   ·exact h
   ·have:=Nat.div_pos h (Nat.pow_pos (by decide));omega
  have hb0:0 < b:=by
   rcases Nat.eq_zero_or_pos b with h | h
   ·subst h;simp at hbt;omega
   ·exact h
  obtain ⟨k1,k2⟩:=pk () b ⟨hbt,h3⟩ hb0 h1
  clear h2 h3 hbt
  repeat' first|(refine wo ?_;first|(refine ao ?_;first|refine oa ?_)|refine oa ?_)|(refine gc ?_;first|refine cf ?_)|refine sq ?_|refine rg ?_|refine xc ?_|refine nl ?_|refine xe ?_|refine rt ?_
  exact r1 ⟨64 * m + b,rfl,k1,k2,rfl⟩
end Go.Art
namespace Go.Art
open Go Go.Proofs Go.RowKit
theorem shl32 (x:Nat):x * 4294967296 % 18446744073709551616 / 4294967296 = x % 4294967296:=by omega
theorem split32 (x:Nat):x / 4294967296 * 4294967296 + x % 4294967296 = x:=by omega
theorem div32 {x:Nat} (h:x < 18446744073709551616):x / 4294967296 < 4294967296:=by omega
theorem mod32 (x:Nat):x % 4294967296 < 4294967296:=by omega
theorem grow_a {h l c px:Nat} (e:h * 18446744073709551616 + l = px) (hle:px ≤ 18446744073709551615 * 18446744073709551615) (hl:l < 18446744073709551616) (hc:c < 18446744073709551616) (k:((l + c) % 18446744073709551616:Nat) < c):(l + c) % 18446744073709551616 + 18446744073709551616 * ((h + 1) % 18446744073709551616) = px + c:=by omega
theorem grow_b {h l c px:Nat} (e:h * 18446744073709551616 + l = px) (hl:l < 18446744073709551616) (hc:c < 18446744073709551616) (k:¬ ((l + c) % 18446744073709551616:Nat) < c):(l + c) % 18446744073709551616 + 18446744073709551616 * h = px + c:=by omega
theorem both_sum {p q r s:Nat} (v1:s < 18446744073709551616) (v2:q + s / 4294967296 < 18446744073709551616) (v3:r + (q + s / 4294967296) % 4294967296 < 18446744073709551616)
  (v8:(p + (q + s / 4294967296) / 4294967296 + (r + (q + s / 4294967296) % 4294967296) / 4294967296) * 18446744073709551616 + ((r + (q + s / 4294967296) % 4294967296) % 4294967296 * 4294967296 + s % 4294967296) < 18446744073709551616 * 18446744073709551616) :
  (((p % 18446744073709551616 + (q % 18446744073709551616 + s % 18446744073709551616 / 4294967296) % 18446744073709551616 / 4294967296) % 18446744073709551616 + (r % 18446744073709551616 + (q % 18446744073709551616 + s % 18446744073709551616 / 4294967296) % 18446744073709551616 * 4294967296 % 18446744073709551616 / 4294967296) % 18446744073709551616 / 4294967296) % 18446744073709551616) * 18446744073709551616 +
   ((r % 18446744073709551616 + (q % 18446744073709551616 + s % 18446744073709551616 / 4294967296) % 18446744073709551616 * 4294967296 % 18446744073709551616 / 4294967296) % 18446744073709551616 * 4294967296 % 18446744073709551616 + s % 18446744073709551616 * 4294967296 % 18446744073709551616 / 4294967296) % 18446744073709551616 =
  (p + (q + s / 4294967296) / 4294967296 + (r + (q + s / 4294967296) % 4294967296) / 4294967296) * 18446744073709551616 + ((r + (q + s / 4294967296) % 4294967296) % 4294967296 * 4294967296 + s % 4294967296):=by
 rw [Nat.mod_eq_of_lt v1,Nat.mod_eq_of_lt (show q < 18446744073709551616 by omega),Nat.mod_eq_of_lt v2,shl32,shl32,Nat.mod_eq_of_lt (show r < 18446744073709551616 by omega),Nat.mod_eq_of_lt v3]
 generalize hone:q + s / 4294967296 = one at *
 generalize htwo:r + one % 4294967296 = two at *
 omega
attribute [local irreducible] Fit pt own ro vw mpc lpt vels rels mow lrc dfr
theorem moved_tr (s:Nat) (hs:s ≤ 16777216):Tr Tryz.prog 289 [I s] [] [] fun u D=>u = .bool true∧D = []:=by
 refine Tr.enter env _ Tryz.func289 (by kernel_rfl) rfl Tryz.ntmps289 rfl (by repeat (first | exact has00 | refine has01 ?_)) fun w0=>?_
 repeat' first|(refine wo ?_;first|(refine ao ?_;first|refine oa ?_)|refine oa ?_|refine gy ?_)|refine sq ?_|refine rg ?_|refine xc ?_|refine nl ?_|refine rt ?_
 refine r1 ⟨?_,rfl⟩
 rw [decide_eq_true (by omega)]
theorem RDown_tr (v1:Value) (l:List Nat) (s:Nat) (hs:s ≤ 16777216) (hd:Dg l) (hl:l.length ≤ 1099511627776):Tr Tryz.prog 257 [v1,I s] [vw v1 (Us l)] [] fun u D=>∃ o,u = tup2 o (I 0)∧o.oneCell' = true∧D = [own T64 o (Us (dg (nv l / 2 ^ s)))]:=by
 obtain ⟨q,hq⟩ : ∃ q,q = s / 64:=⟨_,rfl⟩
 obtain ⟨p,hp⟩ : ∃ p,p = s % 64:=⟨_,rfl⟩
 have hqi:(s:Int) / 64 = q:=by omega
 have hpi:(s:Int) % 64 = p:=by omega
 have hp63:p < 64:=by omega
 have hsq:s = 64 * q + p:=by omega
 have hg:0 < 2 ^ p:=Nat.pow_pos (by decide)
 have hg2:0 < 2 ^ (64 - p):=Nat.pow_pos (by decide)
 have hsp:2 ^ p * 2 ^ (64 - p) = 18446744073709551616:=by rw [← Nat.pow_add,show p + (64 - p) = 64 by omega]
 have hend:nv l / 2 ^ s = nv (l.drop q) / 2 ^ p:=by rw [nv_drop_div hd,Nat.div_div_eq_div_mul,pow_W,← Nat.pow_add,hsq]
 rw [hend]
 have pkE:Unit→∀ (ys:List Nat) (j:Nat),l.length ≤ q + j→nv ys * 2 ^ p + (l.drop q).getD 0 0 % 2 ^ p = nv ((l.drop q).take j) + 18446744073709551616 ^ j * ((l.drop q).getD j 0 % 2 ^ p)→nv ys = nv (l.drop q) / 2 ^ p:=fun _ ys j hj hI=>by
  rw [nv_take_all (by rw [List.length_drop];omega),getD_over (i:=j) (by rw [List.length_drop];omega),Nat.zero_mod,Nat.mul_zero,Nat.add_zero] at hI
  rw [← hI,Nat.add_comm,Nat.add_mul_div_right _ _ hg,Nat.div_eq_of_lt (Nat.mod_lt _ hg),Nat.zero_add]
 have pkS:Unit→∀ (ys:List Nat) (j:Nat),ys.length = j→nv ys * 2 ^ p + (l.drop q).getD 0 0 % 2 ^ p = nv ((l.drop q).take j) + 18446744073709551616 ^ j * ((l.drop q).getD j 0 % 2 ^ p) →
   ∃ z d y,(l.getD (q + j) 0 / 2 ^ (min ((p:Int)).toNat 64) = z∧(0 < p→l.getD (q + j + 1) 0 * 2 ^ (min (((64 - p:Nat):Int)).toNat 64) % 18446744073709551616 = d∧z ||| d = y)∧(p = 0→z = y))∧z < 18446744073709551616∧d < 18446744073709551616∧y < 18446744073709551616 ∧
    nv (ys ++ [y]) * 2 ^ p + (l.drop q).getD 0 0 % 2 ^ p = nv ((l.drop q).take (j + 1)) + 18446744073709551616 ^ (j + 1) * ((l.drop q).getD (j + 1) 0 % 2 ^ p):=fun _ ys j hj hI=>by
  have g0:(l.drop q).getD j 0 = l.getD (q + j) 0:=by simp [List.getD_eq_getElem?_getD,List.getElem?_drop]
  have g1:(l.drop q).getD (j + 1) 0 = l.getD (q + j + 1) 0:=by simp [List.getD_eq_getElem?_getD,List.getElem?_drop,Nat.add_assoc]
  have hx:=hd.getD (q + j)
  have hx1:=hd.getD (q + j + 1)
  rw [g0] at hI
  have hS:∀ y,nv (ys ++ [y]) = nv ys + 18446744073709551616 ^ j * y:=fun y=>by rw [nv_snoc,hj]
  rw [g1,nv_take_s,g0]
  generalize l.getD (q + j) 0 = x at *
  generalize l.getD (q + j + 1) 0 = x1 at *
  have hdl:x1 % 2 ^ p < 2 ^ p:=Nat.mod_lt _ hg
  obtain ⟨d,hdd⟩ : ∃ d,d = x1 % 2 ^ p * 2 ^ (64 - p):=⟨_,rfl⟩
  have b1:x / 2 ^ p < 18446744073709551616:=Nat.lt_of_le_of_lt (Nat.div_le_self _ _) hx
  have b1':x / 2 ^ p < 2 ^ (64 - p):=Nat.div_lt_of_lt_mul (by rw [hsp];exact hx)
  have b2:d < 18446744073709551616:=by rw [hdd,← hsp];exact Nat.mul_lt_mul_of_pos_right hdl hg2
  have b3:d + 2 ^ (64 - p) ≤ 18446744073709551616:=by
   have:=Nat.mul_le_mul_right (2 ^ (64 - p)) hdl
   rw [Nat.succ_mul,hsp] at this
   rw [hdd];exact this
  have hmp:min ((p:Int)).toNat 64 = p:=by rw [Int.toNat_natCast];exact Nat.min_eq_left (by omega)
  have hmp2:min (((64 - p:Nat):Int)).toNat 64 = 64 - p:=by rw [Int.toNat_natCast];exact Nat.min_eq_left (by omega)
  have hyg:(x / 2 ^ p + d) * 2 ^ p = x - x % 2 ^ p + x1 % 2 ^ p * 18446744073709551616:=by
   have h1:=Nat.div_add_mod x (2 ^ p)
   rw [Nat.add_mul,hdd,Nat.mul_assoc,Nat.mul_comm (2 ^ (64 - p)),hsp,Nat.mul_comm (x / 2 ^ p)]
   omega
  refine ⟨x / 2 ^ p,d,x / 2 ^ p + d,⟨by rw [hmp],fun h=>⟨?_,?_⟩,fun h=>?_⟩,b1,b2,by omega,?_⟩
  ·rw [hmp2,hdd]
   conv=>lhs;rw [← hsp]
   exact Nat.mul_mod_mul_right _ _ _
  ·rw [Nat.or_comm,hdd,Nat.mul_comm _ (2 ^ (64 - p)),or_add b1'];exact Nat.add_comm _ _
  ·subst h;rw [hdd,Nat.pow_zero,Nat.mod_one,Nat.zero_mul,Nat.add_zero]
  ·rw [hS,Nat.pow_succ];exact down_step hI hyg
 clear hg hg2 hsp hend
 refine Tr.enter env _ Tryz.func257 (by kernel_rfl) rfl Tryz.ntmps257 rfl (by repeat (first | exact has00 | refine has01 ?_)) fun w0=>?_
 repeat' first|(refine gca ?_;first|(refine ca (moved_tr s hs) ?_;rintro _ _ ⟨rfl,rfl⟩))|(refine adiv ?_;rw [hqi])|(refine amod ?_;rw [hpi])|(refine ntu (m:=(p:Int)) ?_;rw [Int.toNat_natCast])|(refine wo ?_;first|refine oa ?_)|(refine gc ?_;first|refine cf ?_)|refine sq ?_|refine rg ?_|refine xc ?_|refine nl ?_|refine sk ?_|refine bk ?_
 refine TC.im (own_nil T64 _) ?_
 refine TC.loop (ι:=NaG) (fun g=>[(8,I ((q + g.i:Nat):Int)),(6,g.o)]) (fun g=>[own T64 g.o (Us g.ys)]) (fun g=>(g.ys.length = g.i∧(g.i = 0∨q + g.i ≤ l.length))∧Dg g.ys∧nv g.ys * 2 ^ p + (l.drop q).getD 0 0 % 2 ^ p = nv ((l.drop q).take g.i) + 18446744073709551616 ^ g.i * ((l.drop q).getD g.i 0 % 2 ^ p)) (fun g=>l.length - (q + g.i)) ⟨0,0,nS,[]⟩ [0,7] ⟨⟨rfl,.inl rfl⟩,Dg.nil,by simp [nv]⟩ ?_ (hf:=by dsimp only;exact fitA)
 rintro ⟨i,_,o,ys⟩ ⟨⟨h1,h2⟩,hdy,hI⟩
 dsimp only at h1 h2 hdy hI ⊢
 by_cases hi:q + i < l.length
 ·obtain ⟨z,d,y,⟨e1,e2,e3⟩,bz,bd,by_,hnx⟩:=pkS () ys i h1 hI
  have hD:=Rdigit_tr v1 l (q + i + 1)
  rw [show ((q + i + 1:Nat):Int) = ((q + i:Nat):Int) + 1 by omega] at hD
  have pe1:Unit→_:=fun _=>e1
  have pe2:Unit→_:=fun _=>e2
  have pn:Unit→_:=fun _=>hnx
  clear pkS pkE hI e1 e2 hnx
  by_cases hp0:p = 0
  ·have ezy:=e3 hp0
   subst ezy
   clear e3 pe2
   repeat' first|(refine nsre (pe1 ()) ?_)|(refine slu [_] fun qv hqv=>?_)|(refine apu (v:=o) (l:=ys) (news:=[_]) (fun o2=>?_))|(refine wo ?_;first|(refine ao ?_;first|refine aw ?_|refine oa ?_)|refine lu ?_|refine oa ?_|refine lnm ?_|refine ixmn ?_)|(refine gc ?_;first|(refine ci (fun hB=>?_) (fun hB=>?_) <;> try (exfalso;omega)))|refine sq ?_|refine rg ?_|refine xc ?_|refine nl ?_|refine sk ?_|refine bk ?_|refine xb ?_
   exact lp ⟨i + 1,0,o2,ys ++ [z]⟩ ⟨⟨by simp [h1],.inr (by dsimp only;omega)⟩,hdy.snoc by_,pn ()⟩ (hs:=by dsimp only;rw [show ((q + (i + 1):Nat):Int) = ((q + i:Nat):Int) + 1 by omega];(repeat (refine Sub.cons rfl (by first | rfl | go_num) ?_));exact Sub.nil)
  ·have e4:Unit→_:=fun _=>pe2 () (by omega)
   clear e3 pe2
   repeat' first|(refine gca ?_;first|(refine ca hD ?_;rintro _ _ ⟨rfl,rfl⟩))|(refine nsre (pe1 ()) ?_)|(refine nsle (e4 ()).1 ?_)|(refine nore (e4 ()).2 ?_)|(refine slu [_] fun qv hqv=>?_)|(refine apu (v:=o) (l:=ys) (news:=[_]) (fun o2=>?_))|(refine wo ?_;first|(refine ao ?_;first|(refine nao ?_;first|refine nsb ?_)|(refine naou ?_;first|refine nsb ?_)|refine aw ?_|refine oa ?_)|refine lu ?_|refine oa ?_|refine lnm ?_|refine ixmn ?_)|(refine gc ?_;first|(refine ci (fun hB=>?_) (fun hB=>?_) <;> try (exfalso;omega)))|refine sq ?_|refine rg ?_|refine xc ?_|refine nl ?_|refine sk ?_|refine bk ?_|refine xb ?_
   exact lp ⟨i + 1,0,o2,ys ++ [y]⟩ ⟨⟨by simp [h1],.inr (by dsimp only;omega)⟩,hdy.snoc by_,pn ()⟩ (hs:=by dsimp only;rw [show ((q + (i + 1):Nat):Int) = ((q + i:Nat):Int) + 1 by omega];(repeat (refine Sub.cons rfl (by first | rfl | go_num) ?_));exact Sub.nil)
 ·have hn:=pkE () ys i (by omega) hI
  have hT:=RTrim_tr o ys hdy (by omega)
  rw [hn] at hT
  clear pkS pkE hI hn
  obtain ⟨m,hm⟩ : ∃ m,m = nv (l.drop q) / 2 ^ p:=⟨_,rfl⟩
  rw [← hm] at hT ⊢
  clear hm
  repeat' first|(refine gca ?_;first|(refine ca hT ?_;rintro o2 _ ⟨ho2,rfl⟩))|(refine wo ?_;first|(refine ao ?_;first|refine oa ?_)|refine oa ?_|refine lnm ?_)|(refine gc ?_;first|(refine ci (fun hB=>?_) (fun hB=>?_) <;> try (exfalso;omega)))|refine sq ?_|refine rg ?_|refine xc ?_|refine nl ?_|refine xe ?_|refine rt ?_
  exact r2 ⟨o2,rfl,ho2,rfl⟩
theorem both_tr (x y:Nat) (hx:x < 18446744073709551616) (hy:y < 18446744073709551616):Tr Tryz.prog 272 [Un x,Un y] [] [] fun u D=>∃ h l,u = tup2 (Un h) (Un l)∧D = []∧h < 18446744073709551616∧l < 18446744073709551616∧h * 18446744073709551616 + l = x * y:=by
 refine Tr.enter env _ Tryz.func272 (by kernel_rfl) rfl Tryz.ntmps272 rfl (by repeat (first | exact has00 | refine has01 ?_)) fun w0=>?_
 repeat' first|(refine wo ?_;first|(refine ao ?_;first|(refine nao ?_;first|refine nadm ?_|refine nmlm ?_|refine nsl ?_|refine nsr ?_)|(refine naou ?_;first|refine nadm ?_|refine nmlm ?_|refine nsl ?_|refine nsr ?_))|refine oa ?_)|refine sq ?_|refine rg ?_|refine xc ?_|refine nl ?_|refine rt ?_
 have hv:=both_val (div32 hx) (mod32 x) (div32 hy) (mod32 y)
 rw [split32,split32] at hv
 obtain ⟨⟨v1,v2,v3⟩,v4⟩:=hv
 have v8:x * y < 18446744073709551616 * 18446744073709551616:=Nat.mul_lt_mul'' hx hy
 rw [← v4] at v8
 have key:=both_sum v1 v2 v3 v8
 rw [v4] at key
 clear v1 v2 v3 v4 v8
 refine r2 ⟨_,_,rfl,rfl,Nat.mod_lt _ (Nat.pos_of_ne_zero (by decide)),Nat.mod_lt _ (Nat.pos_of_ne_zero (by decide)),?_⟩
 simp only [show min (Int.toNat 32) 64 = 32 from rfl,show (2:Nat) ^ 32 = 4294967296 from rfl,shl32] at key ⊢
 exact key
theorem RGrow_tr (va:Value) (a:List Nat) (x:Nat) (ha:Dg a) (hx:x < 18446744073709551616) (hla:a.length ≤ 1099511627776):Tr Tryz.prog 228 [va,Un x] [vw va (Us a)] [] fun u D=>u.oneCell' = true∧D = [own T64 u (Us (dg (nv a * x)))]:=by
 refine Tr.enter env _ Tryz.func228 (by kernel_rfl) rfl Tryz.ntmps228 rfl (by repeat (first | exact has00 | refine has01 ?_)) fun w0=>?_
 repeat' first|(refine wo ?_;first|refine oa ?_)|refine sq ?_|refine rg ?_|refine xc ?_|refine nl ?_|refine bk ?_
 refine TC.im (own_nil T64 _) ?_
 refine TC.loop (ι:=NaG) (fun g=>[(7,I g.i),(6,Un g.c),(5,g.o)]) (fun g=>[own T64 g.o (Us g.ys)]) (fun g=>(g.ys.length = g.i∧g.i ≤ a.length∧g.c < 18446744073709551616)∧Dg g.ys∧nv g.ys + g.c * 18446744073709551616 ^ g.i = nv (a.take g.i) * x) (fun g=>a.length - g.i) ⟨0,0,nS,[]⟩ [0,1] ⟨⟨rfl,Nat.zero_le _,Nat.pos_of_ne_zero (by decide)⟩,Dg.nil,by simp [nv]⟩ ?_ (hf:=by dsimp only;exact fitA)
 rintro ⟨i,c,o,ys⟩ ⟨⟨h1,h2,hc⟩,hd,hI⟩
 dsimp only at h1 h2 hc hd hI ⊢
 by_cases hi:i < a.length
 ·have hy:=ha.getD i
  have hta:=nv_take_s a i
  have hBo:=(both_tr (a.getD i 0) x hy hx).mono (R':=fun u D=>∃ h l,u = tup2 (Un h) (Un l)∧D = []∧h < 18446744073709551616∧l < 18446744073709551616∧(Unit→h * 18446744073709551616 + l = a.getD i 0 * x)) fun u D ⟨h,l,g1,g2,g3,g4,g5⟩=>⟨h,l,g1,g2,g3,g4,fun _=>g5⟩
  have pk:Unit→∀ (d e:Nat),d + 18446744073709551616 * e = a.getD i 0 * x + c→nv (ys ++ [d]) + e * 18446744073709551616 ^ (i + 1) = nv (a.take (i + 1)) * x:=fun _ d e h=>by
   rw [nv_snoc,h1,hta,Nat.pow_succ,Nat.add_mul,← hI]
   have:=congrArg (18446744073709551616 ^ i * ·) h
   simp only [Nat.mul_add] at this
   rw [Nat.mul_assoc (18446744073709551616 ^ i) (a.getD i 0) x]
   have e1:e * (18446744073709551616 ^ i * 18446744073709551616) = 18446744073709551616 ^ i * (18446744073709551616 * e):=by ac_rfl
   rw [e1,Nat.mul_comm c]
   omega
  have hle:Unit→a.getD i 0 * x ≤ 18446744073709551615 * 18446744073709551615:=fun _=>Nat.mul_le_mul (by omega) (by omega)
  clear hta hI
  generalize hpx:a.getD i 0 * x = px at *
  repeat' first|(refine gca ?_;first|(refine ca hBo ?_;rintro _ _ ⟨h,l,rfl,rfl,hh,hl,hhl⟩))|(refine slu [_] fun qv hqv=>?_)|(refine apu (v:=o) (l:=ys) (news:=[_]) (fun o2=>?_))|(refine wo ?_;first|(refine ao ?_;first|(refine nao ?_;first|refine nadm ?_)|(refine naou ?_;first|refine nadm ?_)|refine aw ?_|refine oa ?_)|refine lu ?_|refine oa ?_|refine lnm ?_|refine ixmn ?_)|(refine gc ?_;first|(refine ci (fun hB=>?_) (fun hB=>?_) <;> try (exfalso;omega)))|refine sq ?_|refine rg ?_|refine xc ?_|refine nl ?_|refine sk ?_|refine bk ?_|refine xb ?_
  ·have g:=grow_a (hhl ()) (hle ()) hl hc (by omega)
   exact lp ⟨i + 1,(h + 1) % 18446744073709551616,o2,ys ++ [(l + c) % 18446744073709551616]⟩ ⟨⟨by simp [h1],hi,Nat.mod_lt _ (Nat.pos_of_ne_zero (by decide))⟩,hd.snoc (Nat.mod_lt _ (Nat.pos_of_ne_zero (by decide))),pk () _ _ g⟩ (hlt:=by clear g;dsimp only;omega)
  ·have g:=grow_b (hhl ()) hl hc (by omega)
   exact lp ⟨i + 1,h,o2,ys ++ [(l + c) % 18446744073709551616]⟩ ⟨⟨by simp [h1],hi,hh⟩,hd.snoc (Nat.mod_lt _ (Nat.pos_of_ne_zero (by decide))),pk () _ _ g⟩ (hlt:=by clear g;dsimp only;omega)
 ·obtain rfl:i = a.length:=by omega
  rw [List.take_length] at hI
  have hn:nv (ys ++ [c]) = nv a * x:=by rw [nv_snoc,h1,Nat.mul_comm];exact hI
  have hT:=fun v=>RTrim_tr v (ys ++ [c]) (hd.snoc hc) (by simp;omega)
  simp only [hn] at hT
  clear hI hn
  obtain ⟨m,hm⟩ : ∃ m,m = nv a * x:=⟨_,rfl⟩
  simp only [← hm] at hT ⊢
  clear hm
  repeat' first|(refine gca ?_;first|(refine ca (hT _) ?_;rintro o3 _ ⟨ho3,rfl⟩))|(refine slu [_] fun qv hqv=>?_)|(refine apu (v:=o) (l:=ys) (news:=[_]) (fun o2=>?_))|(refine wo ?_;first|(refine ao ?_;first|refine oa ?_)|refine oa ?_|refine lnm ?_)|(refine gc ?_;first|(refine ci (fun hB=>?_) (fun hB=>?_) <;> try (exfalso;omega)))|refine sq ?_|refine rg ?_|refine xc ?_|refine nl ?_|refine xe ?_|refine rt ?_
  exact r1 ⟨ho3,rfl⟩
end Go.Art
namespace Go.Art
open Go Go.Proofs Go.RowKit
theorem bit_val {l:List Nat} (hd:Dg l) (i:Nat):l.getD (i / 64) 0 / 2 ^ (i % 64) % 2 = nv l / 2 ^ i % 2:=by
 have e:nv l / 2 ^ i = nv (l.drop (i / 64)) / 2 ^ (i % 64):=by
  rw [nv_drop_div hd,Nat.div_div_eq_div_mul,pow_W,← Nat.pow_add,show 64 * (i / 64) + i % 64 = i by omega]
 have h0:0 < 2 ^ (i % 64):=Nat.pow_pos (by decide)
 have h1:18446744073709551616 = 2 ^ (i % 64) * (2 * 2 ^ (63 - i % 64)):=by
  rw [← Nat.pow_succ',← Nat.pow_add,show i % 64 + (63 - i % 64 + 1) = 64 by omega]
 rw [e,nv_step l (i / 64)]
 generalize l.getD (i / 64) 0 = x
 generalize nv (l.drop (i / 64 + 1)) = r
 rw [h1,Nat.mul_assoc,Nat.add_mul_div_left _ _ h0,Nat.mul_assoc,Nat.add_mul_mod_self_left]
theorem bit_over {l:List Nat} (hd:Dg l) {i:Nat} (h:l.length ≤ i / 64):nv l / 2 ^ i % 2 = 0:=by
 rw [← bit_val hd,getD_over h];simp
theorem twice_word {x c:Nat} (hx:x < 18446744073709551616) (hc:c ≤ 1):x * 2 ^ (min (Int.toNat 1) 64) % 18446744073709551616 ||| c = x * 2 % 18446744073709551616 + c∧x * 2 % 18446744073709551616 + c < 18446744073709551616∧x * 2 % 18446744073709551616 + c + 18446744073709551616 * (x / 2 ^ (min (Int.toNat 63) 64)) = 2 * x + c:=by
 have e1:min (Int.toNat 1) 64 = 1:=rfl
 have e2:(2:Nat) ^ (min (Int.toNat 63) 64) = 9223372036854775808:=rfl
 have e3:x * 2 % 18446744073709551616 = 2 ^ 1 * (x % 9223372036854775808):=by omega
 rw [e1,e2,Nat.pow_one,e3,or_add (by omega)]
 omega
theorem bit_div (n i:Nat):n / 2 ^ i = 2 * (n / 2 ^ (i + 1)) + n / 2 ^ i % 2:=by
 rw [Nat.pow_succ,← Nat.div_div_eq_div_mul];omega
theorem set_bit {qs:List Nat} (hd:Dg qs) {Q i:Nat} (h:nv qs = Q * 2 ^ (i + 1)) (hi:i / 64 < qs.length) :
  ∃ y,qs.getD (i / 64) 0 ||| 2 ^ (i % 64) = y∧y < 18446744073709551616∧nv (qs.set (i / 64) y) = (2 * Q + 1) * 2 ^ i:=by
 have hx:=hd.getD (i / 64)
 have hdv:nv (qs.drop (i / 64)) = Q * 2 ^ (i % 64 + 1):=by
  rw [nv_drop_div hd,h,pow_W,show i + 1 = (i % 64 + 1) + 64 * (i / 64) by omega,Nat.pow_add,← Nat.mul_assoc,Nat.mul_div_cancel _ (Nat.pow_pos (by decide))]
 have hW:18446744073709551616 = 2 ^ (i % 64 + 1) * 2 ^ (63 - i % 64):=by
  rw [← Nat.pow_add,show i % 64 + 1 + (63 - i % 64) = 64 by omega]
 have hm:qs.getD (i / 64) 0 % 2 ^ (i % 64 + 1) = 0:=by
  have h1:=nv_step qs (i / 64)
  rw [hdv] at h1
  have h2:=congrArg (· % 2 ^ (i % 64 + 1)) h1
  simp only [Nat.mul_mod_left] at h2
  rw [hW,Nat.mul_assoc,Nat.add_mul_mod_self_left] at h2
  exact h2.symm
 obtain ⟨t,ht⟩ : ∃ t,qs.getD (i / 64) 0 = 2 ^ (i % 64 + 1) * t:=⟨qs.getD (i / 64) 0 / 2 ^ (i % 64 + 1),by have:=Nat.div_add_mod (qs.getD (i / 64) 0) (2 ^ (i % 64 + 1));omega⟩
 have hp:2 ^ (i % 64) < 2 ^ (i % 64 + 1):=Nat.pow_lt_pow_right (by decide) (Nat.lt_succ_self _)
 refine ⟨qs.getD (i / 64) 0 + 2 ^ (i % 64),?_,?_,?_⟩
 ·rw [ht,or_add hp]
 ·have h3:2 ^ (i % 64 + 1) * (t + 1) ≤ 18446744073709551616:=by
   rw [hW]
   refine Nat.mul_le_mul_left _ ?_
   refine Nat.lt_of_mul_lt_mul_left (a:=2 ^ (i % 64 + 1)) ?_
   rw [← hW,← ht];exact hx
  rw [Nat.mul_add,Nat.mul_one,← ht] at h3
  omega
 ·have h4:=nv_set qs (i / 64) (qs.getD (i / 64) 0 + 2 ^ (i % 64)) hi
  rw [Nat.mul_add] at h4
  have h5:18446744073709551616 ^ (i / 64) * 2 ^ (i % 64) = 2 ^ i:=by rw [pow_W,← Nat.pow_add,show 64 * (i / 64) + i % 64 = i by omega]
  rw [Nat.add_mul,Nat.one_mul,← h5]
  rw [Nat.pow_succ] at h
  rw [h5] at h4 ⊢
  have h6:2 * Q * 2 ^ i = Q * (2 ^ i * 2):=by ac_rfl
  omega
attribute [local irreducible] Fit pt own ro vw mpc lpt vels rels mow lrc dfr
theorem bit_tr (v:Value) (l:List Nat) (i:Nat) (hd:Dg l) (hi:i ≤ 1099511627776):Tr Tryz.prog 259 [v,I i] [vw v (Us l)] [] fun u D=>u = .bool (decide (nv l / 2 ^ i % 2 = 1))∧D = []:=by
 obtain ⟨q,hq⟩ : ∃ q,q = i / 64:=⟨_,rfl⟩
 obtain ⟨p,hp⟩ : ∃ p,p = i % 64:=⟨_,rfl⟩
 have hqi:(i:Int) / 64 = q:=by omega
 have hpi:(i:Int) % 64 = p:=by omega
 have hbv:=bit_val hd i
 have hbo:=@bit_over l hd i
 rw [← hq,← hp] at hbv
 rw [← hq] at hbo
 obtain ⟨bb,hbb⟩ : ∃ bb,bb = nv l / 2 ^ i % 2:=⟨_,rfl⟩
 rw [← hbb] at hbv hbo ⊢
 have hmp:min ((p:Int)).toNat 64 = p:=by rw [Int.toNat_natCast];exact Nat.min_eq_left (by omega)
 obtain ⟨x,hx⟩ : ∃ x,l.getD q 0 = x:=⟨_,rfl⟩
 obtain ⟨z,hz⟩ : ∃ z,x / 2 ^ p = z:=⟨_,rfl⟩
 have hzz:Unit→x / 2 ^ (min ((p:Int)).toNat 64) = z:=fun _=>by rw [hmp];exact hz
 rw [hx,hz] at hbv
 have hxl:x < 18446744073709551616:=by rw [← hx];exact hd.getD q
 have hzl:z < 18446744073709551616:=by rw [← hz];exact Nat.lt_of_le_of_lt (Nat.div_le_self _ _) hxl
 have hzp:Unit→_:=fun _=>hbv
 clear hmp hz hbb hd hp hbv
 refine Tr.enter env _ Tryz.func259 (by kernel_rfl) rfl Tryz.ntmps259 rfl (by repeat (first | exact has00 | refine has01 ?_)) fun w0=>?_
 refine TC.lenu (v:=v) (l:=l) fun hll=>?_
 repeat' first|(refine adiv ?_;rw [hqi])|(refine amod ?_;rw [hpi])|(refine ntu (m:=(p:Int)) ?_;rw [Int.toNat_natCast])|refine lue hx ?_|refine nsre (hzz ()) ?_|(refine wo ?_;first|(refine ao ?_;first|(refine nao ?_;first|refine nrm ?_)|(refine naou ?_;first|refine nrm ?_)|refine oa ?_)|refine oa ?_|refine lnm ?_|refine ixmn ?_|refine gy ?_|refine gn ?_|(refine gsi (fun hB=>?_) (fun hB=>?_) <;> try (exfalso;omega)))|refine sq ?_|refine rg ?_|refine xc ?_|refine nl ?_|refine rt ?_
 ·have e:=hzp ()
  refine r1 ⟨?_,rfl⟩
  congr 1;exact decide_eq_decide.2 ⟨fun h=>by omega,fun h=>by omega⟩
 ·have e:=hbo (by omega)
  refine r1 ⟨?_,rfl⟩
  rw [decide_eq_false (by omega)]
theorem twice_tr (v:Value) (l:List Nat) (b:Bool) (hd:Dg l) (hlt:2 * nv l + (if b then 1 else 0) < 18446744073709551616 ^ l.length):Tr Tryz.prog 258 [v,.bool b] [] [own T64 v (Us l)] fun _ D=>∃ l',D = [own T64 v (Us l')]∧l'.length = l.length∧Dg l'∧nv l' = 2 * nv l + (if b then 1 else 0):=by
 cases b with
 | true=>
  refine Tr.enter env _ Tryz.func258 (by kernel_rfl) rfl Tryz.ntmps258 rfl (by repeat (first | exact has00 | refine has01 ?_)) fun w0=>?_
  refine TC.lenu (v:=v) (l:=l) fun hll=>?_
  repeat' first|(refine wo ?_;first|refine oa ?_)|(refine gc ?_;first|refine ct ?_)|refine sq ?_|refine rg ?_|refine xc ?_|refine nl ?_|refine bk ?_
  refine TC.loop (ι:=NaG) (fun g=>[(5,I g.i),(4,Un g.c)]) (fun g=>[own T64 v (Us g.ys)]) (fun g=>(g.ys.length = l.length∧g.i ≤ l.length∧g.c ≤ 1)∧Dg g.ys∧(∀ j,g.i ≤ j→g.ys.getD j 0 = l.getD j 0)∧nv (g.ys.take g.i) + g.c * 18446744073709551616 ^ g.i = 2 * nv (l.take g.i) + 1) (fun g=>l.length - g.i) ⟨0,1,nS,l⟩ [0] ⟨⟨rfl,Nat.zero_le _,by dsimp only;omega⟩,hd,fun _ _=>rfl,by simp [nv]⟩ ?_
  rintro ⟨i,c,_,ys⟩ ⟨⟨h1,h2,hc⟩,hdy,hj,hI⟩
  dsimp only at h1 h2 hc hdy hj hI ⊢
  by_cases hi:i < l.length
  ·have hx:=hd.getD i
   have hxe:=hj i (Nat.le_refl _)
   have hta:=nv_take_s l i
   obtain ⟨w1,w2,w3⟩:=twice_word hx hc
   obtain ⟨y,hy⟩ : ∃ y,y = l.getD i 0 * 2 % 18446744073709551616 + c:=⟨_,rfl⟩
   obtain ⟨cz,hcz⟩ : ∃ cz,l.getD i 0 / 2 ^ (min (Int.toNat 63) 64) = cz:=⟨_,rfl⟩
   rw [← hy] at w1 w2 w3
   rw [hcz] at w3
   have pk:Unit→(cz ≤ 1∧nv ((ys.set i y).take (i + 1)) + cz * 18446744073709551616 ^ (i + 1) = 2 * nv (l.take (i + 1)) + 1):=fun _=>by
    refine ⟨by omega,?_⟩
    rw [nv_set_take _ _ _ (by omega),hta,Nat.pow_succ]
    have:=congrArg (18446744073709551616 ^ i * ·) w3
    simp only [Nat.mul_add] at this
    have e1:cz * (18446744073709551616 ^ i * 18446744073709551616) = 18446744073709551616 ^ i * (18446744073709551616 * cz):=by ac_rfl
    have e2:18446744073709551616 ^ i * (2 * l.getD i 0) = 2 * (18446744073709551616 ^ i * l.getD i 0):=by ac_rfl
    rw [e1,Nat.mul_add]
    rw [e2] at this
    rw [Nat.mul_comm c] at hI
    omega
   have q1:=fun (_:Unit)=>w1
   have q2:=fun (_:Unit)=>hcz
   clear hta hI w1 w3 hy hcz
   generalize l.getD i 0 = x at *
   repeat' first|refine lue hxe ?_|refine nsre (q2 ()) ?_|refine nsl ?_|refine nore (q1 ()) ?_ (ha:=Nat.mod_lt _ (Nat.pos_of_ne_zero (by decide)))|(refine wo ?_;first|(refine ao ?_;first|refine aw ?_|refine oa ?_)|refine sou ?_|refine oa ?_|refine lnm ?_|refine ixmn ?_)|(refine gc ?_;first|(refine ci (fun hB=>?_) (fun hB=>?_) <;> try (exfalso;omega)))|refine sq ?_|refine rg ?_|refine xc ?_|refine nl ?_|refine sk ?_|refine bk ?_|refine xb ?_
   exact lp ⟨i + 1,cz,nS,ys.set i y⟩ ⟨⟨by dsimp only;rw [List.length_set];exact h1,hi,(pk ()).1⟩,hdy.set w2,fun j h=>by
    dsimp only at h ⊢
    rw [← hj j (by omega)]
    simp [List.getD_eq_getElem?_getD,show ¬ i = j by omega],(pk ()).2⟩ (hlt:=by clear q1 q2 pk;dsimp only;omega)
  ·obtain rfl:i = l.length:=by omega
   rw [nv_take_all (by omega),nv_take_all (Nat.le_refl _)] at hI
   have hn:nv ys = 2 * nv l + 1:=by
    rcases Nat.eq_zero_or_pos c with h0 | h0
    ·subst h0;omega
    ·obtain rfl:c = 1:=by omega
     have:=hlt
     simp at this
     omega
   clear hI
   repeat' first|(refine wo ?_;first|(refine ao ?_;first|refine oa ?_)|refine oa ?_|refine lnm ?_)|(refine gc ?_;first|(refine ci (fun hB=>?_) (fun hB=>?_) <;> try (exfalso;omega)))|refine sq ?_|refine rg ?_|refine xc ?_|refine nl ?_|refine xe ?_
   exact e0 ⟨ys,rfl,h1,hdy,hn⟩
 | false=>
  refine Tr.enter env _ Tryz.func258 (by kernel_rfl) rfl Tryz.ntmps258 rfl (by repeat (first | exact has00 | refine has01 ?_)) fun w0=>?_
  refine TC.lenu (v:=v) (l:=l) fun hll=>?_
  repeat' first|(refine wo ?_;first|refine oa ?_)|(refine gc ?_;first|refine cf ?_)|refine sq ?_|refine rg ?_|refine xc ?_|refine nl ?_|refine sk ?_|refine bk ?_
  refine TC.loop (ι:=NaG) (fun g=>[(5,I g.i),(4,Un g.c)]) (fun g=>[own T64 v (Us g.ys)]) (fun g=>(g.ys.length = l.length∧g.i ≤ l.length∧g.c ≤ 1)∧Dg g.ys∧(∀ j,g.i ≤ j→g.ys.getD j 0 = l.getD j 0)∧nv (g.ys.take g.i) + g.c * 18446744073709551616 ^ g.i = 2 * nv (l.take g.i) + 0) (fun g=>l.length - g.i) ⟨0,0,nS,l⟩ [0] ⟨⟨rfl,Nat.zero_le _,by dsimp only;omega⟩,hd,fun _ _=>rfl,by simp [nv]⟩ ?_
  rintro ⟨i,c,_,ys⟩ ⟨⟨h1,h2,hc⟩,hdy,hj,hI⟩
  dsimp only at h1 h2 hc hdy hj hI ⊢
  by_cases hi:i < l.length
  ·have hx:=hd.getD i
   have hxe:=hj i (Nat.le_refl _)
   have hta:=nv_take_s l i
   obtain ⟨w1,w2,w3⟩:=twice_word hx hc
   obtain ⟨y,hy⟩ : ∃ y,y = l.getD i 0 * 2 % 18446744073709551616 + c:=⟨_,rfl⟩
   obtain ⟨cz,hcz⟩ : ∃ cz,l.getD i 0 / 2 ^ (min (Int.toNat 63) 64) = cz:=⟨_,rfl⟩
   rw [← hy] at w1 w2 w3
   rw [hcz] at w3
   have pk:Unit→(cz ≤ 1∧nv ((ys.set i y).take (i + 1)) + cz * 18446744073709551616 ^ (i + 1) = 2 * nv (l.take (i + 1)) + 0):=fun _=>by
    refine ⟨by omega,?_⟩
    rw [nv_set_take _ _ _ (by omega),hta,Nat.pow_succ]
    have:=congrArg (18446744073709551616 ^ i * ·) w3
    simp only [Nat.mul_add] at this
    have e1:cz * (18446744073709551616 ^ i * 18446744073709551616) = 18446744073709551616 ^ i * (18446744073709551616 * cz):=by ac_rfl
    have e2:18446744073709551616 ^ i * (2 * l.getD i 0) = 2 * (18446744073709551616 ^ i * l.getD i 0):=by ac_rfl
    rw [e1,Nat.mul_add]
    rw [e2] at this
    rw [Nat.mul_comm c] at hI
    omega
   have q1:=fun (_:Unit)=>w1
   have q2:=fun (_:Unit)=>hcz
   clear hta hI w1 w3 hy hcz
   generalize l.getD i 0 = x at *
   repeat' first|refine lue hxe ?_|refine nsre (q2 ()) ?_|refine nsl ?_|refine nore (q1 ()) ?_ (ha:=Nat.mod_lt _ (Nat.pos_of_ne_zero (by decide)))|(refine wo ?_;first|(refine ao ?_;first|refine aw ?_|refine oa ?_)|refine sou ?_|refine oa ?_|refine lnm ?_|refine ixmn ?_)|(refine gc ?_;first|(refine ci (fun hB=>?_) (fun hB=>?_) <;> try (exfalso;omega)))|refine sq ?_|refine rg ?_|refine xc ?_|refine nl ?_|refine sk ?_|refine bk ?_|refine xb ?_
   exact lp ⟨i + 1,cz,nS,ys.set i y⟩ ⟨⟨by dsimp only;rw [List.length_set];exact h1,hi,(pk ()).1⟩,hdy.set w2,fun j h=>by
    dsimp only at h ⊢
    rw [← hj j (by omega)]
    simp [List.getD_eq_getElem?_getD,show ¬ i = j by omega],(pk ()).2⟩ (hlt:=by clear q1 q2 pk;dsimp only;omega)
  ·obtain rfl:i = l.length:=by omega
   rw [nv_take_all (by omega),nv_take_all (Nat.le_refl _)] at hI
   have hn:nv ys = 2 * nv l + 0:=by
    rcases Nat.eq_zero_or_pos c with h0 | h0
    ·subst h0;omega
    ·obtain rfl:c = 1:=by omega
     have:=hlt
     simp at this
     omega
   clear hI
   repeat' first|(refine wo ?_;first|(refine ao ?_;first|refine oa ?_)|refine oa ?_|refine lnm ?_)|(refine gc ?_;first|(refine ci (fun hB=>?_) (fun hB=>?_) <;> try (exfalso;omega)))|refine sq ?_|refine rg ?_|refine xc ?_|refine nl ?_|refine xe ?_
   exact e0 ⟨ys,rfl,h1,hdy,hn⟩
end Go.Art
namespace Go.Art
open Go Go.Proofs Go.RowKit
theorem nv_zeros (a:List Nat) (k:Nat):nv (a ++ List.replicate k 0) = nv a:=by rw [nv_app,nv_rep,Nat.mul_zero,Nat.add_zero]
theorem zero_step (l:List Nat) {i:Nat} (h:i < l.length):(List.replicate i 0 ++ l.drop i).set i 0 = List.replicate (i + 1) 0 ++ l.drop (i + 1):=by
 rw [List.set_append_right _ _ (by simp),List.length_replicate,Nat.sub_self,List.drop_eq_getElem_cons h,List.set_cons_zero,List.replicate_succ',List.append_assoc]
 rfl
theorem Bt_lt {a b x y:Nat} (ha:Bt a x) (hb:Bt b y) (h:x < y):a < b:=by
 rcases hb.2 with h0 | h0
 ·omega
 ·exact Nat.lt_of_lt_of_le ha.1 (Nat.le_trans (Nat.pow_le_pow_right (by decide) (by omega)) h0)
theorem Bt_first {a b x y:Nat} (ha:Bt a x) (hb:Bt b y) (h:y ≤ x) (h0:b ≠ 0):a / 2 ^ (x - y + 1) < b:=by
 have hy:y ≠ 0:=fun e=>by subst e;have:=hb.1;simp at this;exact h0 this
 have h1:=hb.2.resolve_left hy
 refine Nat.lt_of_lt_of_le ?_ h1
 refine Nat.div_lt_of_lt_mul ?_
 rw [← Nat.pow_add,show x - y + 1 + (y - 1) = x by omega]
 exact ha.1
theorem bit_if (n:Nat):(if decide (n % 2 = 1) = true then 1 else 0) = n % 2:=by
 rcases Nat.mod_two_eq_zero_or_one n with h | h
 ·rw [h];rfl
 ·rw [h];rfl
theorem div_round {na nb i Q r:Nat} (hE:na / 2 ^ (i + 1) = Q * nb + r):na / 2 ^ i = 2 * Q * nb + (2 * r + na / 2 ^ i % 2):=by
 have:=bit_div na i
 rw [hE,Nat.mul_add] at this
 rw [Nat.mul_assoc]
 omega
theorem div_less {na nb i Q r:Nat} (hE:na / 2 ^ i = 2 * Q * nb + r) (h:nb ≤ r):na / 2 ^ i = (2 * Q + 1) * nb + (r - nb):=by
 rw [Nat.add_mul,Nat.one_mul];omega
theorem div_end {na nb Q r:Nat} (hE:na = Q * nb + r) (h:r < nb):Q = na / nb∧r = na % nb:=by
 have h0:0 < nb:=by omega
 rw [hE,Nat.mul_comm Q,Nat.mul_add_div h0,Nat.mul_add_mod,Nat.div_eq_of_lt h,Nat.mod_eq_of_lt h]
 exact ⟨rfl,rfl⟩
structure DvG where
 j:Nat
 qs:List Nat
 rs:List Nat
 Q:Nat
section
variable {P:Program} {E:Env P} {n:Sh} {X:Cx} {s:List K} {fr:Fr} {A:List Ch} {ops:Array Oper} {rest:List Oper} {d:Nat} {ty t t':TypeId} {pos:String} {after:Array Edge} {x:Operand}
theorem glo (h:TO E n X s ops (⟨some d,.load t x,ty,pos,after,none⟩ :: rest) fr A):TO E n X s ops (⟨some d,.load t x,ty,pos,after,none⟩ :: rest) fr A:=h
theorem gcv (h:TO E n X s ops (⟨some d,.convert t t' x,ty,pos,after,none⟩ :: rest) fr A):TO E n X s ops (⟨some d,.convert t t' x,ty,pos,after,none⟩ :: rest) fr A:=h
end
attribute [local irreducible] Fit pt own ro vw mpc lpt vels rels mow lrc dfr
theorem less3_tr (v1 v2:Value) (a b:List Nat) (ha:Dg a) (hb:Dg b) (hla:a.length ≤ 1099511627776) (hle:nv b ≤ nv a):Tr Tryz.prog 260 [v1,v2] [vw v2 (Us b)] [own T64 v1 (Us a)] fun _ D=>∃ l',D = [own T64 v1 (Us l')]∧l'.length = a.length∧Dg l'∧nv l' = nv a - nv b:=by
 have hS:=RSub_tr v1 v2 a b ha hb hla hle
 have hdl:(dg (nv a - nv b)).length ≤ a.length:=Nat.le_trans (dg_mono (Nat.sub_le _ _)) (dg_len_le ha)
 obtain ⟨d,hd⟩ : ∃ d,d = nv a - nv b:=⟨_,rfl⟩
 rw [← hd] at hS hdl ⊢
 refine Tr.enter env _ Tryz.func260 (by kernel_rfl) rfl Tryz.ntmps260 rfl (by repeat (first | exact has00 | refine has01 ?_)) fun w0=>?_
 refine TC.lenu (v:=v1) (l:=a) fun hll=>?_
 repeat' first|(refine gca ?_;first|(refine ca hS ?_;rintro _ _ ⟨o,rfl,ho,rfl⟩))|(refine wo ?_;first|refine oa ?_)|refine sq ?_|refine rg ?_|refine xc ?_|refine nl ?_|refine bk ?_
 refine TC.loop (ι:=Nat) (fun i=>[(6,I i)]) (fun i=>[own T64 v1 (Us (List.replicate i 0 ++ a.drop i))]) (fun i=>i ≤ a.length) (fun i=>a.length - i) 0 [0,4] (Nat.zero_le _) ?_ (hf:=by rw [List.replicate_zero,List.nil_append,List.drop_zero];exact fitA)
 intro i hi
 have hlen:(List.replicate i 0 ++ a.drop i).length = a.length:=by rw [List.length_append,List.length_replicate,List.length_drop];omega
 by_cases hlt:i < a.length
 ·have hz:=zero_step a hlt
  generalize List.replicate i 0 ++ a.drop i = ys at *
  repeat' first|refine sou (l:=ys) (a:=0) (j:=i) ?_|(refine wo ?_;first|(refine ao ?_;first|refine aw ?_|refine oa ?_)|refine oa ?_|refine lnm ?_|refine ixmn ?_)|(refine gc ?_;first|(refine ci (fun hB=>?_) (fun hB=>?_) <;> try (exfalso;omega)))|refine sq ?_|refine rg ?_|refine xc ?_|refine nl ?_|refine sk ?_|refine bk ?_|refine xb ?_
  exact lp (i + 1) hlt (hf:=by rw [← hz];exact fitA)
 ·obtain rfl:i = a.length:=by omega
  rw [List.drop_length,List.append_nil]
  obtain ⟨zs,hzs⟩ : ∃ zs,zs = List.replicate a.length 0:=⟨_,rfl⟩
  have hzl:zs.length = a.length:=by rw [hzs,List.length_replicate]
  have hfin:Unit→((dg d ++ zs.drop (dg d).length).length = a.length∧Dg (dg d ++ zs.drop (dg d).length)∧nv (dg d ++ zs.drop (dg d).length) = d):=fun _=>by
   refine ⟨by rw [List.length_append,List.length_drop];omega,(Dg_dg d).app ((by rw [hzs];exact Dg.rep _:Dg zs).drop _),?_⟩
   rw [hzs,List.drop_replicate,nv_zeros,nv_dg]
  rw [← hzs]
  clear hzs hlen
  repeat' first|refine cpf (v:=v1) (u:=o) (xs:=Us zs) (cs:=Us (dg d)) ?_ (hk:=by rw [Us_len,Us_len,hzl];exact hdl) (h1:=Us_one _)|(refine wo ?_;first|(refine ao ?_;first|refine oa ?_)|refine oa ?_|refine lnm ?_)|(refine gc ?_;first|(refine ci (fun hB=>?_) (fun hB=>?_) <;> try (exfalso;omega)))|refine sq ?_|refine rg ?_|refine xc ?_|refine nl ?_|refine xe ?_
  rw [Us_len,Us_drop,← Us_app]
  exact e0 ⟨_,rfl,(hfin ()).1,(hfin ()).2.1,(hfin ()).2.2⟩
set_option maxHeartbeats 4000000 in
theorem RDiv_tr (va vb:Value) (a b:List Nat) (ha:Dg a) (hb:Dg b) (hla:64 * a.length ≤ 16777216) (hlb:64 * b.length ≤ 16777216) (hb0:nv b ≠ 0):Tr Tryz.prog 209 [va,vb] [vw va (Us a),vw vb (Us b)] [] (DivR (nv a) (nv b)):=by
 have hTb:=RTrim_tr vb b hb (by omega)
 have hTa:=RTrim_tr va a ha (by omega)
 have hLa:=RLen_tr va a ha (by omega)
 have hbl:=dg_len_le hb
 have hLb:=fun v=>RLen_tr v (dg (nv b)) (Dg_dg _) (by omega)
 have hdb:=dg_len_pos hb0
 simp only [nv_dg] at hLb
 unfold DivR
 obtain ⟨nb,hnb⟩ : ∃ nb,nb = nv b:=⟨_,rfl⟩
 obtain ⟨na,hna⟩ : ∃ na,na = nv a:=⟨_,rfl⟩
 simp only [← hnb] at hTb hLb hbl hdb hb0 ⊢
 simp only [← hna] at hTa hLa ⊢
 refine Tr.enter env _ Tryz.func209 (by kernel_rfl) rfl Tryz.ntmps209 rfl (by repeat (first | exact has00 | refine has01 ?_)) fun w0=>?_
 refine TC.lenu (v:=va) (l:=a) fun hll=>?_
 repeat' first|(refine gca ?_;first|(refine ca hTb ?_;rintro bv _ ⟨hbv,rfl⟩)|(refine ca hLa ?_;rintro _ _ ⟨la,rfl,ba,lla,rfl⟩)|(refine ca (hLb bv) ?_;rintro _ _ ⟨lb,rfl,bb,llb,rfl⟩)|(refine ca hTa ?_;rintro rv _ ⟨hrv,rfl⟩))|(refine wo ?_;first|(refine ao ?_;first|refine aw ?_|refine oa ?_)|refine oa ?_|refine lnm ?_)|(refine gc ?_;first|(refine ci (fun hB=>?_) (fun hB=>?_) <;> try (exfalso;omega)))|refine sq ?_|refine rg ?_|refine xc ?_|refine nl ?_|refine sk ?_|refine rt ?_
 ·have hlt:=Bt_lt ba bb (by omega)
  rw [Nat.div_eq_of_lt hlt,Nat.mod_eq_of_lt hlt,dg_zero]
  refine TX.im (own_nil T64 _) ?_
  exact r3 ⟨nS,rv,rfl,rfl,hrv,rfl⟩
 obtain ⟨f,hf⟩ : ∃ f:Nat,f = la - lb:=⟨_,rfl⟩
 have hfi:(la:Int) - lb = f:=by omega
 rw [hfi]
 have h1st:=Bt_first ba bb (by omega) hb0
 rw [← hf] at h1st
 have hlb1:1 ≤ lb:=by
  rcases Nat.eq_zero_or_pos lb with h | h
  ·subst h;have:=bb.1;simp at this;omega
  ·exact h
 have hDn:=RDown_tr va a (f + 1) (by omega) ha (by omega)
 rw [← hna,show ((f + 1:Nat):Int) = (f:Int) + 1 by omega] at hDn
 have hfl:f < 64 * a.length:=by omega
 obtain ⟨c,hc⟩ : ∃ c,c = na / 2 ^ (f + 1):=⟨_,rfl⟩
 rw [← hc] at hDn h1st
 have hcl:(dg c).length ≤ (dg nb).length:=dg_mono (Nat.le_of_lt h1st)
 have pkc:=fun (_:Unit)=>hc
 have pkn:Unit→nb < 18446744073709551616 ^ (dg nb).length:=fun _=>(dg_len nb _).1 (Nat.le_refl _)
 clear hc hf hfi bb ba llb lla hTa hLa hLb hTb
 refine cutK (ι:=Value × Value) (fun i=>i.1.oneCell' = true∧i.2.oneCell' = true) (fun i=>[(0,va),(1,bv),(7,I f),(8,i.1),(9,i.2)]) (fun i=>[own T64 i.1 (Us (List.replicate a.length 0)),own T64 i.2 (Us (List.replicate ((dg nb).length + 1) 0)),own T64 bv (Us (dg nb)),vw va (Us a)]) ?_ (fun kb=>?_)
 rotate_left
 ·skip
  refine rs (fun w=>Sl w va (Us a)∧Sl w bv (Us (dg nb))) ?_ (fun w hw=>⟨has_sl (xs:=Us a) hw hasA,has_sl (xs:=Us (dg nb)) hw hasA⟩)
  refine tka 0 ?_
  refine tke 1 (v:=I a.length) (by rw [Us_len]) (fun w h=>R_len (E:=env) (xs:=Us a) rfl rfl h.1) ?_
  refine tka 3 ?_
  refine tke 4 (v:=I (dg nb).length) (by rw [Us_len]) (fun w h=>R_len (E:=env) (xs:=Us (dg nb)) rfl rfl h.2) ?_
  refine tkw 5 (((dg nb).length + 1:Nat):Int) ?_
  refine t2 2 6 ?_ ?_
  ·refine mku (m:=(a.length:Int)) (fun qv=>?_)
   rw [Int.toNat_natCast]
   refine TO.one (v:=qv) (xs:=Us (List.replicate a.length 0)) fun hqv=>?_
   refine nl ?_
   refine te (fun w hw=>⟨has_sl (xs:=Us a) hw hasA,has_sl (xs:=Us (dg nb)) hw hasA⟩) ?_
   refine tka 7 ?_
   refine t1 6 ?_
   refine mku (m:=(((dg nb).length + 1:Nat):Int)) (fun rv=>?_)
   rw [Int.toNat_natCast]
   refine TO.one (v:=rv) (xs:=Us (List.replicate ((dg nb).length + 1) 0)) fun hrv=>?_
   refine nl ?_
   refine te (fun w hw=>⟨has_sl (xs:=Us a) hw hasA,has_sl (xs:=Us (dg nb)) hw hasA⟩) ?_
   refine tka 8 ?_
   refine t0 ?_
   refine xc ?_
   exact kb (qv,rv) ⟨hqv,hrv⟩ _ _ (by (repeat (refine Sub.cons rfl (by first | rfl | go_num) ?_));exact Sub.nil) fitA
  ·refine mku (m:=(((dg nb).length + 1:Nat):Int)) (fun rv=>?_)
   rw [Int.toNat_natCast]
   refine TO.one (v:=rv) (xs:=Us (List.replicate ((dg nb).length + 1) 0)) fun hrv=>?_
   refine nl ?_
   refine te (fun w hw=>⟨has_sl (xs:=Us a) hw hasA,has_sl (xs:=Us (dg nb)) hw hasA⟩) ?_
   refine t1 2 ?_
   refine mku (m:=(a.length:Int)) (fun qv=>?_)
   rw [Int.toNat_natCast]
   refine TO.one (v:=qv) (xs:=Us (List.replicate a.length 0)) fun hqv=>?_
   refine nl ?_
   refine te (fun w hw=>⟨has_sl (xs:=Us a) hw hasA,has_sl (xs:=Us (dg nb)) hw hasA⟩) ?_
   refine tka 7 ?_
   refine tka 8 ?_
   refine t0 ?_
   refine xc ?_
   exact kb (qv,rv) ⟨hqv,hrv⟩ _ _ (by (repeat (refine Sub.cons rfl (by first | rfl | go_num) ?_));exact Sub.nil) fitA
 rintro ⟨qv,rv⟩ ⟨hqv,hrv⟩
 dsimp only at hqv hrv ⊢
 obtain ⟨zs,hzs⟩ : ∃ zs,zs = List.replicate ((dg nb).length + 1) 0:=⟨_,rfl⟩
 have hzl:zs.length = (dg nb).length + 1:=by rw [hzs,List.length_replicate]
 have hzD:Dg zs:=by rw [hzs];exact Dg.rep _
 have hz0:Unit→nv (dg c ++ zs.drop (dg c).length) = c:=fun _=>by rw [hzs,List.drop_replicate,nv_zeros,nv_dg]
 rw [← hzs]
 clear hzs
 repeat' first|(refine gca ?_;first|(refine ca hDn ?_;rintro _ _ ⟨cv,rfl,hcv,rfl⟩))|(refine cpf (v:=rv) (u:=cv) (xs:=Us zs) (cs:=Us (dg c)) ?_ (hk:=by rw [Us_len,Us_len,hzl];omega) (h1:=Us_one _);rw [Us_len,Us_drop,← Us_app])|(refine wo ?_;first|(refine ao ?_;first|refine aw ?_)|refine oa ?_)|refine sq ?_|refine rg ?_|refine xc ?_|refine nl ?_|refine bk ?_
 have hcz:(dg c ++ zs.drop (dg c).length).length = (dg nb).length + 1:=by rw [List.length_append,List.length_drop];omega
 refine TC.loop (ι:=DvG) (fun g=>[(12,I ((g.j:Int) - 1))]) (fun g=>[own T64 qv (Us g.qs),own T64 rv (Us g.rs)]) (fun g=>(g.j ≤ f + 1∧g.qs.length = a.length∧g.rs.length = (dg nb).length + 1)∧(Dg g.qs∧Dg g.rs)∧nv g.qs = g.Q * 2 ^ g.j∧na / 2 ^ g.j = g.Q * nb + nv g.rs∧nv g.rs < nb) (fun g=>g.j)
  ⟨f + 1,List.replicate a.length 0,dg c ++ zs.drop (dg c).length,0⟩ [0,1,8,9] ⟨⟨Nat.le_refl _,by simp,hcz⟩,⟨Dg.rep _,(Dg_dg c).app (hzD.drop _)⟩,by dsimp only;rw [nv_rep,Nat.zero_mul],by dsimp only;rw [hz0 (),Nat.zero_mul,Nat.zero_add];exact (pkc ()).symm,by dsimp only;rw [hz0 ()];exact h1st⟩ ?_ (hs:=by dsimp only;rw [show ((f + 1:Nat):Int) - 1 = (f:Int) by omega];(repeat (refine Sub.cons rfl (by first | rfl | go_num) ?_));exact Sub.nil)
 clear hz0 pkc hcz hzD hzl hcl h1st hDn
 rintro ⟨j,qs,rs,Q⟩ ⟨⟨h1,h2,h3⟩,⟨hdq,hdr⟩,hI,hE,hR⟩
 dsimp only at h1 h2 h3 hdq hdr hI hE hR ⊢
 rcases Nat.eq_zero_or_pos j with hj | hj
 ·subst hj
  rw [Nat.pow_zero,Nat.mul_one] at hI
  rw [Nat.pow_zero,Nat.div_one] at hE
  obtain ⟨k1,k2⟩:=div_end hE hR
  have hT1:=RTrim_tr qv qs hdq (by omega)
  have hT2:=RTrim_tr rv rs hdr (by omega)
  rw [hI,k1] at hT1
  rw [k2] at hT2
  clear hI hE k1 k2
  repeat' first|(refine gca ?_;first|(refine ca hT1 ?_;rintro q3 _ ⟨hq3,rfl⟩)|(refine ca hT2 ?_;rintro r3' _ ⟨hr3,rfl⟩))|(refine wo ?_;first|(refine ao ?_;first|refine oa ?_)|refine oa ?_)|(refine gc ?_;first|refine cf ?_)|refine sq ?_|refine rg ?_|refine xc ?_|refine nl ?_|refine xe ?_|refine rt ?_
  exact r3 ⟨q3,r3',rfl,hq3,hr3,rfl⟩
 obtain ⟨i,rfl⟩ : ∃ i,j = i + 1:=⟨j - 1,by omega⟩
 have hii:((i + 1:Nat):Int) - 1 = (i:Int):=by omega
 rw [hii]
 have hBt:=bit_tr va a i ha (by omega)
 rw [← hna] at hBt
 have hE2:=div_round hE
 obtain ⟨bt,hbt⟩ : ∃ bt,bt = na / 2 ^ i % 2:=⟨_,rfl⟩
 have hb2:bt ≤ 1:=by rw [hbt];omega
 have hTw:=twice_tr rv rs (decide (bt = 1)) hdr (by
  rw [hbt,bit_if,h3,Nat.pow_succ]
  have:=pkn ()
  omega)
 have hif:(if decide (bt = 1) = true then 1 else 0) = bt:=by rw [hbt];exact bit_if _
 rw [hif] at hTw
 rw [← hbt] at hBt hE2
 obtain ⟨y,hy1,hy2,hy3⟩:=set_bit hdq hI (i:=i) (by omega)
 have hqi:(i:Int) / 64 = ((i / 64:Nat):Int):=by omega
 have hpi:(i:Int) % 64 = ((i % 64:Nat):Int):=by omega
 obtain ⟨q0,hq0⟩ : ∃ q0,q0 = i / 64:=⟨_,rfl⟩
 obtain ⟨p0,hp0⟩ : ∃ p0,p0 = i % 64:=⟨_,rfl⟩
 rw [← hq0] at hqi hy1 hy3
 rw [← hp0] at hpi hy1
 have hp63:p0 < 64:=by omega
 have hq0l:q0 < qs.length:=by omega
 obtain ⟨pw,hpw⟩ : ∃ pw,pw = 2 ^ p0:=⟨_,rfl⟩
 have hpwl:pw < 18446744073709551616:=by
  have:=Nat.pow_lt_pow_right (a:=2) (by decide) hp63
  rw [← hpw] at this
  exact Nat.lt_of_lt_of_eq this rfl
 have hpw2:Unit→1 * 2 ^ (min ((p0:Int)).toNat 64) % 18446744073709551616 = pw:=fun _=>by
  rw [Int.toNat_natCast,Nat.min_eq_left (by omega),Nat.one_mul,← hpw,Nat.mod_eq_of_lt hpwl]
 rw [← hpw] at hy1
 have hx:=hdq.getD q0
 obtain ⟨x,hxe⟩ : ∃ x,qs.getD q0 0 = x:=⟨_,rfl⟩
 rw [hxe] at hy1 hx
 have py1:=fun (_:Unit)=>hy1
 have py3:=fun (_:Unit)=>hy3
 have pI:Unit→nv qs = 2 * Q * 2 ^ i:=fun _=>by rw [hI,Nat.pow_succ];ac_rfl
 have pE2:=fun (_:Unit)=>hE2
 have hrl:rs.length ≤ 1099511627776:=by omega
 have pF:Unit→(i ≤ f + 1∧qs.length = a.length∧rs.length = (dg nb).length + 1):=fun _=>⟨by omega,h2,h3⟩
 have hi40:i ≤ 1099511627776:=by omega
 have pR:Unit→(nv rs < nb∧bt ≤ 1):=fun _=>⟨hR,hb2⟩
 clear hy1 hy3 hI hE hE2 hpw hbt hif hii hq0 hp0 hll hla hlb hbl hdb hb0 hlb1 hfl h1 h2 h3 hj hnb hna hR hb2 pkn
 by_cases hge:nb ≤ 2 * nv rs + bt
 ·have pE3:Unit→_:=fun _=>div_less (pE2 ()) hge
  have hcm:∀ rs2,nv rs2 = 2 * nv rs + bt→¬ cmpN (nv rs2) (nv (dg nb)) < 0:=fun rs2 h=>by rw [cmpN_lt,h,nv_dg];omega
  repeat' first|(refine gca ?_;first|(refine ca hBt ?_;rintro _ _ ⟨rfl,rfl⟩)|(refine ca hTw ?_;rintro _ _ ⟨rs2,rfl,hl2,hd2,hn2⟩)|(refine ca (RCmp_tr rv bv rs2 (dg nb) hd2 (Dg_dg _)) ?_;rintro _ _ ⟨rfl,rfl⟩;have hc2:=hcm rs2 hn2;generalize cmpN (nv rs2) (nv (dg nb)) = cm at hc2 ⊢)|(refine ca (less3_tr rv bv rs2 (dg nb) hd2 (Dg_dg _) (by omega) (by rw [hn2,nv_dg];exact hge)) ?_;rintro _ _ ⟨rs3,rfl,hl3,hd3,hn3⟩))|(refine ao ?_;first | (refine adiv ?_;rw [hqi]) | (refine amod ?_;rw [hpi]))|(refine gcv ?_;refine ntu (m:=(p0:Int)) ?_;rw [Int.toNat_natCast])|(refine glo ?_;refine lue hxe ?_)|(refine nao ?_;first | refine nsle (hpw2 ()) ?_ | refine nore (py1 ()) ?_)|(refine wo ?_;first|(refine ao ?_;first|refine aw ?_|refine oa ?_)|refine sou ?_|refine oa ?_|refine ixmn ?_)|(refine gc ?_;first|refine ct ?_|(refine ci (fun hB=>?_) (fun hB=>?_) <;> try (exfalso;omega)))|refine sq ?_|refine rg ?_|refine xc ?_|refine nl ?_|refine sk ?_|refine bk ?_|refine xb ?_
  exact lp ⟨i,qs.set q0 y,rs3,2 * Q + 1⟩ ⟨⟨(pF ()).1,by dsimp only;rw [List.length_set];exact (pF ()).2.1,by dsimp only;rw [hl3,hl2];exact (pF ()).2.2⟩,⟨hdq.set hy2,hd3⟩,py3 (),by dsimp only;rw [hn3,hn2,nv_dg];exact pE3 (),by dsimp only;rw [hn3,hn2,nv_dg];have:=pR ();omega⟩ (hlt:=by dsimp only;omega)
 ·have hcm:∀ rs2,nv rs2 = 2 * nv rs + bt→cmpN (nv rs2) (nv (dg nb)) < 0:=fun rs2 h=>by rw [cmpN_lt,h,nv_dg];omega
  repeat' first|(refine gca ?_;first|(refine ca hBt ?_;rintro _ _ ⟨rfl,rfl⟩)|(refine ca hTw ?_;rintro _ _ ⟨rs2,rfl,hl2,hd2,hn2⟩)|(refine ca (RCmp_tr rv bv rs2 (dg nb) hd2 (Dg_dg _)) ?_;rintro _ _ ⟨rfl,rfl⟩;have hc2:=hcm rs2 hn2;generalize cmpN (nv rs2) (nv (dg nb)) = cm at hc2 ⊢))|(refine wo ?_;first|(refine ao ?_;first|refine aw ?_|refine oa ?_)|refine oa ?_)|(refine gc ?_;first|refine ct ?_|(refine ci (fun hB=>?_) (fun hB=>?_) <;> try (exfalso;omega)))|refine sq ?_|refine rg ?_|refine xc ?_|refine nl ?_|refine sk ?_|refine bk ?_|refine xb ?_
  exact lp ⟨i,qs,rs2,2 * Q⟩ ⟨⟨(pF ()).1,(pF ()).2.1,by dsimp only;rw [hl2];exact (pF ()).2.2⟩,⟨hdq,hd2⟩,pI (),by dsimp only;rw [hn2];exact pE2 (),by dsimp only;rw [hn2];have:=pR ();omega⟩ (hlt:=by dsimp only;omega)
end Go.Art
namespace Go.Art
open Go Go.Proofs Go.RowKit
def setPartsF (pf:Nat→Option (Nat × Nat)):List Value→List (Nat × Value)→Option (List Value)
 | cs,[]=>some cs
 | cs,(i,v) :: r=>match pf i with
  | some (off,sz)=>bif Nat.beq v.cells.size sz && Nat.ble (off + sz) cs.length then setPartsF pf (cs.take off ++ v.cells.toList ++ cs.drop (off + sz)) r else none
  | none=>none
theorem fill_partsF {pf:Nat→Option (Nat × Nat)}:∀ {vs:List (Nat × Value)} {cs cs':List Value},setPartsF pf cs vs = some cs'→Instr.fill pf cs.toArray vs = some cs'.toArray
 | [],cs,cs',h=>by simp [setPartsF] at h;simp [Instr.fill,h]
 | (i,v) :: r,cs,cs',h=>by
  simp only [setPartsF] at h
  cases hp:pf i with
  | none=>rw [hp] at h;cases h
  | some q=>
   obtain ⟨off,sz⟩:=q
   rw [hp] at h
   simp only at h
   by_cases hc:(Nat.beq v.cells.size sz && Nat.ble (off + sz) cs.length) = true
   ·rw [hc,cond_true] at h
    simp only [Bool.and_eq_true] at hc
    have h1:=Nat.eq_of_beq_eq_true hc.1
    have h2:=Nat.le_of_ble_eq_true hc.2
    simp only [Instr.fill,hp]
    have hx1:¬ ((decide (v.cells.size ≠ sz) || decide (off + v.cells.size > cs.toArray.size)) = true):=by simp [h1];omega
    rw [if_neg hx1]
    have hf:(v.cells.zipIdx.foldl (fun cs (x:Value × Nat)=>cs.setIfInBounds (off + x.2) x.1) cs.toArray) = (cs.take off ++ v.cells.toList ++ cs.drop (off + sz)).toArray:=by
     have:=foldl_set v.cells.toList off 0 cs.toArray (by simp;omega)
     simp only [Nat.add_zero] at this
     rw [← Array.foldl_toList,Array.toList_zipIdx,this]
     simp [h1]
    show Instr.fill _ (v.cells.zipIdx.foldl (fun cs (x:Value × Nat)=>cs.setIfInBounds (off + x.2) x.1) cs.toArray) r = _
    rw [hf]
    exact fill_partsF h
   ·have:(Nat.beq v.cells.size sz && Nat.ble (off + sz) cs.length) = false:=by simpa only [Bool.not_eq_true] using hc
    rw [this,cond_false] at h;cases h
section
variable {P:Program} {E:Env P} {n:Sh} {X:Cx} {s:List K} {fr:Fr} {A A':List Ch} {ops:Array Oper} {rest:List Oper} {d m sz sz1 by_ by1:Nat} {ty t t' el:TypeId} {pos:String} {after:Array Edge} {x y:Operand} {w:World} {cs zs vs:List Value} {v z:Value} {parts:List (Nat × Operand)} {ps:List (Nat × Value)} {dt:TypeDesc} {i:Int} {k1:IntKind}
theorem R_buildArr (ht:lk E.und t = some (.array m el)) (he:lk E.inf t = some (.agg zs.toArray,sz,by_)) (h1:lk E.inf el = some (z,sz1,by1)) (hv:evps fr parts = some ps) (hs:setPartsF (fun i=>some (i * sz1,sz1)) zs ps = some cs):OpV P n fr (.build t parts.toArray) ty w (.agg cs.toArray) w:=⟨fun a ha _ _ _ _=>by
 obtain ⟨inf,hi,hz,_,_⟩:=E.info he
 obtain ⟨inf1,hi1,_,hz1,_⟩:=E.info h1
 have h2:=ha.evps hv
 have h3:=fill_partsF hs
 have hb:(Instr.build t (ps.toArray)).run P w = .ok (.agg cs.toArray) w:=by
  unfold Instr.build
  simp [zeroValue,typeInfo,run_underlying (P:=P) (E.un ht),hi,hz,Value.cells,sizeOf,hi1,hz1,h3]
 simp only [execOp]
 show Sem.run P (do let v ← Instr.build t ((parts.toArray.map fun (p:Nat × Operand)=>(p.1,a.eval p.2)));pure (Next.value v)) w = _
 rw [List.map_toArray,h2]
 simp [hb]⟩
theorem R_index1 (ht:lk E.und t = some (.array m el)) (hdt:lk E.und el = some dt) (hg:aggB dt = false) (h1:lk E.inf el = some (z,1,by1)) (hx:ev fr x = some (.agg cs.toArray)) (hy:ev fr y = some (.int k1 i)) (hi:0 ≤ i∧i < m) (hv:cs[i.toNat]? = some v) :
  OpV P n fr (.index t x y) ty w v w:=⟨fun a ha _ _ _ _=>by
 obtain ⟨inf1,hi1,_,hz1,_⟩:=E.info h1
 simp only [execOp,ha.ev hx,ha.ev hy]
 simp [Instr.index,asIntOf,run_underlying (P:=P) (E.un ht),hi,part,aggB_run (w:=w) hdt hg,sizeOf,typeInfo,hi1,hz1,hv]⟩
theorem bda (k:TO E n X s ops rest ((d,.agg cs.toArray) :: fr) A) (hv:evps fr parts = some ps:=by rfl) (ht:lk E.und t = some (.array m el):=by rfl) (he:lk E.inf t = some (.agg zs.toArray,sz,by_):=by rfl) (h1:lk E.inf el = some (z,sz1,by1):=by rfl)
  (hs:setPartsF (fun i=>some (i * sz1,sz1)) zs ps = some cs:=by rfl) (hd:Nat.blt d n.n = true:=by rfl):TO E n X s ops (⟨some d,.build t parts.toArray,ty,pos,after,none⟩ :: rest) fr A:=TO.val (fun _ _=>R_buildArr ht he h1 hv hs) k hd
end
section
variable {P:Program} {E:Env P} {n:Sh} {X:Cx} {s:List K} {fr:Fr} {A:List Ch} {ops:Array Oper} {rest:List Oper} {d:Nat} {ty:TypeId} {pos:String} {after:Array Edge} {v:Value} {f:FuncId} {g:Operand} {cap:Array Value} {args:List Operand} {ats:Array TypeId} {vs:List Value} {pre:List Ch} {R:Value→List Ch→Prop}
end
end Go.Art
namespace Go.Art
open Go Go.Proofs
def renSort:Shelf.Ren:=
{
 f:=fun x=>
  match x with
  | 189=>192
  | 125=>238
  | 257=>237
  | 128=>286
  | 129=>186
  | 294=>277
  | 295=>278
  | 296=>279
  | 297=>280
  | 298=>281
  | 299=>282
  | 216=>283
  | 300=>284
  | 301=>285
  | 328=>293
  | 329=>294
  | 330=>295
  | 331=>296
  | 332=>297
  | 215=>298
  | 343=>299
  | n=>n,
 t:=fun x=>
  match x with
  | 28=>22
  | 3=>3
  | 46=>230
  | 0=>0
  | 51=>267
  | 53=>145
  | 4=>4
  | 183=>262
  | 182=>261
  | 131=>241
  | 5=>5
  | 9=>9
  | 218=>272
  | 222=>276
  | 228=>278
  | 229=>279
  | n=>n,
 g:=fun x=>
  have n:=x;
  n }
open Go Go.Proofs Go.RowKit
def srt (xs:List Int):List Int:=xs.mergeSort fun x y=>decide (x ≤ y)
open Go Go.Proofs Go.RowKit
open Go.ChangeMaps (setBlock)
def lmp (b:Nat) (f:Int→Option Value):Ch where
 wr:=fun _=>False
 rd:=fun _=>False
 bd:=fun x=>x = b
 P:=fun w=>MapF w b f
 loc:=fun {w w'} h hb=>by obtain ⟨es,c,h1,h2⟩:=h.ex;exact ⟨es,c,(hb b (.inr (.inr rfl))).trans h1,h2⟩
 lt:=fun h hb=>by rcases hb with hb | hb | rfl;exact hb.elim;exact hb.elim;exact h.lt
def lme (b:Nat) (es:Array MapEntry) (c:Nat):Ch where
 wr:=fun _=>False
 rd:=fun _=>False
 bd:=fun x=>x = b
 P:=fun w=>w.heap[b]? = some (.map es c)
 loc:=fun h hb=>(hb b (.inr (.inr rfl))).trans h
 lt:=fun h hb=>by rcases hb with hb | hb | rfl;exact hb.elim;exact hb.elim;exact lt_of_heap h
def mit (r b since:Nat) (seen:Array Nat) (c:Nat):Ch where
 wr:=fun x=>x = r
 rd:=fun _=>False
 bd:=fun _=>False
 P:=fun w=>w.heap[r]? = some (.mapIter (some b) since seen c)
 loc:=fun h hb=>(hb r (.inl rfl)).trans h
 lt:=fun h hb=>by rcases hb with rfl | hb | hb;exact lt_of_heap h;exact hb.elim;exact hb.elim
instance (b:Nat) (f:Int→Option Value):Lent (lmp b f):=⟨fun _=>⟨fun h=>h,fun h=>h⟩⟩
instance (b:Nat) (es:Array MapEntry) (c:Nat):Lent (lme b es c):=⟨fun _=>⟨fun h=>h,fun h=>h⟩⟩
instance (r b since:Nat) (seen:Array Nat) (c:Nat):NoB (mit r b since seen c):=⟨fun _ h=>h⟩
structure SeqC (P:Program) (f:FuncId) (cap:Array Value) (pre:List Ch) (N:Nat) (Done:List Int→Prop):Prop where
 run:∀ {α:Type} (l:Nat) (J:α→List Ch) (el:α→List Int) (a0:α),el a0 = []→(∀ a,∀ c ∈ J a,∀ b,¬ c.bd b) →
  (∀ a x,(el a).length < N→Ty P l [I x] [] (J a) fun ok B=>ok = true∧∃ a',el a' = el a ++ [x]∧B = J a') →
  Tr P f (yv l :: cap.toList) pre (J a0) fun _ B=>∃ a,Done (el a)∧B = J a
 done:∀ zs,Done zs→zs.length ≤ N
 lent:∀ c ∈ pre,∀ b,¬ c.wr b∧¬ c.rd b
section
variable {P:Program} {E:Env P} {n:Sh} {X:Cx} {s:List K} {fr:Fr} {A A' B F:List Ch} {ops:Array Oper} {rest:List Oper} {d:Nat} {ty:TypeId} {pos:String} {after:Array Edge} {v z:Value} {t T:TypeId} {x y:Operand} {c0:Code}
 {b r since:Nat} {f:Int→Option Value} {kt et:TypeId} {es:Array MapEntry} {clock:Nat} {seen:Array Nat}
end
attribute [local irreducible] Fit pt own ro vw mpc lpt vels rels mow lrc dfr
attribute [local irreducible] lmp lme mit
end Go.Art
namespace Go.Art
open Go Go.Proofs Go.RowKit
abbrev c64 (n:Int):BitVec 64:=BitVec.ofInt 64 n
abbrev bshr (p:BitVec 64) (k:Int):BitVec 64:=p >>> k.toNat
def gold:BitVec 64:=c64 11400714819323198485
def stir1 (z:BitVec 64):BitVec 64:=(z ^^^ bshr z 30) * c64 13787848793156543929
def stir2 (z:BitVec 64):BitVec 64:=(z ^^^ bshr z 27) * c64 10723151780598845931
def stir3 (z:BitVec 64):BitVec 64:=z ^^^ bshr z 31
def stir (x:BitVec 64):BitVec 64:=stir3 (stir2 (stir1 (x + gold)))
def lim (n:Nat):Nat:=18446744073709551615 - 18446744073709551616 % n
def ginv:BitVec 64:=c64 17428512612931826493
def farG (g gi st:BitVec 64):Nat:=((-g - st) * gi).toNat
def far (st:BitVec 64):Nat:=farG gold ginv st
def saccN (n:Nat):Nat→BitVec 64→BitVec 64
 | 0,st=>st
 | f + 1,st=>if (stir st).toNat ≤ lim n then st else saccN n f (st + gold)
def sacc (n:Nat) (st:BitVec 64):BitVec 64:=saccN n (far st + 1) st
def sdraw (n:Nat) (st:BitVec 64):Nat × BitVec 64:=((stir (sacc n st)).toNat % n,sacc n st + gold)
def seedOf (seed block id:BitVec 64):BitVec 64:=stir (stir (stir seed + block) + id)
section
variable {P:Program} {E:Env P} {n:Sh} {X:Cx} {s:List K} {fr:Fr} {A A' G:List Ch} {ops:Array Oper} {rest:List Oper} {d:Nat} {ty t t':TypeId} {pos:String} {after:Array Edge} {x y:Operand} {p q:BitVec 64}
theorem onep_nil:∀ p ∈ ([]:List (Nat × Value)),p.2.oneCell' = true:=fun _ h=>nomatch h
theorem onep_cons {p0:Nat × Value} {l:List (Nat × Value)} (h:p0.2.oneCell' = true) (k:∀ p ∈ l,p.2.oneCell' = true):∀ p ∈ p0 :: l,p.2.oneCell' = true:=fun x hx=>by
 rcases List.mem_cons.1 hx with rfl | hx
 ·exact h
 ·exact k x hx
theorem bdz {sz by_:Nat} {cs:List Value} {fl:List Field} {zs:List Value} {pl:List (Nat × Nat)} {parts:List (Nat × Operand)} {ps:List (Nat × Value)} (k:TO E n X s ops rest ((d,.agg cs.toArray) :: fr) A) (hv:evps fr parts = some ps:=by rfl)
  (h1:∀ p ∈ ps,p.2.oneCell' = true:=by (repeat (first | exact onep_nil | refine onep_cons (by first | rfl | assumption) ?_));first | done | fail) (ht:lk E.und t = some (.struct fl.toArray):=by rfl) (he:lk E.inf t = some (.agg zs.toArray,sz,by_):=by rfl)
  (hpl:places E.inf fl = some pl:=by rfl) (hs:setParts1 pl zs ps = some cs:=by rfl) (hd:Nat.blt d n.n = true:=by rfl):TO E n X s ops (⟨some d,.build t parts.toArray,ty,pos,after,none⟩ :: rest) fr A:=bdc h1 k hv ht he hpl hs hd
end
attribute [local irreducible] Fit pt own ro vw mpc lpt vels rels mow lrc dfr
abbrev TLo:TypeId:=183
def ldraw (n:Int) (st:BitVec 64) (used:Int):(Int × Int) × (BitVec 64 × Int):=if 1 ≤ n∧n ≤ 1099511627776 then ((((sdraw n.toNat st).1:Int),0),((sdraw n.toNat st).2,used + 1)) else ((0,3),(st,used))
end Go.Art
namespace Go.Art
open Go Go.Proofs Go.RowKit
abbrev TIt:TypeId:=33
abbrev IR (z:Int) (u:Value) (D:List Ch):Prop:=∃ o,u = .agg #[.bool (decide (z < 0)),o]∧o.oneCell' = true∧D = [own T64 o (Us (dg z.natAbs))]
def sg (b:Bool) (n:Nat):Int:=if b then -(n:Int) else n
theorem sg_abs (b:Bool) (n:Nat):(sg b n).natAbs = n:=by unfold sg;split <;> omega
theorem sg_neg (b:Bool) (n:Nat):decide (sg b n < 0) = (b && decide (0 < n)):=by
 unfold sg
 cases b
 ·simp
 ·simp
attribute [local irreducible] Fit pt own ro vw mpc lpt vels rels mow lrc dfr
theorem IMake_tr (b:Bool) (v:Value) (l:List Nat) (hd:Dg l) (hl:l.length ≤ 1099511627776):Tr Tryz.prog 76 [.bool b,v] [vw v (Us l)] [] (IR (sg b (nv l))):=by
 have hlp:0 < (dg (nv l)).length ↔ 0 < nv l:=⟨fun h=>Nat.pos_of_ne_zero fun e=>by rw [e,dg_zero] at h;simp at h,fun h=>dg_len_pos (by omega)⟩
 have hll:=dg_len_le hd
 unfold IR
 rw [sg_abs,sg_neg]
 refine Tr.enter env _ Tryz.func76 (by kernel_rfl) rfl Tryz.ntmps76 rfl (by repeat (first | exact has00 | refine has01 ?_)) fun w0=>?_
 repeat' first|(refine gca ?_;first|(refine ca (Trim_tr v l hd (by omega)) ?_;rintro o _ ⟨ho,rfl⟩))|refine al fun c=>?_|refine bdz ?_|refine srz ?_|refine lda ?_|(refine wo ?_;first|(refine ao ?_;first|refine oa ?_)|refine oa ?_|refine ld ?_|refine lnm ?_|refine sr ?_|refine gy ?_|refine gn ?_|(refine gs (fun hB=>?_) (fun hB=>?_) <;> try (exfalso;omega)))|refine sq ?_|refine rg ?_|refine xc ?_|refine nl ?_|refine rt ?_
 ·rename_i b0;subst hB
  exact rca1 (b:=b0) (cs:=[.bool (decide (0 < ((dg (nv l)).length:Int))),o]) (vs:=[.bool (decide (0 < ((dg (nv l)).length:Int))),o]) (T:=TIt) ⟨o,by simp [hlp],ho,rfl⟩
 ·rename_i b0;subst hB
  exact rca1 (b:=b0) (cs:=[.bool false,o]) (vs:=[.bool false,o]) (T:=TIt) ⟨o,rfl,ho,rfl⟩
end Go.Art
namespace Go.Art
open Go Go.Proofs Go.RowKit
structure Cel (ps:List (Nat × Value)) (qs:List (Nat × List Value)):Prop where
 eq:ps.map (fun p=>(p.1,p.2.cells.toList)) = qs
theorem Cel.nil:Cel [] []:=⟨rfl⟩
theorem Cel.one {i:Nat} {v:Value} {ps:List (Nat × Value)} {qs:List (Nat × List Value)} (h:v.oneCell' = true) (k:Cel ps qs):Cel ((i,v) :: ps) ((i,[v]) :: qs):=⟨by
 rw [List.map_cons,k.eq,oneCell_cells h]⟩
theorem Cel.agg {i:Nat} {cs:List Value} {ps:List (Nat × Value)} {qs:List (Nat × List Value)} (k:Cel ps qs):Cel ((i,.agg cs.toArray) :: ps) ((i,cs) :: qs):=⟨by
 rw [List.map_cons,k.eq]
 rfl⟩
def setPartsC (pl:List (Nat × Nat)):List Value→List (Nat × List Value)→Option (List Value)
 | cs,[]=>some cs
 | cs,(i,us) :: r=>match pl[i]? with
  | some (off,sz)=>bif Nat.beq us.length sz && Nat.ble (off + sz) cs.length then setPartsC pl (cs.take off ++ us ++ cs.drop (off + sz)) r else none
  | none=>none
theorem setParts_C {pl:List (Nat × Nat)}:∀ {ps:List (Nat × Value)} {qs:List (Nat × List Value)} {cs cs':List Value},Cel ps qs→setPartsC pl cs qs = some cs'→setParts pl cs ps = some cs'
 | [],qs,cs,cs',h,k=>by
  obtain ⟨h⟩:=h
  subst h
  exact k
 | (i,v) :: ps,qs,cs,cs',h,k=>by
  obtain ⟨h⟩:=h
  subst h
  simp only [List.map_cons,setPartsC] at k
  simp only [setParts]
  cases hp:pl[i]? with
  | none=>rw [hp] at k;cases k
  | some q=>
   obtain ⟨off,sz⟩:=q
   rw [hp] at k
   simp only [Array.length_toList] at k ⊢
   cases hc:Nat.beq v.cells.size sz && Nat.ble (off + sz) cs.length with
   | false=>rw [hc] at k;cases k
   | true=>rw [hc] at k;exact setParts_C ⟨rfl⟩ k
section
variable {P:Program} {E:Env P} {n:Sh} {X:Cx} {s:List K} {fr:Fr} {A A':List Ch} {ops:Array Oper} {rest:List Oper} {d:Nat} {ty t:TypeId} {pos:String} {after:Array Edge}
theorem bdg {sz by_:Nat} {cs:List Value} {fl:List Field} {zs:List Value} {pl:List (Nat × Nat)} {parts:List (Nat × Operand)} {ps:List (Nat × Value)} (k:TO E n X s ops rest ((d,.agg cs.toArray) :: fr) A) (hv:evps fr parts = some ps:=by rfl)
  (ht:lk E.und t = some (.struct fl.toArray):=by rfl) (he:lk E.inf t = some (.agg zs.toArray,sz,by_):=by rfl) (hpl:places E.inf fl = some pl:=by rfl) (hs:setParts pl zs ps = some cs:=by rfl) (hd:Nat.blt d n.n = true:=by rfl) :
  TO E n X s ops (⟨some d,.build t parts.toArray,ty,pos,after,none⟩ :: rest) fr A:=TO.val (fun _ _=>R_build ht he hpl hv hs) k hd
theorem bdm {sz by_:Nat} {cs:List Value} {fl:List Field} {zs:List Value} {pl:List (Nat × Nat)} {parts:List (Nat × Operand)} {ps:List (Nat × Value)} {qs:List (Nat × List Value)} (k:TO E n X s ops rest ((d,.agg cs.toArray) :: fr) A) (hv:evps fr parts = some ps:=by rfl)
  (ht:lk E.und t = some (.struct fl.toArray):=by rfl) (he:lk E.inf t = some (.agg zs.toArray,sz,by_):=by rfl) (hpl:places E.inf fl = some pl:=by rfl) (hq:Cel ps qs:=by (repeat (first | exact Cel.nil | apply Cel.agg | (apply Cel.one;focus (first | rfl | assumption))));first | done | fail) (hs:setPartsC pl zs qs = some cs:=by rfl) (hd:Nat.blt d n.n = true:=by rfl) :
  TO E n X s ops (⟨some d,.build t parts.toArray,ty,pos,after,none⟩ :: rest) fr A:=bdg k hv ht he hpl (setParts_C hq hs) hd
theorem ldla {b j sz by_:Nat} {cs vs:List Value} {T:TypeId} {dt:TypeDesc} {z:Value} {x:Operand} (k:TO E n X s ops rest ((d,.agg vs.toArray) :: fr) A) (hx:ev fr x = some (.pointer (some ⟨b,j,none⟩)):=by rfl) (hm:lpt b cs T ∈ A:=by exact memA) (ht:lk E.und t = some dt:=by rfl) (hg:aggB dt = true:=by rfl) (hi:lk E.inf t = some (z,sz,by_):=by rfl)
  (hv:(cs.drop j).take sz = vs:=by rfl) (hl:vs.length = sz:=by rfl) (hd:Nat.blt d n.n = true:=by rfl):TO E n X s ops (⟨some d,.load t x,ty,pos,after,none⟩ :: rest) fr A:=TO.val (fun _ h=>R_loadA ht hg hi hx (h.h (lpt b cs T) hm) hv hl) k hd
end
end Go.Art
namespace Go.Art
open Go Go.Proofs Go.RowKit
abbrev iv (z:Int) (o:Value):Value:=.agg #[.bool (decide (z < 0)),o]
abbrev dz (z:Int):List Nat:=dg z.natAbs
theorem ifc {α:Type} {p q:Prop} [Decidable p] [Decidable q] (h:p ↔ q) (a b:α):(if p then a else b) = if q then a else b:=by
 by_cases hp:p
 ·rw [if_pos hp,if_pos (h.1 hp)]
 ·rw [if_neg hp,if_neg fun hq=>hp (h.2 hq)]
theorem dg_len1 {n:Nat} (h:n < 18446744073709551616):(dg n).length ≤ 1:=(dg_len n 1).2 (by simpa using h)
attribute [local irreducible] Fit pt own ro vw mpc lpt vels rels mow lrc dfr
theorem IOf_tr (x:Nat) (hx:x < 9223372036854775808):Tr Tryz.prog 74 [I x] [] [] (IR (x:Int)):=by
 have h1:=dg_len1 (n:=x) (by omega)
 have hM:=fun o=>IMake_tr false o (dg x) (Dg_dg x) (by omega)
 have hs:sg false x = (x:Int):=rfl
 simp only [nv_dg,hs] at hM
 unfold IR at hM ⊢
 refine Tr.enter env _ Tryz.func74 (by kernel_rfl) rfl Tryz.ntmps74 rfl (by repeat (first | exact has00 | refine has01 ?_)) fun w0=>?_
 repeat' first|(refine gca ?_;first|(refine ca (Of_tr x (by omega)) ?_;rintro o _ ⟨ho,rfl⟩)|(refine ca (hM o) ?_;rintro _ _ ⟨o2,rfl,ho2,rfl⟩))|refine al fun c=>?_|refine srz ?_|(refine wo ?_;first|(refine ao ?_;first|refine oa ?_)|refine ntu ?_|refine oa ?_)|(refine gc ?_;first|refine cf ?_)|refine sq ?_|refine rg ?_|refine xc ?_|refine nl ?_|refine sk ?_|refine rt ?_
 exact rca1 (cs:=[.bool (decide ((x:Int) < 0)),o2]) (vs:=[.bool (decide ((x:Int) < 0)),o2]) (T:=TIt) ⟨o2,rfl,ho2,rfl⟩
theorem ICheck_tr (b:Bool) (o:Value) (l:List Nat):Tr Tryz.prog 130 [.agg #[.bool b,o]] [vw o (Us l)] [] fun u D=>u = I (if (b = true∧l.length = 0)∨(0 < l.length∧l.getD (l.length - 1) 0 = 0) then 6 else 0)∧D = []:=by
 have hC:=Check_tr o l
 obtain ⟨c,hc⟩ : ∃ c:Int,c = (if 0 < l.length∧l.getD (l.length - 1) 0 = 0 then 6 else 0):=⟨_,rfl⟩
 rw [← hc] at hC
 refine Tr.enter env _ Tryz.func130 (by kernel_rfl) rfl Tryz.ntmps130 rfl (by repeat (first | exact has00 | refine has01 ?_)) fun w0=>?_
 repeat' first|(refine gca ?_;first|(refine ca hC ?_;rintro _ _ ⟨rfl,rfl⟩))|refine bx fun q=>?_|refine lda ?_|(refine wo ?_;first|(refine ao ?_;first|refine oa ?_)|refine oa ?_|refine ld ?_|refine lnm ?_|refine gy ?_|refine gn ?_|(refine gs (fun hB=>?_) (fun hB=>?_) <;> try (exfalso;omega)))|(refine gc ?_;first|refine cf ?_|(refine ci (fun hB=>?_) (fun hB=>?_) <;> try (exfalso;omega)))|refine sq ?_|refine rg ?_|refine xc ?_|refine nl ?_|refine sk ?_|refine rt ?_
 ·exact r1 ⟨by rw [if_pos (.inl ⟨by assumption,by omega⟩)],rfl⟩
 ·exact r1 ⟨(congrArg I hc).trans (congrArg I (ifc ⟨.inr,fun h=>h.resolve_left fun k=>by omega⟩ _ _)),rfl⟩
 ·exact r1 ⟨(congrArg I hc).trans (congrArg I (ifc ⟨.inr,fun h=>h.resolve_left fun k=>by rw [hB] at k;cases k.1⟩ _ _)),rfl⟩
theorem by_tr (va vb:Value) (a b:List Nat) (ha:Dg a) (hb:Dg b) (hla:a.length ≤ 549755813888) (hlb:b.length ≤ 549755813888) (hb0:nv b ≠ 0):Tr Tryz.prog 183 [va,vb] [vw va (Us a),vw vb (Us b)] [] fun u D=>u.oneCell' = true∧D = [own T64 u (Us (dg (nv a / nv b)))]:=by
 have hD:=NDiv_tr va vb a b ha hb hla hlb hb0
 obtain ⟨m,hm⟩ : ∃ m,m = nv a / nv b:=⟨_,rfl⟩
 unfold DivR at hD
 simp only [← hm] at hD
 rw [← hm]
 refine Tr.enter env _ Tryz.func183 (by kernel_rfl) rfl Tryz.ntmps183 rfl (by repeat (first | exact has00 | refine has01 ?_)) fun w0=>?_
 repeat' first|(refine gca ?_;first|(refine ca hD ?_;rintro _ _ ⟨qv,rv,rfl,hqv,hrv,rfl⟩))|(refine wo ?_;first|refine oa ?_)|refine sq ?_|refine rg ?_|refine xc ?_|refine nl ?_|refine rt ?_
 exact r1 ⟨hqv,rfl⟩
end Go.Art
namespace Go.Art
open Go Go.Proofs Go.RowKit
abbrev TRt:TypeId:=35
abbrev rv (q:Rat) (vn vd:Value):Value:=.agg #[.bool (decide (q.num < 0)),vn,vd]
abbrev FQ (q:Rat) (u:Value) (D:List Ch):Prop:=∃ vn vd,u = rv q vn vd∧vn.oneCell' = true∧vd.oneCell' = true∧D = [own T64 vn (Us (dg q.num.natAbs)),own T64 vd (Us (dg q.den))]
abbrev rv0:Value:=.agg #[.bool false,nS,nS]
theorem mk_num (z:Int) {m:Nat} (hm:m ≠ 0):(mkRat z m).num = z / (Nat.gcd z.natAbs m:Nat):=by
 rw [Rat.mkRat_def,dif_neg hm,Rat.normalize_eq]
theorem mk_den (z:Int) {m:Nat} (hm:m ≠ 0):(mkRat z m).den = m / Nat.gcd z.natAbs m:=by
 rw [Rat.mkRat_def,dif_neg hm,Rat.normalize_eq]
theorem natAbs_div (z:Int) (g:Nat) (h:(g:Int) ∣ z):(z / (g:Int)).natAbs = z.natAbs / g:=by
 obtain ⟨c,rfl⟩:=h
 by_cases hg:g = 0
 ·subst hg;simp
 ·rw [Int.mul_ediv_cancel_left _ (by omega),Int.natAbs_mul,Int.natAbs_natCast,Nat.mul_div_cancel_left _ (by omega)]
theorem mk_abs (z:Int) {m:Nat} (hm:m ≠ 0):(mkRat z m).num.natAbs = z.natAbs / Nat.gcd z.natAbs m:=by
 rw [mk_num z hm,natAbs_div]
 exact Int.ofNat_dvd_left.2 (Nat.gcd_dvd_left _ _)
theorem mk_neg (z:Int) {m:Nat} (hm:m ≠ 0):(mkRat z m).num < 0 ↔ z < 0:=by
 have hg:0 < Nat.gcd z.natAbs m:=Nat.gcd_pos_of_pos_right _ (by omega)
 rw [mk_num z hm]
 constructor
 ·intro h
  rcases Int.lt_or_le z 0 with h1 | h1
  ·exact h1
  ·have:=Int.ediv_nonneg h1 (Int.natCast_nonneg (Nat.gcd z.natAbs m));omega
 ·intro h;exact Int.ediv_neg_of_neg_of_pos h (by omega)
theorem sg_mk (b:Bool) (n:Nat) {m:Nat} (hm:m ≠ 0):decide ((mkRat (sg b n) m).num < 0) = (b && decide (0 < n / Nat.gcd n m)):=by
 have hg:0 < Nat.gcd n m:=Nat.gcd_pos_of_pos_right _ (by omega)
 rw [decide_eq_decide.2 (mk_neg _ hm),sg_neg]
 congr 1
 refine decide_eq_decide.2 ⟨fun h=>Nat.div_pos (Nat.le_of_dvd h (Nat.gcd_dvd_left _ _)) hg,fun h=>?_⟩
 rcases Nat.eq_zero_or_pos n with h0 | h0
 ·subst h0;simp at h
 ·exact h0
theorem dg_le {l:List Nat} (hd:Dg l) {n:Nat} (h:n ≤ nv l):(dg n).length ≤ l.length:=Nat.le_trans (dg_mono h) (dg_len_le hd)
attribute [local irreducible] Fit pt own ro vw mpc lpt vels rels mow lrc dfr
theorem lowest_tr (b:Bool) (o dv:Value) (l m:List Nat) (hl:Dg l) (hm:Dg m) (hll:l.length ≤ 68719476736) (hlm:m.length ≤ 68719476736) (hm0:nv m ≠ 0) :
  Tr Tryz.prog 123 [.agg #[.bool b,o],dv] [vw o (Us l),vw dv (Us m)] [] (FQ (mkRat (sg b (nv l)) (nv m))):=by
 have e1:=mk_abs (sg b (nv l)) hm0
 have e2:=mk_den (sg b (nv l)) hm0
 have e3:=sg_mk b (nv l) hm0
 rw [sg_abs] at e1 e2
 have hg0:Nat.gcd (nv l) (nv m) ≠ 0:=Nat.ne_of_gt (Nat.gcd_pos_of_pos_right _ (by omega))
 have hgl:(dg (Nat.gcd (nv l) (nv m))).length ≤ m.length:=dg_le hm (Nat.gcd_le_right _ (by omega))
 have hB1:=fun g=>by_tr o g l (dg (Nat.gcd (nv l) (nv m))) hl (Dg_dg _) (by omega) (by omega) (by rw [nv_dg];exact hg0)
 have hB2:=fun g=>by_tr dv g m (dg (Nat.gcd (nv l) (nv m))) hm (Dg_dg _) (by omega) (by omega) (by rw [nv_dg];exact hg0)
 have hG:=NGcd_tr o dv l m hl hm (by omega) (by omega)
 have hql:(dg (nv l / Nat.gcd (nv l) (nv m))).length ≤ l.length:=dg_le hl (Nat.div_le_self _ _)
 have hM:=fun u=>IMake_tr b u (dg (nv l / Nat.gcd (nv l) (nv m))) (Dg_dg _) (by omega)
 simp only [nv_dg] at hB1 hB2 hM
 unfold IR at hM
 simp only [sg_abs,sg_neg] at hM
 simp only [← e3] at hM
 rw [← e2] at hB2
 rw [← e1] at hB1 hM
 obtain ⟨q,hq⟩ : ∃ q,q = mkRat (sg b (nv l)) (nv m):=⟨_,rfl⟩
 obtain ⟨g,hgg⟩ : ∃ g,g = Nat.gcd (nv l) (nv m):=⟨_,rfl⟩
 rw [← hq] at hB1 hB2 hM ⊢
 rw [← hgg] at hB1 hB2 hG
 clear e1 e2 e3 hg0 hgl hql hq hgg
 refine Tr.enter env _ Tryz.func123 (by kernel_rfl) rfl Tryz.ntmps123 rfl (by repeat (first | exact has00 | refine has01 ?_)) fun w0=>?_
 repeat' first|(refine gca ?_;first|(refine ca hG ?_;rintro gv _ ⟨hgv,rfl⟩))|refine bx fun q1=>?_|refine al fun c=>?_|(refine wo ?_;first|refine oa ?_|refine ld ?_)|refine sq ?_|refine rg ?_|refine xc ?_|refine nl ?_
 refine rs (fun w=>w.heap[q1]? = some (.cells [.bool b,o].toArray TIt (0,0))) ?_ (fun w hw=>pt_at memA hw)
 refine tka 0 ?_
 refine tkl 1 (cs:=[.bool b,o]) (fun w h=>h) ?_
 refine tka 2 ?_
 refine tkl 3 (cs:=[.bool b,o]) (fun w h=>h) ?_
 refine tka 4 ?_
 refine tka 7 ?_
 refine tka 8 ?_
 refine t1 5 ?_
 refine ca (hB1 gv) ?_
 rintro u1 _ ⟨hu1,rfl⟩
 refine nl ?_
 refine te (fun w hw=>pt_at memA hw) ?_
 refine t1 6 ?_
 refine ca (hM u1) ?_
 rintro _ _ ⟨u2,rfl,hu2,rfl⟩
 refine nl ?_
 refine te (fun w hw=>pt_at memA hw) ?_
 refine t1 9 ?_
 refine ca (hB2 gv) ?_
 rintro u3 _ ⟨hu3,rfl⟩
 refine nl ?_
 refine te (fun w hw=>pt_at memA hw) ?_
 refine t1 10 ?_
 refine bdm ?_
 refine nl ?_
 refine te (fun w hw=>pt_at memA hw) ?_
 refine t1 11 ?_
 refine srz ?_
 refine nl ?_
 refine te (fun w hw=>pt_at memA hw) ?_
 refine t0 ?_
 repeat' first|refine xc ?_|refine rt ?_
 exact rca1 (cs:=[.bool (decide (q.num < 0)),u2,u3]) (vs:=[.bool (decide (q.num < 0)),u2,u3]) (T:=TRt) ⟨u2,u3,rfl,hu2,hu3,rfl⟩
end Go.Art
namespace Go.Art
open Go Go.Proofs Go.RowKit
section
variable {P:Program} {E:Env P} {n:Sh} {X:Cx} {s:List K} {fr:Fr} {A:List Ch} {ops:Array Oper} {rest:List Oper} {d:Nat} {ty t t':TypeId} {pos:String} {after:Array Edge} {x y:Operand} {b1 b2:Bool}
theorem R_bne {w:World} (hx:ev fr x = some (.bool b1)) (hy:ev fr y = some (.bool b2)) (ht:lk E.und t = some .bool):OpV P n fr (.binOp .neq t x y t') ty w (.bool (!(b1 == b2))) w:=⟨fun a ha _ _ _ _=>by
 have hg:(eqGuard .neq t x y (.bool b1) (.bool b2)).run P w = .ok () w:=rfl
 simp only [execOp,ha.ev hx,ha.ev hy]
 simp [hg,run_neq_bool (P:=P) w t b1 b2 (E.un ht)]⟩
theorem ibn (k:TO E n X s ops rest ((d,.bool (!(b1 == b2))) :: fr) A) (hx:ev fr x = some (.bool b1):=by rfl) (hy:ev fr y = some (.bool b2):=by rfl) (ht:lk E.und t = some .bool:=by rfl) (hd:Nat.blt d n.n = true:=by rfl) :
  TO E n X s ops (⟨some d,.binOp .neq t x y t',ty,pos,after,none⟩ :: rest) fr A:=TO.val (fun _ _=>R_bne hx hy ht) k hd
end
def bnd (C:List Ch):Ch where
 wr:=wrs C
 rd:=rds C
 bd:=fun b=>∃ c ∈ C,c.bd b
 P:=Sat C
 loc:=fun h hb=>⟨h.ap,fun c hc=>c.loc (h.h c hc) fun b hf=>hb b (by
  rcases hf with hf | hf | hf
  ·exact .inl ⟨c,hc,hf⟩
  ·exact .inr (.inl ⟨c,hc,hf⟩)
  ·exact .inr (.inr ⟨c,hc,hf⟩))⟩
 lt:=fun h hb=>h.lt (by
  rcases hb with ⟨c,hc,hf⟩ | ⟨c,hc,hf⟩ | ⟨c,hc,hf⟩
  ·exact ⟨c,hc,.inl hf⟩
  ·exact ⟨c,hc,.inr (.inl hf)⟩
  ·exact ⟨c,hc,.inr (.inr hf)⟩)
theorem bnd_ft {C:List Ch} {b:Nat}:(bnd C).ft b ↔ fts C b:=by
 constructor
 ·rintro (⟨c,hc,hf⟩ | ⟨c,hc,hf⟩ | ⟨c,hc,hf⟩)
  ·exact ⟨c,hc,.inl hf⟩
  ·exact ⟨c,hc,.inr (.inl hf)⟩
  ·exact ⟨c,hc,.inr (.inr hf)⟩
 ·rintro ⟨c,hc,hf | hf | hf⟩
  ·exact .inl ⟨c,hc,hf⟩
  ·exact .inr (.inl ⟨c,hc,hf⟩)
  ·exact .inr (.inr ⟨c,hc,hf⟩)
theorem bnd_wrs {C F:List Ch} {b:Nat}:wrs (bnd C :: F) b ↔ wrs (C ++ F) b:=by
 rw [wrs_app]
 constructor
 ·rintro ⟨x,hx,hb⟩
  rcases List.mem_cons.1 hx with rfl | hx
  ·exact .inl hb
  ·exact .inr ⟨x,hx,hb⟩
 ·rintro (h | ⟨x,hx,hb⟩)
  ·exact ⟨_,List.Mem.head _,h⟩
  ·exact ⟨x,List.mem_cons_of_mem _ hx,hb⟩
theorem bnd_rds {C F:List Ch} {b:Nat}:rds (bnd C :: F) b ↔ rds (C ++ F) b:=by
 rw [rds_app]
 constructor
 ·rintro ⟨x,hx,hb⟩
  rcases List.mem_cons.1 hx with rfl | hx
  ·exact .inl hb
  ·exact .inr ⟨x,hx,hb⟩
 ·rintro (h | ⟨x,hx,hb⟩)
  ·exact ⟨_,List.Mem.head _,h⟩
  ·exact ⟨x,List.mem_cons_of_mem _ hx,hb⟩
theorem bnd_fts {C F:List Ch} {b:Nat}:fts (bnd C :: F) b ↔ fts (C ++ F) b:=by
 rw [fts_app]
 constructor
 ·rintro ⟨x,hx,hb⟩
  rcases List.mem_cons.1 hx with rfl | hx
  ·exact .inl (bnd_ft.1 hb)
  ·exact .inr ⟨x,hx,hb⟩
 ·rintro (h | ⟨x,hx,hb⟩)
  ·exact ⟨_,List.Mem.head _,bnd_ft.2 h⟩
  ·exact ⟨x,List.mem_cons_of_mem _ hx,hb⟩
theorem bnd_sat {C F:List Ch} {w:World}:Sat (bnd C :: F) w ↔ Sat (C ++ F) w:=by
 rw [Sat.cons,Sat.app]
 constructor
 ·rintro ⟨h1,h2,h3⟩
  refine ⟨h1,h3,fun a ha f hf=>⟨fun b hb hft=>(h2 f hf).1 b ⟨a,ha,hb⟩ hft,fun b hb hft=>(h2 f hf).2 b hb (bnd_ft.2 ⟨a,ha,hft⟩)⟩⟩
 ·rintro ⟨h1,h3,h2⟩
  refine ⟨h1,fun f hf=>⟨fun b hb hft=>?_,fun b hb hft=>?_⟩,h3⟩
  ·obtain ⟨a,ha,hb⟩:=hb;exact (h2 a ha f hf).1 b hb hft
  ·obtain ⟨a,ha,hft⟩:=bnd_ft.1 hft;exact (h2 a ha f hf).2 b hb hft
theorem im_bnd (C F:List Ch):Im (C ++ F) (bnd C :: F):=⟨fun _ h=>bnd_sat.2 h,fun _ h=>bnd_wrs.1 h,fun _ h=>.inr (bnd_rds.1 h),fun _ h=>bnd_fts.1 h⟩
theorem un_bnd (C F:List Ch):Im (bnd C :: F) (C ++ F):=⟨fun _ h=>bnd_sat.1 h,fun _ h=>bnd_wrs.2 h,fun _ h=>.inr (bnd_rds.2 h),fun _ h=>bnd_fts.2 h⟩
theorem bnd_nil (F:List Ch):Im F (bnd [] :: F):=im_bnd [] F
theorem perm_bnd {C D:List Ch} (p:C.Perm D) (F:List Ch):Im (bnd C :: F) (bnd D :: F):=(un_bnd C F).trans ((Im.perm (p.append_right F)).trans (im_bnd D F))
theorem bnd_cons (c:Ch) (C F:List Ch):Im (c :: bnd C :: F) (bnd (c :: C) :: F):=(Im.cons c (un_bnd C F)).trans (im_bnd (c :: C) F)
theorem bnd_snoc (c:Ch) (C F:List Ch):Im (c :: bnd C :: F) (bnd (C ++ [c]) :: F):=(bnd_cons c C F).trans (perm_bnd (by simpa using (List.perm_append_comm (l₁:=[c]) (l₂:=C))) F)
theorem bnd_uncons (c:Ch) (C F:List Ch):Im (bnd (c :: C) :: F) (c :: bnd C :: F):=(un_bnd (c :: C) F).trans (Im.cons c (im_bnd C F))
theorem perm_get {α:Type}:∀ {C:List α} {i:Nat} {c:α},C[i]? = some c→C.Perm (c :: C.eraseIdx i)
 | [],_,_,h=>by simp at h
 | a :: C,0,c,h=>by simp at h;subst h;exact List.Perm.refl _
 | a :: C,i + 1,c,h=>by
  have:=perm_get (C:=C) (i:=i) (c:=c) (by simpa using h)
  simp only [List.eraseIdx_cons_succ]
  exact (this.cons a).trans (List.Perm.swap _ _ _)
theorem bnd_take {C:List Ch} {i:Nat} {c:Ch} (h:C[i]? = some c) (F:List Ch):Im (bnd C :: F) (c :: bnd (C.eraseIdx i) :: F):=(perm_bnd (perm_get h) F).trans (bnd_uncons c _ F)
theorem bnd_put {C:List Ch} {i:Nat} (d:Ch) (h:i < C.length) (F:List Ch):Im (d :: bnd (C.eraseIdx i) :: F) (bnd (C.set i d) :: F):=by
 have e:(C.set i d).eraseIdx i = C.eraseIdx i:=by simp [List.eraseIdx_set_eq]
 have p:=perm_get (C:=C.set i d) (i:=i) (c:=d) (by simp [h])
 rw [e] at p
 exact (bnd_cons d _ F).trans (perm_bnd p.symm F)
def owls (e:TypeId) (g:Int→Value) (hs:List Value) (ls:List (List Int)):List Ch:=List.zipWith (fun h l=>own e h (l.map g)) hs ls
def owl (e:TypeId) (g:Int→Value) (hs:List Value) (ls:List (List Int)):Ch:=bnd (owls e g hs ls)
theorem owls_nb {e:TypeId} {g:Int→Value} {hs:List Value} {ls:List (List Int)}:∀ c ∈ owls e g hs ls,∀ b,¬ c.bd b:=fun c hc b hb=>by
 unfold owls at hc
 rw [List.mem_iff_getElem] at hc
 obtain ⟨i,hi,rfl⟩:=hc
 rw [List.getElem_zipWith] at hb
 exact hb
instance {e:TypeId} {g:Int→Value} {hs:List Value} {ls:List (List Int)}:NoB (owl e g hs ls):=⟨fun b ⟨c,hc,hb⟩=>owls_nb c hc b hb⟩
theorem owls_get {e:TypeId} {g:Int→Value} {hs:List Value} {ls:List (List Int)} (hl:hs.length = ls.length) {i:Nat} (h:i < ls.length):(owls e g hs ls)[i]? = some (own e (hs.getD i nS) ((ls.getD i []).map g)):=by
 unfold owls
 rw [List.getElem?_zipWith,List.getD_eq_getElem?_getD,List.getD_eq_getElem?_getD,List.getElem?_eq_getElem h,List.getElem?_eq_getElem (show i < hs.length by omega)]
 rfl
theorem owls_set {e:TypeId} {g:Int→Value} {v:Value} {l:List Int}:∀ {hs:List Value} {ls:List (List Int)} {i:Nat},(owls e g hs ls).set i (own e v (l.map g)) = owls e g (hs.set i v) (ls.set i l)
 | [],_,_=>by simp [owls]
 | _ :: _,[],_=>by simp [owls]
 | _ :: _,_ :: _,0=>by simp [owls]
 | a :: hs,b :: ls,i + 1=>by
  have:=owls_set (e:=e) (g:=g) (v:=v) (l:=l) (hs:=hs) (ls:=ls) (i:=i)
  unfold owls at *
  simp [this]
theorem owls_len {e:TypeId} {g:Int→Value} {hs:List Value} {ls:List (List Int)} (hl:hs.length = ls.length):(owls e g hs ls).length = ls.length:=by unfold owls;simp [hl]
theorem owl_nil {e:TypeId} {g:Int→Value} (F:List Ch):Im F (owl e g [] [] :: F):=bnd_nil F
theorem owl_snoc {e:TypeId} {g:Int→Value} {hs:List Value} {ls:List (List Int)} (hl:hs.length = ls.length) (v:Value) (l:List Int) (F:List Ch):Im (own e v (l.map g) :: owl e g hs ls :: F) (owl e g (hs ++ [v]) (ls ++ [l]) :: F):=by
 have h:owls e g (hs ++ [v]) (ls ++ [l]) = owls e g hs ls ++ [own e v (l.map g)]:=by unfold owls;rw [List.zipWith_append hl];rfl
 unfold owl
 rw [h]
 exact bnd_snoc _ _ F
theorem owl_push {e:TypeId} {g:Int→Value} {hs:List Value} {ls:List (List Int)} {v:Value} {l:List Int} {A F:List Ch} (hl:hs.length = ls.length) (hf:Fit A [own e v (l.map g),owl e g hs ls] F):Im A (owl e g (hs ++ [v]) (ls ++ [l]) :: F):=Im.trans hf (owl_snoc hl v l F)
theorem owl_uncons {e:TypeId} {g:Int→Value} {h:Value} {l:List Int} {hs:List Value} {ls:List (List Int)} (F:List Ch):Im (owl e g (h :: hs) (l :: ls) :: F) (own e h (l.map g) :: owl e g hs ls :: F):=bnd_uncons _ _ F
theorem owl_pop {e:TypeId} {g:Int→Value} {h:Value} {l:List Int} {hs:List Value} {ls:List (List Int)} {A F:List Ch} (hf:Fit A [owl e g (h :: hs) (l :: ls)] F):Im A (own e h (l.map g) :: owl e g hs ls :: F):=Im.trans hf (owl_uncons F)
theorem drop_getD {α:Type} {l:List α} {i:Nat} (h:i < l.length) (z:α):l.drop i = l.getD i z :: l.drop (i + 1):=by rw [List.drop_eq_getElem_cons h];simp [List.getD_eq_getElem?_getD,h]
theorem owl_take {e:TypeId} {g:Int→Value} {hs:List Value} {ls:List (List Int)} (hl:hs.length = ls.length) {i:Nat} (h:i < ls.length) (F:List Ch):Im (owl e g hs ls :: F) (own e (hs.getD i nS) ((ls.getD i []).map g) :: bnd ((owls e g hs ls).eraseIdx i) :: F):=bnd_take (owls_get hl h) F
theorem owl_put {e:TypeId} {g:Int→Value} {hs:List Value} {ls:List (List Int)} (hl:hs.length = ls.length) {i:Nat} (h:i < ls.length) (v:Value) (l:List Int) (F:List Ch):Im (own e v (l.map g) :: bnd ((owls e g hs ls).eraseIdx i) :: F) (owl e g (hs.set i v) (ls.set i l) :: F):=by
 have:=bnd_put (C:=owls e g hs ls) (i:=i) (own e v (l.map g)) (by rw [owls_len hl];exact h) F
 rw [owls_set] at this
 exact this
theorem has_owl {e:TypeId} {g:Int→Value} {hs:List Value} {ls:List (List Int)} {F:List Ch} (hl:hs.length = ls.length) (h:owl e g hs ls ∈ F):Has F (velg g hs ls):=by
 refine ⟨fun w hw=>⟨hl,fun i hi=>?_⟩,fun b h=>h,fun b h=>h,fun b hb=>⟨_,h,?_⟩⟩
 ·have h1:Sat (owls e g hs ls) w:=hw.h _ h
  have h2:OwnO w e (hs.getD i nS) ((ls.getD i []).map g):=h1.h _ (List.mem_of_getElem? (owls_get hl hi))
  exact h2.sl
 ·rcases hb with hb | hb | ⟨i,hi,_,hx⟩
  ·exact hb.elim
  ·exact hb.elim
  ·exact .inl ⟨_,List.mem_of_getElem? (owls_get hl hi),hx⟩
end Go.Art
namespace Go.Art
open Go Go.Proofs Go.RowKit
abbrev FQ2 (q:Rat) (e:Int) (u:Value) (D:List Ch):Prop:=∃ vn vd,u = tup2 (rv q vn vd) (I e)∧vn.oneCell' = true∧vd.oneCell' = true∧D = [own T64 vn (Us (dg q.num.natAbs)),own T64 vd (Us (dg q.den))]
theorem Tm_top {l:List Nat} (h:Tm l):¬ (0 < l.length∧l.getD (l.length - 1) 0 = 0):=fun ⟨h1,h2⟩=>h.top h1 h2
theorem icheck_ok (z:Int):¬ ((decide (z < 0) = true∧(dz z).length = 0)∨(0 < (dz z).length∧(dz z).getD ((dz z).length - 1) 0 = 0)):=by
 rintro (⟨h1,h2⟩ | h)
 ·have h3:=dg_nil.1 (List.eq_nil_of_length_eq_zero h2)
  simp at h1;omega
 ·exact Tm_top (Tm_dg _) h
attribute [local irreducible] Fit pt own ro vw mpc lpt vels rels mow lrc dfr
theorem FMake_tr (z:Int) (o dv:Value) (m:List Nat) (hm:Dg m) (hll:(dz z).length ≤ 68719476736) (hlm:m.length ≤ 68719476736) (hm0:nv m ≠ 0) :
  Tr Tryz.prog 75 [iv z o,dv] [vw o (Us (dz z)),vw dv (Us m)] [] (FQ2 (mkRat z (nv m)) 0):=by
 have hC:=ICheck_tr (decide (z < 0)) o (dz z)
 rw [if_neg (icheck_ok z)] at hC
 have hN:=NLen_tr dv m hm (by omega)
 have hL:=lowest_tr (decide (z < 0)) o dv (dz z) m (Dg_dg _) hm hll hlm hm0
 have hs:sg (decide (z < 0)) (nv (dz z)) = z:=by
  unfold sg;rw [nv_dg]
  by_cases h:z < 0
  ·rw [if_pos (by simpa using h)];omega
  ·rw [if_neg (by simpa using h)];omega
 rw [hs] at hL
 unfold FQ at hL
 obtain ⟨q,hq⟩ : ∃ q,q = mkRat z (nv m):=⟨_,rfl⟩
 rw [← hq] at hL ⊢
 refine Tr.enter env _ Tryz.func75 (by kernel_rfl) rfl Tryz.ntmps75 rfl (by repeat (first | exact has00 | refine has01 ?_)) fun w0=>?_
 repeat' first|(refine gca ?_;first|(refine ca hC ?_;rintro _ _ ⟨rfl,rfl⟩)|(refine ca hN ?_;rintro _ _ ⟨⟨nb,rfl,hnb⟩,rfl⟩)|(refine ca hL ?_;rintro _ _ ⟨vn,vd,rfl,hvn,hvd,rfl⟩))|refine bx fun q1=>?_|refine al fun c=>?_|refine lda ?_|refine srz ?_|(refine wo ?_;first|(refine ao ?_;first|refine aw ?_|refine aw6 ?_|refine oa ?_|refine adiv ?_|refine amod ?_|refine shr1 ?_|refine shr ?_|refine umod ?_|refine isl ?_|refine ipe ?_|refine ipn ?_|refine ibe ?_)|refine acw ?_|refine ucv ?_|refine anw ?_|refine oa ?_|refine ld ?_|refine ldl ?_|refine lnm ?_|refine ixmn ?_|refine ixm ?_|refine li ?_|refine lb ?_|refine lv ?_|refine ln ?_|refine ixn ?_|refine ix ?_|refine le ?_|refine sr ?_|refine soi ?_|refine sob ?_|refine scm ?_|refine sclm ?_|refine schm ?_|refine gy ?_|refine gn ?_|refine gnn ?_|refine gu ?_|(refine gsi (fun hB=>?_) (fun hB=>?_) <;> try (exfalso;omega))|(refine gsn (fun hB=>?_) (fun hB=>?_) <;> try (exfalso;omega))|(refine gs (fun hB=>?_) (fun hB=>?_) <;> try (exfalso;omega)))|(refine gc ?_;first|refine ct ?_|refine cf ?_|(refine ci (fun hB=>?_) (fun hB=>?_) <;> try (exfalso;omega))|(refine cn (fun hB=>?_) (fun hB=>?_) <;> try (exfalso;omega))|(refine cb (fun hB=>?_) (fun hB=>?_) <;> try (exfalso;omega)))|refine sq ?_|refine rg ?_|refine xc ?_|refine nl ?_|refine sk ?_|refine bk ?_|refine xe ?_|refine rt ?_|refine xb ?_
 exact rca (cs:=[.bool (decide (q.num < 0)),vn,vd]) (vs:=[.bool (decide (q.num < 0)),vn,vd]) (T:=TRt) ⟨vn,vd,rfl,hvn,hvd,rfl⟩
theorem FPair_tr (x y:Nat) (hx:x < 9223372036854775808) (hy:y < 9223372036854775808) (hy0:y ≠ 0):Tr Tryz.prog 35 [I x,I y] [] [] (FQ2 (mkRat x y) 0):=by
 have hx1:=dg_len1 (n:=x) (by omega)
 have hy1:=dg_len1 (n:=y) (by omega)
 have hO:=IOf_tr x hx
 have hP:=IOf_tr y hy
 have hM:=fun o=>IMake_tr false o (dg x) (Dg_dg x) (by omega)
 have hs:sg false x = (x:Int):=rfl
 have hR:=fun o dv=>FMake_tr (x:Int) o dv (dg y) (Dg_dg y) (by unfold dz;rw [Int.natAbs_natCast];omega) (by omega) (by rw [nv_dg];exact hy0)
 simp only [nv_dg,hs] at hM hR
 unfold IR at hO hP hM
 unfold dz at hR
 simp only [Int.natAbs_natCast] at hO hP hM hR
 have hxn:decide ((x:Int) < 0) = false:=by simp
 have hyn:decide ((y:Int) < 0) = false:=by simp
 rw [hxn] at hO
 rw [hyn] at hP
 unfold FQ2 at hR
 obtain ⟨q,hq⟩ : ∃ q,q = mkRat (x:Int) y:=⟨_,rfl⟩
 simp only [← hq] at hR ⊢
 clear hq
 refine Tr.enter env _ Tryz.func35 (by kernel_rfl) rfl Tryz.ntmps35 rfl (by repeat (first | exact has00 | refine has01 ?_)) fun w0=>?_
 repeat' first|(refine gca ?_;first|(refine ca hO ?_;rintro _ _ ⟨o,rfl,ho,rfl⟩)|(refine ca hP ?_;rintro _ _ ⟨o2,rfl,ho2,rfl⟩))|refine al fun c=>?_|refine srz ?_|(refine wo ?_;first|(refine ao ?_;first|refine aw ?_|refine aw6 ?_|refine oa ?_|refine adiv ?_|refine amod ?_|refine shr1 ?_|refine shr ?_|refine umod ?_|refine isl ?_|refine ipe ?_|refine ipn ?_|refine ibe ?_)|refine acw ?_|refine ucv ?_|refine anw ?_|refine oa ?_|refine ld ?_|refine ldl ?_|refine lnm ?_|refine ixmn ?_|refine ixm ?_|refine li ?_|refine lb ?_|refine lv ?_|refine ln ?_|refine ixn ?_|refine ix ?_|refine le ?_|refine sr ?_|refine soi ?_|refine sob ?_|refine scm ?_|refine sclm ?_|refine schm ?_|refine gy ?_|refine gn ?_|refine gnn ?_|refine gu ?_|(refine gsi (fun hB=>?_) (fun hB=>?_) <;> try (exfalso;omega))|(refine gsn (fun hB=>?_) (fun hB=>?_) <;> try (exfalso;omega))|(refine gs (fun hB=>?_) (fun hB=>?_) <;> try (exfalso;omega)))|(refine gc ?_;first|refine ct ?_|refine cf ?_|(refine ci (fun hB=>?_) (fun hB=>?_) <;> try (exfalso;omega))|(refine cn (fun hB=>?_) (fun hB=>?_) <;> try (exfalso;omega))|(refine cb (fun hB=>?_) (fun hB=>?_) <;> try (exfalso;omega)))|refine sq ?_|refine rg ?_|refine xc ?_|refine nl ?_|refine sk ?_|refine bk ?_|refine xe ?_|refine rt ?_|refine xb ?_
 rename_i d0 d1
 rename Nat=>d2
 refine rs (fun w=>w.heap[d1]? = some (.cells [.bool false,o2].toArray TIt (0,0))∧w.heap[d2]? = some (.cells [.bool false,o].toArray TIt (0,0))) ?_ (fun w hw=>⟨pt_at memA hw,pt_at memA hw⟩)
 refine tka 0 ?_
 refine tkl 1 (cs:=[.bool false,o]) (fun w h=>h.2) ?_
 refine tka 2 ?_
 refine tkl 3 (cs:=[.bool false,o2]) (fun w h=>h.1) ?_
 refine tk 4 (v:=.bool false) (fun _ _=>R_bne (E:=env) (b1:=false) (b2:=false) rfl rfl rfl) ?_
 refine tka 5 ?_
 refine tkl 6 (cs:=[.bool false,o]) (fun w h=>h.2) ?_
 refine tka 8 ?_
 refine tkl 9 (cs:=[.bool false,o2]) (fun w h=>h.1) ?_
 refine t1 7 ?_
 refine ca (hM o) ?_
 rintro _ _ ⟨o3,rfl,ho3,rfl⟩
 refine nl ?_
 refine te (fun w hw=>⟨pt_at memA hw,pt_at memA hw⟩) ?_
 refine t1 10 ?_
 refine ca (hR o3 o2) ?_
 rintro _ _ ⟨vn,vd,rfl,hvn,hvd,rfl⟩
 refine nl ?_
 refine te (fun w hw=>⟨pt_at memA hw,pt_at memA hw⟩) ?_
 refine tka 11 ?_
 refine tka 12 ?_
 refine t1 13 ?_
 refine srz ?_
 refine nl ?_
 refine te (fun w hw=>⟨pt_at memA hw,pt_at memA hw⟩) ?_
 refine tka 14 ?_
 refine t0 ?_
 repeat' first|(refine wo ?_;first|(refine ao ?_;first|refine aw ?_|refine aw6 ?_|refine oa ?_|refine adiv ?_|refine amod ?_|refine shr1 ?_|refine shr ?_|refine umod ?_|refine isl ?_|refine ipe ?_|refine ipn ?_|refine ibe ?_)|refine acw ?_|refine ucv ?_|refine anw ?_|refine oa ?_|refine ld ?_|refine ldl ?_|refine lnm ?_|refine ixmn ?_|refine ixm ?_|refine li ?_|refine lb ?_|refine lv ?_|refine ln ?_|refine ixn ?_|refine ix ?_|refine le ?_|refine sr ?_|refine soi ?_|refine sob ?_|refine scm ?_|refine sclm ?_|refine schm ?_|refine gy ?_|refine gn ?_|refine gnn ?_|refine gu ?_|(refine gsi (fun hB=>?_) (fun hB=>?_) <;> try (exfalso;omega))|(refine gsn (fun hB=>?_) (fun hB=>?_) <;> try (exfalso;omega))|(refine gs (fun hB=>?_) (fun hB=>?_) <;> try (exfalso;omega)))|(refine gc ?_;first|refine ct ?_|refine cf ?_|(refine ci (fun hB=>?_) (fun hB=>?_) <;> try (exfalso;omega))|(refine cn (fun hB=>?_) (fun hB=>?_) <;> try (exfalso;omega))|(refine cb (fun hB=>?_) (fun hB=>?_) <;> try (exfalso;omega)))|refine sq ?_|refine rg ?_|refine xc ?_|refine nl ?_|refine sk ?_|refine bk ?_|refine xe ?_|refine rt ?_|refine xb ?_
 exact rca (cs:=[.bool (decide (q.num < 0)),vn,vd]) (vs:=[.bool (decide (q.num < 0)),vn,vd]) (T:=TRt) ⟨vn,vd,rfl,hvn,hvd,rfl⟩
end Go.Art
namespace Go.Art
open Go Go.Proofs Go.RowKit
def fall (n:Nat):Nat→Nat
 | 0=>1
 | k + 1=>fall n k * (n - k)
def chs:Nat→Nat→Nat
 | _,0=>1
 | 0,_ + 1=>0
 | n + 1,k + 1=>chs n k + chs n (k + 1)
theorem chs_zero (n:Nat):chs n 0 = 1:=by cases n <;> rfl
theorem chs_succ (n k:Nat):chs (n + 1) (k + 1) = chs n k + chs n (k + 1):=rfl
theorem chs_over:∀ {n k:Nat},n < k→chs n k = 0
 | 0,k + 1,_=>rfl
 | n + 1,k + 1,h=>by rw [chs_succ,chs_over (by omega),chs_over (by omega)]
theorem chs_self:∀ n:Nat,chs n n = 1
 | 0=>rfl
 | n + 1=>by rw [chs_succ,chs_self n,chs_over (by omega)]
theorem chs_next:∀ (n k:Nat),chs n (k + 1) * (k + 1) = chs n k * (n - k)
 | 0,0=>rfl
 | 0,k + 1=>by simp [chs]
 | n + 1,0=>by
  rw [chs_succ,chs_zero,chs_zero]
  have:=chs_next n 0
  rw [chs_zero] at this
  omega
 | n + 1,k + 1=>by
  have h1:=chs_next n k
  have h2:=chs_next n (k + 1)
  rw [chs_succ n (k + 1),chs_succ n k]
  rcases Nat.lt_or_ge k n with h | h
  ·obtain ⟨m,rfl⟩ : ∃ m,n = k + 1 + m:=⟨n - (k + 1),by omega⟩
   have e1:k + 1 + m - k = m + 1:=by omega
   have e2:k + 1 + m - (k + 1) = m:=by omega
   have e3:k + 1 + m + 1 - (k + 1) = m + 1:=by omega
   rw [e1] at h1
   rw [e2] at h2
   rw [e3]
   generalize chs (k + 1 + m) k = a at *
   generalize chs (k + 1 + m) (k + 1) = b at *
   generalize chs (k + 1 + m) (k + 1 + 1) = c at *
   rw [Nat.add_mul,h2,Nat.add_mul,← h1]
   simp only [Nat.mul_add,Nat.mul_one]
   omega
  ·rw [chs_over (k:=k + 1) (by omega),chs_over (k:=k + 1 + 1) (by omega),show n + 1 - (k + 1) = 0 by omega]
   simp
theorem chs_symm:∀ {n k:Nat},k ≤ n→chs n (n - k) = chs n k
 | 0,k,h=>by
  obtain rfl:k = 0:=(by omega)
  rfl
 | n + 1,0,_=>by rw [Nat.sub_zero,chs_self,chs_zero]
 | n + 1,k + 1,h=>by
  rcases Nat.lt_or_ge k n with h1 | h1
  ·rw [show n + 1 - (k + 1) = (n - (k + 1)) + 1 by omega,chs_succ,chs_succ,chs_symm (n:=n) (k:=k + 1) (by omega),show n - (k + 1) + 1 = n - k by omega,chs_symm (n:=n) (k:=k) (by omega)]
   omega
  ·obtain rfl:k = n:=by omega
   rw [show k + 1 - (k + 1) = 0 by omega,chs_zero,chs_self]
theorem chs_pos {n k:Nat} (h:k ≤ n):chs n k ≠ 0:=by
 induction n generalizing k with
 | zero=>
  obtain rfl:k = 0:=(by omega)
  exact Nat.one_ne_zero
 | succ n ih=>
  cases k with
  | zero=>rw [chs_zero];exact Nat.one_ne_zero
  | succ k=>rw [chs_succ];have:=ih (k:=k) (by omega);omega
theorem chs_le (n k:Nat):chs n k ≤ 2 ^ n:=by
 induction n generalizing k with
 | zero=>cases k <;> simp [chs]
 | succ n ih=>
  cases k with
  | zero=>rw [chs_zero];exact Nat.one_le_two_pow
  | succ k=>rw [chs_succ,Nat.pow_succ];have:=ih k;have:=ih (k + 1);omega
theorem chs_len (n k:Nat):(dg (chs n k)).length ≤ n + 1:=(dg_len _ _).2 (by
 refine Nat.lt_of_le_of_lt (chs_le n k) (Nat.lt_of_lt_of_le (Nat.pow_lt_pow_right (a:=2) (by decide) (Nat.lt_succ_self n)) (Nat.pow_le_pow_left (by decide) _))
)
theorem chs_step {n i:Nat}:chs n i * (n - i) / (i + 1) = chs n (i + 1):=by
 rw [← chs_next,Nat.mul_div_cancel _ (by omega)]
attribute [local irreducible] Fit pt own ro vw mpc lpt vels rels mow lrc dfr
abbrev eNat (u:Value) (D:List Ch) (m:Nat) (e:Int):Prop:=∃ o,u = tup2 o (I e)∧o.oneCell' = true∧D = [own T64 o (Us (dg m))]
theorem Choose_tr (n k:Nat) (hn:n ≤ 65536) (hk:k ≤ n):Tr Tryz.prog 137 [I n,I k] [] [] fun u D=>eNat u D (chs n k) 0:=by
 obtain ⟨m,hm⟩ : ∃ m,m = min k (n - k):=⟨_,rfl⟩
 have hcm:chs n m = chs n k:=by
  rw [hm]
  rcases Nat.le_total k (n - k) with h | h
  ·rw [Nat.min_eq_left h]
  ·rw [Nat.min_eq_right h,chs_symm hk]
 have hmn:m ≤ n:=by omega
 have hmi:min (k:Int) ((n:Int) - k) = (m:Int):=by omega
 rw [← hcm]
 clear hcm
 refine Tr.enter env _ Tryz.func137 (by kernel_rfl) rfl Tryz.ntmps137 rfl (by repeat (first | exact has00 | refine has01 ?_)) fun w0=>?_
 repeat' first|(refine gca ?_;first|(refine ca (Of_tr 1 (by decide)) ?_;rintro o _ ⟨ho,rfl⟩))|(refine mnn ?_;rw [hmi])|(refine wo ?_;first|(refine ao ?_;first|refine aw ?_|refine oa ?_)|refine oa ?_|refine gy ?_)|(refine gc ?_;first|(refine ci (fun hB=>?_) (fun hB=>?_) <;> try (exfalso;omega)))|refine sq ?_|refine rg ?_|refine xc ?_|refine nl ?_|refine sk ?_|refine bk ?_
 clear hmi hm
 refine TC.loop (ι:=Nat × Value) (fun g=>[(7,I ((g.1:Int) + 1)),(6,g.2),(8,I ((n:Int) - g.1)),(9,I ((m:Int) - g.1))]) (fun g=>[own T64 g.2 (Us (dg (chs n g.1)))]) (fun g=>g.1 ≤ m∧g.2.oneCell' = true) (fun g=>m - g.1) (0,o) [] ⟨Nat.zero_le _,ho⟩ ?_ (hf:=by dsimp only;rw [chs_zero];exact fitA) (hs:=by dsimp only;simp only [Int.natCast_zero,Int.sub_zero,Int.zero_add];(repeat (refine Sub.cons rfl (by first | rfl | go_num) ?_));exact Sub.nil)
 rintro ⟨i,v⟩ ⟨hi,hv⟩
 dsimp only at hi hv ⊢
 by_cases hlt:i < m
 ·have hG:=NGrow_tr v (dg (chs n i)) (n - i) (Dg_dg _) (by omega) (by have:=chs_len n i;omega)
  have hl1:(dg (chs n i * (n - i))).length ≤ n + 2:=by
   have h1:=(dg_len _ _).1 (chs_len n i)
   exact (dg_len _ _).2 (by rw [Nat.pow_succ];exact Nat.mul_lt_mul_of_lt_of_le h1 (by omega) (by decide))
  have hP:=fun v=>Part_tr v (dg (chs n i * (n - i))) (i + 1) (Dg_dg _) (by omega) (by omega) (by omega)
  simp only [nv_dg,chs_step] at hG hP
  repeat' first|(refine gca ?_;first|(refine ca hG ?_;rintro v2 _ ⟨hv2,rfl⟩)|(refine ca (hP v2) ?_;rintro _ _ ⟨v3,rfl,hv3,rfl⟩))|(refine ntu (m:=(n:Int) - i) ?_;rw [show ((n:Int) - i).toNat = n - i by omega])|(refine ntu (m:=(i:Int) + 1) ?_;rw [show ((i:Int) + 1).toNat = i + 1 by omega])|(refine wo ?_;first|(refine ao ?_;first|refine aw ?_|refine oa ?_)|refine oa ?_)|(refine gc ?_;first|(refine ci (fun hB=>?_) (fun hB=>?_) <;> try (exfalso;omega)))|refine sq ?_|refine rg ?_|refine xc ?_|refine nl ?_|refine sk ?_|refine bk ?_|refine xb ?_
  exact lp (i + 1,v3) ⟨hlt,hv3⟩ (hs:=by dsimp only;(repeat (refine Sub.cons rfl (by first | rfl | go_num) ?_));exact Sub.nil)
 ·obtain rfl:i = m:=by omega
  repeat' first|(refine wo ?_;first|(refine ao ?_;first|refine oa ?_)|refine oa ?_)|(refine gc ?_;first|(refine ci (fun hB=>?_) (fun hB=>?_) <;> try (exfalso;omega)))|refine sq ?_|refine rg ?_|refine xc ?_|refine nl ?_|refine xe ?_|refine rt ?_
  exact r2 ⟨v,rfl,hv,rfl⟩
end Go.Art
namespace Go.Art
open Go Go.Proofs Go.RowKit
def upto (k:Nat):List Int:=(List.range k).map (fun i:Nat=>(i:Int))
def swp (l:List Int) (i j:Nat):List Int:=(l.set j (l.getD i 0)).set i (l.getD j 0)
def ordL (k:Nat):Nat→Nat→List Int→BitVec 64→List Int × BitVec 64
 | 0,_,_,st=>([],st)
 | m + 1,i,l,st=>(l.getD (i + (sdraw (k - i) st).1) 0 :: (ordL k m (i + 1) (swp l i (i + (sdraw (k - i) st).1)) (sdraw (k - i) st).2).1,(ordL k m (i + 1) (swp l i (i + (sdraw (k - i) st).1)) (sdraw (k - i) st).2).2)
def Sized (k d:Int):Prop:=1 ≤ k∧k ≤ 65536∧1 ≤ d∧d ≤ k
instance (k d:Int):Decidable (Sized k d):=by unfold Sized;infer_instance
def ordR (k d:Int) (st:BitVec 64):(List Int × Int) × (BitVec 64 × Int):=if Sized k d then (((ordL k.toNat d.toNat 0 (upto k.toNat) st).1,0),((ordL k.toNat d.toNat 0 (upto k.toNat) st).2,d)) else (([],3),(st,0))
def mps (b:Nat) (f:Int→Option Value) (k:Int) (st:Nat):Ch where
 wr:=fun x=>x = b
 rd:=fun _=>False
 bd:=fun _=>False
 P:=fun w=>MapS w b f k st
 loc:=fun {w w'} h hb=>by obtain ⟨es,c,h1,h2⟩:=h.ex;exact ⟨es,c,(hb b (.inl rfl)).trans h1,h2⟩
 lt:=fun h hb=>by rcases hb with rfl | hb | hb;(obtain ⟨es,c,h1,h2⟩:=h.ex;exact lt_of_heap h1);exact hb.elim;exact hb.elim
section
variable {P:Program} {E:Env P} {n:Sh} {X:Cx} {s:List K} {fr:Fr} {A A':List Ch} {ops:Array Oper} {rest:List Oper} {d:Nat} {ty t kt et:TypeId} {pos:String} {after:Array Edge} {x y u:Operand} {b sz by_ st:Nat} {f:Int→Option Value} {k:Int} {v z:Value}
end
attribute [local irreducible] Fit pt own ro vw mpc lpt vels rels mow lrc dfr
attribute [local irreducible] mps lmp lme mit
def PlcF (f:Int→Option Value) (g:Int→Int):Prop:=∀ i,(f i = none∧g i = i)∨f i = some (I (g i))
def upg (g:Int→Int) (k v:Int):Int→Int:=fun k'=>if k' = k then v else g k'
def RelG (k:Nat) (l:List Int) (g:Int→Int):Prop:=l.length = k∧∀ t:Nat,t < k→g t = l.getD t 0
def pickR (k d:Int) (st:BitVec 64):List Int × Int:=(srt (ordR k d st).1.1,(ordR k d st).1.2)
end Go.Art
namespace Go.Art
open Go Go.Proofs Go.RowKit
theorem TrB {P:Program} {f:FuncId} {args:List Value} {pre C:List Ch} {R:Value→List Ch→Prop} (h:Tr P f args pre C R):Tr P f args pre [bnd C] fun v D=>∃ D',R v D'∧D = [bnd D']:=by
 refine ⟨fun w hw=>?_,h.lent⟩
 have hw':Sat (pre ++ C) w:=by
  have h1:Sat (bnd C :: pre) w:=hw.perm (List.perm_append_comm (l₁:=pre) (l₂:=[bnd C]))
  exact (bnd_sat.1 h1).perm List.perm_append_comm
 refine (h.run w hw').mono fun v w' ⟨B,hR,hS,hM,hB⟩=>⟨[bnd B],⟨B,hR,rfl⟩,?_,?_,?_⟩
 ·exact bnd_sat.2 (by rw [List.append_nil];exact hS)
 ·have e1:∀ (C:List Ch) (b:Nat),wrs [bnd C] b ↔ wrs C b:=fun C b=>by have:=bnd_wrs (C:=C) (F:=[]) (b:=b);rwa [List.append_nil] at this
  have e2:∀ (C:List Ch) (b:Nat),rds [bnd C] b ↔ rds C b:=fun C b=>by have:=bnd_rds (C:=C) (F:=[]) (b:=b);rwa [List.append_nil] at this
  exact ⟨hM.os,hM.tape,hM.output,hM.size,fun k hk hn=>hM.block k hk fun h=>hn ((e1 C k).2 h),fun b hb=>(hM.wr b ((e1 B b).1 hb)).imp_left (e1 C b).2,
   fun b hb=>(hM.rd b ((e2 B b).1 hb)).imp (e1 C b).2 (Or.imp_left (e2 C b).2)⟩
 ·intro c hc b hb
  obtain rfl:=List.mem_singleton.1 hc
  obtain ⟨x,hx,hb⟩:=hb
  exact hB x hx b hb
abbrev Lw:=BitVec 64 ⊕ (List Int × Bool)
def rowOk (n:Int) (l:List Int) (br:Bool):Prop:=br = false∧0 < l.length∧0 ≤ l.getD 0 0∧l.getD 0 0 < n
instance (n:Int) (l:List Int) (br:Bool):Decidable (rowOk n l br):=by unfold rowOk;infer_instance
def drw (n:Int):Lw→(Int × Int) × Lw
 | .inl st=>if 1 ≤ n∧n ≤ 1099511627776 then ((((sdraw n.toNat st).1:Int),0),.inl (sdraw n.toNat st).2) else ((0,3),.inl st)
 | .inr (l,br)=>if 1 ≤ n∧n ≤ 1099511627776 then (if rowOk n l br then ((l.getD 0 0,0),.inr (l.drop 1,false)) else ((0,12),.inr (l,true))) else ((0,3),.inr (l,br))
def dru (n:Int) (x:Lw):Int:=if (drw n x).1.2 = 0 then 1 else 0
abbrev TLr:TypeId:=179
abbrev TpR:TypeId:=177
abbrev TLI:TypeId:=3
def okL (x:Lw):Prop:=x.isRight = true
def lotC (b r:Nat) (sv:Value) (x:Lw) (used:Int):List Ch:=
 match x with
 | .inl st=>[]
 | .inr (l,br)=>[pt b [.iface TpR (ptr r),I used,.bool br] TLo,pt r [sv] TLr,own TLI sv (Is l)]
abbrev lot (b r:Nat) (sv:Value) (x:Lw) (used:Int):Ch:=bnd (lotC b r sv x used)
theorem lotC_nb (b r:Nat) (sv:Value) (x:Lw) (used:Int):∀ c ∈ lotC b r sv x used,∀ b,¬ c.bd b:=by
 cases x with
 | inl st=>unfold lotC;(repeat (first | exact nb0 | refine nb1 ?_))
 | inr p=>unfold lotC;(repeat (first | exact nb0 | refine nb1 ?_))
instance (b r:Nat) (sv:Value) (x:Lw) (used:Int):NoB (lot b r sv x used):=⟨fun b h=>by obtain ⟨c,hc,h1⟩:=h;exact lotC_nb _ _ _ _ _ c hc b h1⟩
theorem fit_bnd {A C G:List Ch} (h:Fit A C G):Fit A [bnd C] G:=Im.trans h (im_bnd C G)
attribute [local irreducible] Fit pt own ro vw mpc lpt vels rels mow lrc dfr
attribute [local irreducible] lmp lme mit velg relg
end Go.Art
namespace Go.Art
open Go Go.Proofs Go.RowKit
def ordW (k:Nat):Nat→Nat→List Int→Lw→(List Int × Int) × Lw
 | 0,_,_,x=>(([],0),x)
 | m + 1,i,l,x=>
  if (drw ((k:Int) - i) x).1.2 = 0 then
   ((l.getD (i + (drw ((k:Int) - i) x).1.1.toNat) 0 :: (ordW k m (i + 1) (swp l i (i + (drw ((k:Int) - i) x).1.1.toNat)) (drw ((k:Int) - i) x).2).1.1,
    (ordW k m (i + 1) (swp l i (i + (drw ((k:Int) - i) x).1.1.toNat)) (drw ((k:Int) - i) x).2).1.2),(ordW k m (i + 1) (swp l i (i + (drw ((k:Int) - i) x).1.1.toNat)) (drw ((k:Int) - i) x).2).2)
  else (([],(drw ((k:Int) - i) x).1.2),(drw ((k:Int) - i) x).2)
def ordO (k d:Int) (x:Lw):(List Int × Int) × (Lw × Int):=
 if Sized k d then ((if (ordW k.toNat d.toNat 0 (upto k.toNat) x).1.2 = 0 then (ordW k.toNat d.toNat 0 (upto k.toNat) x).1.1 else [],(ordW k.toNat d.toNat 0 (upto k.toNat) x).1.2),((ordW k.toNat d.toNat 0 (upto k.toNat) x).2,((ordW k.toNat d.toNat 0 (upto k.toNat) x).1.1.length:Int)))
 else (([],3),(x,0))
def pickO (k d:Int) (x:Lw):List Int × Int:=(srt (ordO k d x).1.1,(ordO k d x).1.2)
structure OwG where
 i:Nat
 o:Value
 f:Int→Option Value
 l:List Int
 outs:List Int
 sv:Value
 x:Lw
attribute [local irreducible] Fit pt own ro vw mpc lpt vels rels mow lrc dfr
attribute [local irreducible] mps lmp lme mit
end Go.Art
namespace Go.Art
open Go Go.Proofs Go.RowKit
attribute [local irreducible] Fit pt own ro vw mpc lpt vels rels mow lrc dfr
attribute [local irreducible] lmp lme mit
def wOk (w:Int):Bool:=decide (0 ≤ w∧w ≤ 16777215)
def wPos (w:Int):Bool:=decide (0 < w)
def solE (t:List Int) (k:Int):Int:=if k < 1∨65536 < k∨t.length < 1∨k < t.length then 13 else if t.all wOk && t.any wPos then 0 else 13
theorem solE_zero {t:List Int} {k:Int} (h:solE t k = 0):(1 ≤ k∧k ≤ 65536)∧(1 ≤ t.length∧t.length ≤ k)∧(∀ w ∈ t,0 ≤ w∧w ≤ 16777215)∧∃ w ∈ t,0 < w:=by
 unfold solE at h
 split at h
 ·cases h
 ·split at h
  ·rename_i h1 h2
   rw [Bool.and_eq_true,List.all_eq_true,List.any_eq_true] at h2
   refine ⟨by omega,by omega,fun w hw=>by simpa [wOk] using h2.1 w hw,?_⟩
   obtain ⟨w,hw,hp⟩:=h2.2
   exact ⟨w,hw,by simpa [wPos] using hp⟩
  ·cases h
theorem take_all {p:Int→Bool} {t:List Int} {i:Nat} (hi:i < t.length):(t.take (i + 1)).all p = ((t.take i).all p && p (t.getD i 0)):=by rw [take_succ' hi 0,List.all_append];simp
theorem take_any {p:Int→Bool} {t:List Int} {i:Nat} (hi:i < t.length):(t.take (i + 1)).any p = ((t.take i).any p || p (t.getD i 0)):=by rw [take_succ' hi 0,List.any_append];simp
theorem all_of_take {p:Int→Bool} {t:List Int} {i:Nat} (hi:i < t.length) (h:p (t.getD i 0) = false):t.all p = false:=by
 cases hc:t.all p with
 | false=>rfl
 | true=>rw [List.all_eq_true] at hc;rw [hc _ (mem_getD.2 ⟨i,hi,rfl⟩)] at h;cases h
theorem SoCheck_tr (s:Value) (t:List Int) (k:Int):Tr Tryz.prog 53 [s,I k] [vw s (Is t)] [] fun v D=>v = I (solE t k)∧D = []:=by
 refine Tr.enter env _ Tryz.func53 (by kernel_rfl) rfl Tryz.ntmps53 rfl (by repeat (first | exact has00 | refine has01 ?_)) fun w0=>?_
 refine TC.leni (l:=t) fun htl=>?_
 repeat' first|(refine wo ?_;first|(refine ao ?_;first|refine oa ?_)|refine oa ?_|refine lnm ?_|refine gy ?_|refine gn ?_|(refine gsi (fun hB=>?_) (fun hB=>?_) <;> try (exfalso;omega)))|(refine gc ?_;first|refine ct ?_|(refine ci (fun hB=>?_) (fun hB=>?_) <;> try (exfalso;omega)))|refine sq ?_|refine rg ?_|refine xc ?_|refine nl ?_|refine sk ?_|refine bk ?_|refine rt ?_
 ·exact r1 ⟨by rw [solE,if_pos (by omega)],rfl⟩
 ·exact r1 ⟨by rw [solE,if_pos (by omega)],rfl⟩
 ·exact r1 ⟨by rw [solE,if_pos (by omega)],rfl⟩
 ·exact r1 ⟨by rw [solE,if_pos (by omega)],rfl⟩
 rw [show solE t k = if t.all wOk && t.any wPos then 0 else 13 by rw [solE,if_neg (by omega)]]
 refine TC.loop (ι:=Nat × Bool) (fun i=>[(27,I i.1),(5,.bool i.2)]) (fun _=>[]) (fun i=>i.1 ≤ t.length∧(t.take i.1).all wOk = true∧i.2 = (t.take i.1).any wPos) (fun i=>t.length - i.1) (0,false) [25,26] ⟨by simp,rfl,rfl⟩ ?_
 rintro ⟨i,so⟩ ⟨h1,h2,h3⟩
 dsimp only at h1 h2 h3 ⊢
 by_cases hi:i < t.length
 ·have ha:=take_all (p:=wOk) hi
  have hb:=take_any (p:=wPos) hi
  have hc:=all_of_take (p:=wOk) hi
  generalize hy:t.getD i 0 = y at *
  repeat' first|refine lie hy ?_|(refine wo ?_;first|(refine ao ?_;first|refine aw ?_|refine oa ?_)|refine oa ?_|refine ixmn ?_|refine gy ?_|refine gn ?_|(refine gsi (fun hB=>?_) (fun hB=>?_) <;> try (exfalso;omega))|(refine gs (fun hB=>?_) (fun hB=>?_) <;> try (exfalso;omega)))|(refine gc ?_;first|refine ct ?_|(refine ci (fun hB=>?_) (fun hB=>?_) <;> try (exfalso;omega)))|refine sq ?_|refine rg ?_|refine xc ?_|refine nl ?_|refine sk ?_|refine bk ?_|refine rt ?_|refine xb ?_
  ·refine r1 ⟨?_,rfl⟩
   rw [hc (by simp [wOk];omega)];rfl
  ·refine r1 ⟨?_,rfl⟩
   rw [hc (by simp [wOk];omega)];rfl
  ·have hw:wOk y = true:=by simp [wOk];omega
   exact lp (i + 1,true) ⟨by dsimp only;omega,by dsimp only;rw [ha,h2,hw];rfl,by dsimp only;rw [hb,← h3,hB];rfl⟩
  ·have hw:wOk y = true:=by simp [wOk];omega
   exact lp (i + 1,decide (0 < y)) ⟨by dsimp only;omega,by dsimp only;rw [ha,h2,hw];rfl,by dsimp only;rw [hb,← h3,hB];rfl⟩
 ·obtain rfl:i = t.length:=by omega
  rw [List.take_length] at h2 h3
  repeat' first|(refine wo ?_;first|(refine ao ?_;first|refine oa ?_)|refine oa ?_)|(refine gc ?_;first|(refine ci (fun hB=>?_) (fun hB=>?_) <;> try (exfalso;omega))|(refine cb (fun hB=>?_) (fun hB=>?_) <;> try (exfalso;omega)))|refine sq ?_|refine rg ?_|refine xc ?_|refine nl ?_|refine sk ?_|refine xe ?_|refine rt ?_
  ·refine r1 ⟨?_,rfl⟩
   rw [h2,← h3,show so = false by simpa using hB];rfl
  ·refine r1 ⟨?_,rfl⟩
   rw [h2,← h3,show so = true by simpa using hB];rfl
def total (t:List Int):Int:=t.sum
theorem take_sum {t:List Int} {i:Nat} (hi:i < t.length):(t.take (i + 1)).sum = (t.take i).sum + t.getD i 0:=by rw [take_succ' hi 0,List.sum_append];simp
theorem sum_bound {t:List Int} (h:∀ w ∈ t,0 ≤ w∧w ≤ 16777215):0 ≤ t.sum∧t.sum ≤ 16777215 * t.length:=by
 induction t with
 | nil=>simp
 | cons a r ih=>
  have h1:=h a (by simp)
  have h2:=ih fun w hw=>h w (by simp [hw])
  simp only [List.sum_cons,List.length_cons]
  omega
end Go.Art
namespace Go.Art
open Go Go.Proofs Go.RowKit
attribute [local irreducible] Fit pt own ro vw mpc lpt vels rels mow lrc dfr
attribute [local irreducible] lmp lme mit velg relg
abbrev TAl:TypeId:=116
def farB (m x:Int):Bool:=decide (x < 0∨m < x)
def alE (tot:Int) (cut oth:List Int):Int:=if tot < 1∨1099511627776 < tot∨cut.length < 1∨65536 < cut.length∨oth.length ≠ cut.length then 6 else if cut.any (farB tot) || oth.any (farB (cut.length - 1)) then 6 else 0
def alPick (tot:Int) (cut oth:List Int) (c l:Int):Int:=if l < cut.getD c.toNat 0 then c else oth.getD c.toNat 0
end Go.Art
namespace Go.Art
open Go Go.Proofs Go.RowKit
def rwE (tot:Int) (cut oth:List Int) (k:Int):Int:=if alE tot cut oth = 0 then (if k < 1∨65536 < k∨k < cut.length then 3 else 0) else 6
def plcW (tot:Int) (cut oth:List Int) (x:Lw):(Int × Int) × (Lw × Int):=
 if (drw cut.length x).1.2 = 0 then
  (if (drw tot (drw cut.length x).2).1.2 = 0 then ((alPick tot cut oth (drw cut.length x).1.1 (drw tot (drw cut.length x).2).1.1,0),((drw tot (drw cut.length x).2).2,2))
   else ((0,(drw tot (drw cut.length x).2).1.2),((drw tot (drw cut.length x).2).2,1)))
 else ((0,(drw cut.length x).1.2),((drw cut.length x).2,0))
def setW (tot:Int) (cut oth:List Int) (k:Int) (x:Lw):(List Int × Int) × (Lw × Int):=
 if rwE tot cut oth k = 0 then
  (if (plcW tot cut oth x).1.2 = 0 then (pickO k ((plcW tot cut oth x).1.1 + 1) (plcW tot cut oth x).2.1,((ordO k ((plcW tot cut oth x).1.1 + 1) (plcW tot cut oth x).2.1).2.1,(plcW tot cut oth x).2.2 + (ordO k ((plcW tot cut oth x).1.1 + 1) (plcW tot cut oth x).2.1).2.2))
   else (([],(plcW tot cut oth x).1.2),(plcW tot cut oth x).2))
 else (([],rwE tot cut oth k),(x,0))
attribute [local irreducible] Fit pt own ro vw mpc lpt vels rels mow lrc dfr
attribute [local irreducible] lmp lme mit velg relg
end Go.Art
namespace Go.Art
open Go Go.Proofs Go.RowKit
abbrev Fr3:=Bool × List Nat × List Nat
abbrev rqf (q:Rat):Fr3:=(decide (q.num < 0),dg q.num.natAbs,dg q.den)
abbrev rqn:Fr3:=(false,[],[])
abbrev FW (t:Fr3 × Int) (u:Value) (D:List Ch):Prop:=∃ vn vd,u = tup2 (.agg #[.bool t.1.1,vn,vd]) (I t.2)∧vn.oneCell' = true∧vd.oneCell' = true∧D = [own T64 vn (Us t.1.2.1),own T64 vd (Us t.1.2.2)]
def meaW (tot:Int) (cut oth:List Int) (k d:Int):Fr3 × Int:=
 if rwE tot cut oth k = 0 then (if d < 1∨cut.length < d then (rqn,3) else (rqf (mkRat 1 (fall k.toNat d.toNat * cut.length * tot.toNat)),0)) else (rqn,rwE tot cut oth k)
def chaW (t:List Int) (k d:Int):Fr3 × Int:=
 if solE t k = 0 then (if d < 1∨t.length < d then (rqn,3) else (rqf (mkRat (t.getD (d - 1).toNat 0) (chs k.toNat d.toNat * t.sum.toNat)),0)) else (rqn,13)
section
variable {P:Program} {E:Env P} {X:Cx} {fr:Fr} {A D G:List Ch}
theorem rcc {w0:World} {A0:List Ch} {R':Value→List Ch→Prop} {fn:Func} {t nn:Nat} {ty T:TypeId} {dt:TypeDesc} {b:Nat} {cs:List Value} {v:Value} (h:R' v D) (hr:fn.results = #[.cell t ty]:=by rfl) (ht:lk E.und ty = some dt:=by rfl) (hg:aggB dt = false:=by rfl)
  (hv:get fr t = some (ptr b):=by rfl) (hm:pt b cs T ∈ A:=by exact memA) (hc:cs[0]? = some v:=by rfl) (hf:Fit A D G:=by exact fitA) (nb:∀ c ∈ D,∀ b,¬ c.bd b:=by (repeat (first | exact nb0 | refine nb1 ?_));first | done | fail) :
  TX E ⟨nn,[],none⟩ ⟨bodyPost P fn (RetP (PR w0 A0 R')),w0,A0⟩ [] .ret fr A:=⟨fun w hw=>⟨fun a ha=>
 bodyPost_ret (res_c (E:=E) ha hr ht hg hv (ptcell hw.sat hm hc)) (ha.defers.trans rfl) ⟨_,rfl,PR.mk h hw hf nb⟩⟩⟩
end
attribute [local irreducible] Fit pt own ro vw mpc lpt vels rels mow lrc dfr
attribute [local irreducible] lmp lme mit velg relg
theorem one_tr:Tr Tryz.prog 70 [] [] [] fun u D=>u.oneCell' = true∧D = [own T64 u (Us [1])]:=by
 refine Tr.enter env _ Tryz.func70 (by kernel_rfl) rfl Tryz.ntmps70 rfl (by repeat (first | exact has00 | refine has01 ?_)) fun w0=>?_
 repeat' first|(refine slu [1] fun o ho=>?_)|(refine wo ?_;first|refine oa ?_)|refine sq ?_|refine rg ?_|refine xc ?_|refine nl ?_|refine rt ?_
 exact r1 ⟨ho,rfl⟩
theorem soAdd_tr (c:Nat) (m w:Int) (h : -9223372036854775808 ≤ m + w∧m + w ≤ 9223372036854775807):Tr Tryz.prog 198 [I w,ptr c] [] [pt c [I m] TLI] fun _ D=>D = [pt c [I (m + w)] TLI]:=by
 refine Tr.enter env _ Tryz.func198 (by kernel_rfl) rfl Tryz.ntmps198 rfl (by repeat (first | exact has00 | refine has01 ?_)) fun w0=>?_
 repeat' first|(refine wo ?_;first|(refine ao ?_;first|refine aw ?_)|refine oa ?_|refine ld ?_|refine sr ?_)|refine rg ?_|refine nl ?_
 exact e0 rfl
theorem SoTotal_tr (s:Value) (t:List Int) (h1:1 ≤ t.length∧t.length ≤ 65536) (hw:∀ w ∈ t,0 ≤ w∧w ≤ 16777215):Tr Tryz.prog 139 [s] [vw s (Is t)] [] fun v D=>v = I t.sum∧D = []:=by
 refine Tr.enter env _ Tryz.func139 (by kernel_rfl) rfl Tryz.ntmps139 rfl (by repeat (first | exact has00 | refine has01 ?_)) fun w0=>?_
 repeat' first|refine al fun c=>?_|(refine wo ?_;first|refine oa ?_|refine lnm ?_)|refine sq ?_|refine rg ?_|refine xc ?_|refine nl ?_|refine bk ?_
 refine TC.loop (ι:=Nat) (fun i=>[(9,I i)]) (fun i=>[pt c [I (t.take i).sum] TLI]) (fun i=>i ≤ t.length) (fun i=>t.length - i) 0 [2,3,7,8] (by simp) ?_
 rintro i h2
 by_cases hi:i < t.length
 ·have hs:=take_sum hi
  have hb:=hw _ (mem_getD.2 ⟨i,hi,rfl⟩)
  have hc:=sum_bound (t:=t.take i) fun w h=>hw w (List.mem_of_mem_take h)
  rw [List.length_take] at hc
  generalize hy:t.getD i 0 = y at *
  generalize (t.take i).sum = m at *
  repeat' first|refine lie hy ?_|(refine cav (cap:=#[ptr c]) (vs:=[I y]) (soAdd_tr c m y (by omega)) ?_;rintro _ _ rfl)|(refine wo ?_;first|(refine ao ?_;first|refine aw ?_|refine oa ?_)|refine oa ?_|refine ixmn ?_)|(refine gc ?_;first|(refine ci (fun hB=>?_) (fun hB=>?_) <;> try (exfalso;omega)))|refine sq ?_|refine rg ?_|refine xc ?_|refine nl ?_|refine sk ?_|refine bk ?_|refine xb ?_
  exact lp (i + 1) (by omega) (hf:=by rw [hs];exact fitA)
 ·obtain rfl:i = t.length:=by omega
  rw [List.take_length]
  repeat' first|(refine wo ?_;first|(refine ao ?_;first|refine oa ?_)|refine ld ?_|refine sr ?_)|(refine gc ?_;first|(refine ci (fun hB=>?_) (fun hB=>?_) <;> try (exfalso;omega)))|refine sq ?_|refine rg ?_|refine xc ?_|refine nl ?_|refine xe ?_|refine rt ?_
  exact rcc (cs:=[I t.sum]) (T:=TLI) ⟨rfl,rfl⟩
end Go.Art
namespace Go.Art
open Go Go.Proofs Go.RowKit
attribute [local irreducible] Fit pt own ro vw mpc lpt vels rels mow lrc dfr
theorem RGcd_tr (va vb:Value) (a b:List Nat) (ha:Dg a) (hb:Dg b) (hla:a.length ≤ 262144) (hlb:b.length ≤ 262144):Tr Tryz.prog 160 [va,vb] [vw va (Us a),vw vb (Us b)] [] fun u D=>u.oneCell' = true∧D = [own T64 u (Us (dg (Nat.gcd (nv a) (nv b))))]:=by
 have h1:=dg_len_le ha
 have h2:=dg_len_le hb
 obtain ⟨na,hna⟩ : ∃ na,na = nv a:=⟨_,rfl⟩
 obtain ⟨nb,hnb⟩ : ∃ nb,nb = nv b:=⟨_,rfl⟩
 have hTa:=RTrim_tr va a ha (by omega)
 have hTb:=RTrim_tr vb b hb (by omega)
 rw [← hna] at h1 hTa ⊢
 rw [← hnb] at h2 hTb ⊢
 clear hna hnb
 refine Tr.enter env _ Tryz.func160 (by kernel_rfl) rfl Tryz.ntmps160 rfl (by repeat (first | exact has00 | refine has01 ?_)) fun w0=>?_
 repeat' first|(refine gca ?_;first|(refine ca hTa ?_;rintro u1 _ ⟨hu1,rfl⟩)|(refine ca hTb ?_;rintro u2 _ ⟨hu2,rfl⟩))|(refine wo ?_;first|refine oa ?_)|refine sq ?_|refine rg ?_|refine xc ?_|refine nl ?_|refine bk ?_
 refine TC.loop (ι:=Nat × Nat × Value × Value) (fun k=>[(0,k.2.2.1),(1,k.2.2.2)]) (fun k=>[own T64 k.2.2.1 (Us (dg k.1)),own T64 k.2.2.2 (Us (dg k.2.1))]) (fun k=>(dg k.1).length ≤ 262144∧(dg k.2.1).length ≤ 262144∧Nat.gcd k.1 k.2.1 = Nat.gcd na nb∧k.2.2.1.oneCell' = true∧k.2.2.2.oneCell' = true) (fun k=>k.2.1) (na,nb,u1,u2) [] ⟨by dsimp only;omega,by dsimp only;omega,rfl,hu1,hu2⟩ ?_
 rintro ⟨p,q,v1,v2⟩ ⟨g1,g2,g3,g4,g5⟩
 dsimp only at g1 g2 g3 g4 g5 ⊢
 by_cases hq:q = 0
 ·subst hq
  have hl:(dg 0).length = 0:=by rw [dg_zero];rfl
  rw [Nat.gcd_zero_right] at g3
  rw [← g3]
  repeat' first|(refine wo ?_;first|(refine ao ?_;first|refine oa ?_)|refine oa ?_|refine lnm ?_)|(refine gc ?_;first|(refine ci (fun hB=>?_) (fun hB=>?_) <;> try (exfalso;omega)))|refine sq ?_|refine rg ?_|refine xc ?_|refine nl ?_|refine xe ?_|refine rt ?_
  exact r1 ⟨g4,rfl⟩
 ·have hl:=dg_len_pos hq
  have hD:=RDiv_tr v1 v2 (dg p) (dg q) (Dg_dg p) (Dg_dg q) (by omega) (by omega) (by rw [nv_dg];exact hq)
  rw [nv_dg,nv_dg] at hD
  have hm:p % q < q:=Nat.mod_lt _ (by omega)
  have hml:=Nat.le_trans (dg_mono (Nat.le_of_lt hm)) g2
  have hg:Nat.gcd q (p % q) = Nat.gcd na nb:=by rw [← g3,Nat.gcd_comm p q,Nat.gcd_rec q p,Nat.gcd_comm]
  obtain ⟨r,hr⟩ : ∃ r,r = p % q:=⟨_,rfl⟩
  unfold DivR at hD
  rw [← hr] at hm hml hg hD
  repeat' first|(refine gca ?_;first|(refine ca hD ?_;rintro _ _ ⟨qv,rv,rfl,hqv,hrv,rfl⟩))|(refine wo ?_;first|(refine ao ?_;first|refine oa ?_)|refine oa ?_|refine lnm ?_)|(refine gc ?_;first|(refine ci (fun hB=>?_) (fun hB=>?_) <;> try (exfalso;omega)))|refine sq ?_|refine rg ?_|refine xc ?_|refine nl ?_|refine sk ?_|refine bk ?_|refine xb ?_
  exact lp (q,r,v2,rv) ⟨g2,hml,hg,g5,hrv⟩
theorem RIMake_tr (b:Bool) (v:Value) (l:List Nat) (hd:Dg l) (hl:l.length ≤ 1099511627776):Tr Tryz.prog 115 [.bool b,v] [vw v (Us l)] [] (IR (sg b (nv l))):=by
 have hlp:0 < (dg (nv l)).length ↔ 0 < nv l:=⟨fun h=>Nat.pos_of_ne_zero fun e=>by rw [e,dg_zero] at h;simp at h,fun h=>dg_len_pos (by omega)⟩
 have hll:=dg_len_le hd
 unfold IR
 rw [sg_abs,sg_neg]
 refine Tr.enter env _ Tryz.func115 (by kernel_rfl) rfl Tryz.ntmps115 rfl (by repeat (first | exact has00 | refine has01 ?_)) fun w0=>?_
 repeat' first|(refine gca ?_;first|(refine ca (RTrim_tr v l hd (by omega)) ?_;rintro o _ ⟨ho,rfl⟩))|refine al fun c=>?_|refine bdz ?_|refine srz ?_|(refine wo ?_;first|(refine ao ?_;first|refine oa ?_)|refine oa ?_|refine lnm ?_|refine gy ?_|refine gn ?_|(refine gs (fun hB=>?_) (fun hB=>?_) <;> try (exfalso;omega)))|refine sq ?_|refine rg ?_|refine xc ?_|refine nl ?_|refine rt ?_
 ·subst hB
  exact rca1 (b:=c) (cs:=[.bool (decide (0 < ((dg (nv l)).length:Int))),o]) (vs:=[.bool (decide (0 < ((dg (nv l)).length:Int))),o]) (T:=TIt) ⟨o,by simp [hlp],ho,rfl⟩
 ·subst hB
  exact rca1 (b:=c) (cs:=[.bool false,o]) (vs:=[.bool false,o]) (T:=TIt) ⟨o,rfl,ho,rfl⟩
theorem RIOf_tr (x:Nat) (hx:x < 9223372036854775808):Tr Tryz.prog 161 [I x] [] [] (IR (x:Int)):=by
 have h1:=dg_len1 (n:=x) (by omega)
 have hM:=fun o=>RIMake_tr false o (dg x) (Dg_dg x) (by omega)
 have hs:sg false x = (x:Int):=rfl
 simp only [nv_dg,hs] at hM
 unfold IR at hM ⊢
 refine Tr.enter env _ Tryz.func161 (by kernel_rfl) rfl Tryz.ntmps161 rfl (by repeat (first | exact has00 | refine has01 ?_)) fun w0=>?_
 repeat' first|(refine gca ?_;first|(refine ca (ROf_tr x (by omega)) ?_;rintro o _ ⟨ho,rfl⟩)|(refine ca (hM o) ?_;rintro _ _ ⟨o2,rfl,ho2,rfl⟩))|refine al fun c=>?_|refine srz ?_|(refine wo ?_;first|(refine ao ?_;first|refine oa ?_)|refine ntu ?_|refine oa ?_)|(refine gc ?_;first|refine cf ?_)|refine sq ?_|refine rg ?_|refine xc ?_|refine nl ?_|refine sk ?_|refine rt ?_
 exact rca1 (cs:=[.bool (decide ((x:Int) < 0)),o2]) (vs:=[.bool (decide ((x:Int) < 0)),o2]) (T:=TIt) ⟨o2,rfl,ho2,rfl⟩
theorem RICheck_tr (z:Int) (o:Value):Tr Tryz.prog 157 [iv z o] [vw o (Us (dz z))] [] fun u D=>u = I 0∧D = []:=by
 have hC:=RNCheck_tr o (dz z)
 have hk:=icheck_ok z
 rw [if_neg fun h=>hk (.inr h)] at hC
 have hk2:z < 0→(dz z).length ≠ 0:=fun h1 h2=>hk (.inl ⟨decide_eq_true h1,h2⟩)
 clear hk
 refine Tr.enter env _ Tryz.func157 (by kernel_rfl) rfl Tryz.ntmps157 rfl (by repeat (first | exact has00 | refine has01 ?_)) fun w0=>?_
 repeat' first|(refine gca ?_;first|(refine ca hC ?_;rintro _ _ ⟨rfl,rfl⟩))|refine bx fun q=>?_|(refine wo ?_;first|(refine ao ?_;first|refine oa ?_)|refine oa ?_|refine ld ?_|refine lnm ?_|refine gy ?_|refine gn ?_|(refine gsi (fun hB=>?_) (fun hB=>?_) <;> try (exfalso;omega)))|(refine gc ?_;first|refine cf ?_|(refine ci (fun hB=>?_) (fun hB=>?_) <;> try (exfalso;omega)))|refine sq ?_|refine rg ?_|refine xc ?_|refine nl ?_|refine sk ?_|refine rt ?_
 all_goals first | (exfalso;have:=hk2 (by assumption);omega) | exact r1 ⟨rfl,rfl⟩
theorem Rlowest_tr (b:Bool) (o dv:Value) (l m:List Nat) (hl:Dg l) (hm:Dg m) (hll:l.length ≤ 262144) (hlm:m.length ≤ 262144) (hm0:nv m ≠ 0) :
  Tr Tryz.prog 162 [.agg #[.bool b,o],dv] [vw o (Us l),vw dv (Us m)] [] (FQ (mkRat (sg b (nv l)) (nv m))):=by
 have e1:=mk_abs (sg b (nv l)) hm0
 have e2:=mk_den (sg b (nv l)) hm0
 have e3:=sg_mk b (nv l) hm0
 rw [sg_abs] at e1 e2
 have hg0:Nat.gcd (nv l) (nv m) ≠ 0:=Nat.ne_of_gt (Nat.gcd_pos_of_pos_right _ (by omega))
 have hgl:(dg (Nat.gcd (nv l) (nv m))).length ≤ m.length:=dg_le hm (Nat.gcd_le_right _ (by omega))
 have hB1:=fun g=>RDiv_tr o g l (dg (Nat.gcd (nv l) (nv m))) hl (Dg_dg _) (by omega) (by omega) (by rw [nv_dg];exact hg0)
 have hB2:=fun g=>RDiv_tr dv g m (dg (Nat.gcd (nv l) (nv m))) hm (Dg_dg _) (by omega) (by omega) (by rw [nv_dg];exact hg0)
 have hG:=RGcd_tr o dv l m hl hm (by omega) (by omega)
 have hql:(dg (nv l / Nat.gcd (nv l) (nv m))).length ≤ l.length:=dg_le hl (Nat.div_le_self _ _)
 have hM:=fun u=>RIMake_tr b u (dg (nv l / Nat.gcd (nv l) (nv m))) (Dg_dg _) (by omega)
 simp only [nv_dg] at hB1 hB2 hM
 unfold IR at hM
 unfold DivR at hB1 hB2
 simp only [sg_abs,sg_neg] at hM
 simp only [← e3] at hM
 simp only [← e2] at hB2
 simp only [← e1] at hB1 hM
 obtain ⟨q,hq⟩ : ∃ q,q = mkRat (sg b (nv l)) (nv m):=⟨_,rfl⟩
 obtain ⟨g,hgg⟩ : ∃ g,g = Nat.gcd (nv l) (nv m):=⟨_,rfl⟩
 simp only [← hq] at hB1 hB2 hM ⊢
 simp only [← hgg] at hB1 hB2 hG
 generalize nv l % g = m1 at *
 generalize nv m % g = m2 at *
 clear e1 e2 e3 hg0 hgl hql hq hgg
 refine Tr.enter env _ Tryz.func162 (by kernel_rfl) rfl Tryz.ntmps162 rfl (by repeat (first | exact has00 | refine has01 ?_)) fun w0=>?_
 repeat' first|(refine gca ?_;first|(refine ca hG ?_;rintro gv _ ⟨hgv,rfl⟩)|(refine ca (hB1 gv) ?_;rintro _ _ ⟨u1,u2,rfl,hu1,hu2,rfl⟩)|(refine ca (hB2 gv) ?_;rintro _ _ ⟨u3,u4,rfl,hu3,hu4,rfl⟩)|(refine ca (hM u1) ?_;rintro _ _ ⟨u5,rfl,hu5,rfl⟩))|refine bx fun q1=>?_|refine al fun c=>?_|refine bdm ?_|refine srz ?_|(refine wo ?_;first|refine oa ?_|refine ld ?_)|refine sq ?_|refine rg ?_|refine xc ?_|refine nl ?_|refine rt ?_
 exact rca1 (cs:=[.bool (decide (q.num < 0)),u5,u3]) (vs:=[.bool (decide (q.num < 0)),u5,u3]) (T:=TRt) ⟨u5,u3,rfl,hu5,hu3,rfl⟩
theorem RFMake_tr (z:Int) (o dv:Value) (m:List Nat) (hm:Dg m) (hll:(dz z).length ≤ 262144) (hlm:m.length ≤ 262144) (hm0:nv m ≠ 0) :
  Tr Tryz.prog 114 [iv z o,dv] [vw o (Us (dz z)),vw dv (Us m)] [] (FQ2 (mkRat z (nv m)) 0):=by
 have hC:=RICheck_tr z o
 have hT:=RTrim_tr dv m hm (by omega)
 have hpos:=dg_len_pos hm0
 have hL:=Rlowest_tr (decide (z < 0)) o dv (dz z) m (Dg_dg _) hm hll hlm hm0
 have hs:sg (decide (z < 0)) (nv (dz z)) = z:=by
  unfold sg;rw [nv_dg]
  by_cases h:z < 0
  ·rw [if_pos (by simpa using h)];omega
  ·rw [if_neg (by simpa using h)];omega
 rw [hs] at hL
 unfold FQ at hL
 obtain ⟨q,hq⟩ : ∃ q,q = mkRat z (nv m):=⟨_,rfl⟩
 rw [← hq] at hL ⊢
 refine Tr.enter env _ Tryz.func114 (by kernel_rfl) rfl Tryz.ntmps114 rfl (by repeat (first | exact has00 | refine has01 ?_)) fun w0=>?_
 repeat' first|(refine gca ?_;first|(refine ca hC ?_;rintro _ _ ⟨rfl,rfl⟩)|(refine ca hT ?_;rintro tv _ ⟨htv,rfl⟩)|(refine ca hL ?_;rintro _ _ ⟨vn,vd,rfl,hvn,hvd,rfl⟩))|refine bx fun q1=>?_|refine al fun c=>?_|refine lda ?_|refine srz ?_|(refine wo ?_;first|(refine ao ?_;first|refine oa ?_)|refine oa ?_|refine lnm ?_)|(refine gc ?_;first|refine cf ?_|(refine ci (fun hB=>?_) (fun hB=>?_) <;> try (exfalso;omega)))|refine sq ?_|refine rg ?_|refine xc ?_|refine nl ?_|refine sk ?_|refine bk ?_|refine rt ?_|refine xb ?_
 exact rca (cs:=[.bool (decide (q.num < 0)),vn,vd]) (vs:=[.bool (decide (q.num < 0)),vn,vd]) (T:=TRt) ⟨vn,vd,rfl,hvn,hvd,rfl⟩
theorem RSoTotal_tr (s:Value) (t:List Int) (h1:1 ≤ t.length∧t.length ≤ 65536) (hw:∀ w ∈ t,0 ≤ w∧w ≤ 16777215):Tr Tryz.prog 221 [s] [vw s (Is t)] [] fun v D=>v = I t.sum∧D = []:=by
 refine Tr.enter env _ Tryz.func221 (by kernel_rfl) rfl Tryz.ntmps221 rfl (by repeat (first | exact has00 | refine has01 ?_)) fun w0=>?_
 repeat' first|(refine wo ?_;first|refine oa ?_)|refine sq ?_|refine rg ?_|refine xc ?_|refine nl ?_|refine bk ?_
 refine TC.loop (ι:=Nat) (fun i=>[(4,I i),(3,I (t.take i).sum)]) (fun _=>[]) (fun i=>i ≤ t.length) (fun i=>t.length - i) 0 [0] (by simp) ?_
 rintro i h2
 by_cases hi:i < t.length
 ·have hs:=take_sum hi
  have hb:=hw _ (mem_getD.2 ⟨i,hi,rfl⟩)
  have hc:=sum_bound (t:=t.take i) fun w h=>hw w (List.mem_of_mem_take h)
  rw [List.length_take] at hc
  generalize hy:t.getD i 0 = y at *
  repeat' first|refine lie hy ?_|(refine wo ?_;first|(refine ao ?_;first|refine aw ?_|refine oa ?_)|refine oa ?_|refine lnm ?_|refine ixmn ?_)|(refine gc ?_;first|(refine ci (fun hB=>?_) (fun hB=>?_) <;> try (exfalso;omega)))|refine sq ?_|refine rg ?_|refine xc ?_|refine nl ?_|refine sk ?_|refine bk ?_|refine xb ?_
  exact lp (i + 1) (by omega) (hs:=by rw [hs];(repeat (refine Sub.cons rfl (by first | rfl | go_num) ?_));exact Sub.nil)
 ·obtain rfl:i = t.length:=by omega
  rw [List.take_length]
  repeat' first|(refine wo ?_;first|(refine ao ?_;first|refine oa ?_)|refine oa ?_|refine lnm ?_)|(refine gc ?_;first|(refine ci (fun hB=>?_) (fun hB=>?_) <;> try (exfalso;omega)))|refine sq ?_|refine rg ?_|refine xc ?_|refine nl ?_|refine xe ?_|refine rt ?_
  exact r1 ⟨rfl,rfl⟩
end Go.Art
namespace Go.Art
open Go Go.Proofs Go.RowKit
attribute [local irreducible] Fit pt own ro vw mpc lpt vels rels mow lrc dfr
theorem nat_tr (v:Value) (l:List Nat) (h:Nat) (hd:Dg l) (hl:l.length + h ≤ 4398046511104):Tr Tryz.prog 234 [v,I h] [vw v (Us l)] [] fun u D=>u.oneCell' = true∧∃ m,D = [own T64 u (Us m)]∧Dg m∧nv m = 18446744073709551616 ^ h * nv l∧m.length ≤ l.length + h:=by
 by_cases h0:l = []
 ·subst h0
  refine Tr.enter env _ Tryz.func234 (by kernel_rfl) rfl Tryz.ntmps234 rfl (by repeat (first | exact has00 | refine has01 ?_)) fun w0=>?_
  repeat' first|refine ln (xs:=[]) ?_|(refine wo ?_;first|(refine ao ?_;first|refine oa ?_)|refine oa ?_)|(refine gc ?_;first|refine ct ?_)|refine sq ?_|refine rg ?_|refine xc ?_|refine nl ?_|refine rt ?_
  refine TX.im (own_nil T64 _) ?_
  exact r1 ⟨rfl,[],rfl,Dg.nil,by simp [nv],by simp⟩
 ·have hp:0 < l.length:=List.length_pos_iff.2 h0
  refine Tr.enter env _ Tryz.func234 (by kernel_rfl) rfl Tryz.ntmps234 rfl (by repeat (first | exact has00 | refine has01 ?_)) fun w0=>?_
  repeat' first|(refine mku fun o=>?_;rw [Int.toNat_natCast])|(refine apu (l:=List.replicate h 0) (news:=l) (hl:=by rw [List.length_replicate];omega) fun u=>?_;refine TO.one (v:=u) (xs:=Us (List.replicate h 0 ++ l)) fun hu=>?_)|(refine wo ?_;first|(refine ao ?_;first|refine oa ?_)|refine oa ?_|refine lnm ?_)|(refine gc ?_;first|(refine ci (fun hB=>?_) (fun hB=>?_) <;> try (exfalso;omega)))|refine sq ?_|refine rg ?_|refine xc ?_|refine nl ?_|refine sk ?_|refine rt ?_
  exact r1 ⟨hu,_,rfl,(Dg.rep h).app hd,by rw [nv_app,nv_rep,List.length_replicate,Nat.zero_add],by rw [List.length_append,List.length_replicate];omega⟩
def lessN (n a b:Nat):Nat→Nat
 | 0=>n
 | 1=>n - a
 | _=>n - a - b
def lessJ (n a b:Nat) (v:Value):Nat→List Ch
 | 0=>[]
 | i + 1=>[own T64 v (Us (dg (lessN n a b (i + 1))))]
theorem less_tr (n0 lv x1 x2:Value) (N a b:List Nat) (hN:Dg N) (ha:Dg a) (hb:Dg b) (lN:N.length ≤ 1099511627776) (la:a.length ≤ 1099511627776) (lb:b.length ≤ 1099511627776) (h0:n0.oneCell' = true) (hle:nv a + nv b ≤ nv N) :
  Tr Tryz.prog 233 [n0,lv] [vw lv [x1,x2],vw n0 (Us N),vw x1 (Us a),vw x2 (Us b)] [] fun u D=>u.oneCell' = true∧D = [own T64 u (Us (dg (nv N - nv a - nv b)))]:=by
 have s1:=fun v=>NSub_tr v x1 N a hN ha lN la (by omega)
 have l2:(dg (nv N - nv a)).length ≤ 1099511627776:=Nat.le_trans (dg_mono (Nat.sub_le _ _)) (Nat.le_trans (dg_len_le hN) lN)
 have s2:=fun v=>NSub_tr v x2 (dg (nv N - nv a)) b (Dg_dg _) hb l2 lb (by rw [nv_dg];omega)
 simp only [nv_dg] at s2
 have hl2:([x1,x2]:List Value).length = 2:=rfl
 refine Tr.enter env _ Tryz.func233 (by kernel_rfl) rfl Tryz.ntmps233 rfl (by repeat (first | exact has00 | refine has01 ?_)) fun w0=>?_
 repeat' first|(refine ln (xs:=[x1,x2]) ?_;rw [hl2])|(refine wo ?_;first|refine oa ?_)|refine sq ?_|refine rg ?_|refine xc ?_|refine nl ?_|refine bk ?_
 refine TC.loop (ι:=Nat × Value) (fun k=>[(9,I k.1),(0,k.2)]) (fun k=>lessJ (nv N) (nv a) (nv b) k.2 k.1) (fun k=>k.1 ≤ 2∧(k.1 = 0→k.2 = n0)∧k.2.oneCell' = true) (fun k=>2 - k.1) (0,n0) [7,8] ⟨Nat.zero_le _,fun _=>rfl,h0⟩ ?_
 rintro ⟨i,v⟩ ⟨h1,h2,h3⟩
 dsimp only at h1 h2 h3 ⊢
 have hi:i = 0∨i = 1∨i = 2:=by omega
 rcases hi with rfl | rfl | rfl
 ·obtain rfl:=h2 rfl
  refine TC.im (B:=[vw lv [x1,x2],vw v (Us N),vw x1 (Us a),vw x2 (Us b)]) (Im.refl _) ?_
  repeat' first|(refine gca ?_;first|(refine ca (s1 v) ?_;rintro _ _ ⟨u,rfl,hu,rfl⟩))|refine ixn (i:=0) (xs:=[x1,x2]) (hb:=by decide) ?_|refine le (j:=0) (xs:=[x1,x2]) (u:=x1) ?_|(refine wo ?_;first|(refine ao ?_;first|refine aw ?_|refine oa ?_)|refine oa ?_|refine ixn ?_)|(refine gc ?_;first|refine ct ?_)|refine sq ?_|refine rg ?_|refine xc ?_|refine nl ?_|refine sk ?_|refine bk ?_|refine xb ?_
  exact lp (1,u) ⟨Nat.le_succ 1,fun h=>absurd h (Nat.succ_ne_zero 0),hu⟩
 ·refine TC.im (B:=[own T64 v (Us (dg (nv N - nv a))),vw lv [x1,x2],vw n0 (Us N),vw x1 (Us a),vw x2 (Us b)]) (Im.refl _) ?_
  repeat' first|(refine gca ?_;first|(refine ca (s2 v) ?_;rintro _ _ ⟨u,rfl,hu,rfl⟩))|refine ixn (i:=1) (xs:=[x1,x2]) (hb:=by decide) ?_|refine le (j:=1) (xs:=[x1,x2]) (u:=x2) ?_|(refine wo ?_;first|(refine ao ?_;first|refine aw ?_|refine oa ?_)|refine oa ?_|refine ixn ?_)|(refine gc ?_;first|refine ct ?_)|refine sq ?_|refine rg ?_|refine xc ?_|refine nl ?_|refine sk ?_|refine bk ?_|refine xb ?_
  exact lp (2,u) ⟨Nat.le_refl 2,fun h=>absurd h (Nat.succ_ne_zero 1),hu⟩
 ·refine TC.im (B:=[own T64 v (Us (dg (nv N - nv a - nv b))),vw lv [x1,x2],vw n0 (Us N),vw x1 (Us a),vw x2 (Us b)]) (Im.refl _) ?_
  repeat' first|(refine wo ?_;first|(refine ao ?_;first|refine oa ?_)|refine oa ?_)|(refine gc ?_;first|refine cf ?_)|refine sq ?_|refine rg ?_|refine xc ?_|refine nl ?_|refine xe ?_|refine rt ?_
  exact r1 ⟨h3,rfl⟩
end Go.Art
namespace Go.Art
open Go Go.Proofs Go.RowKit
section
variable {P:Program} {E:Env P} {n:Sh} {X:Cx} {s:List K} {fr:Fr} {A A':List Ch} {ops:Array Oper} {rest:List Oper} {d:Nat} {ty t t' el:TypeId} {pos:String} {after:Array Edge} {x y:Operand} {p q hi lo:Int} {v z:Value} {k1:IntKind} {by_:Nat} {xs:List Value} {α:Type} {g:α→Value} {l:List α}
theorem qmnn (k:TQ E n X s ops rest ((d,I (min p q)) :: fr) A) (hx:ev fr x = some (I p):=by rfl) (hy:ev fr y = some (I q):=by rfl) (hd:Nat.blt d n.n = true:=by rfl):TQ E n X s ops (⟨some d,.call ⟨.builtin .min,#[x,y],#[t,t']⟩,ty,pos,after,none⟩ :: rest) fr A:=TQ.val (fun w _=>⟨fun a ha _ _ _ _=>by
 have e:(if q < p then q else p) = min p q:=by split <;> omega
 simp only [execOp,resolve]
 simp [ha.ev hx,ha.ev hy,invoke,builtin,Builtin.min_,Builtin.min2,← e]⟩) k hd
theorem qslh (k:TQ E n X s ops rest ((d,slSub v 0 hi.toNat) :: fr) A) (hx:ev fr x = some v:=by rfl) (hl:ev fr y = some (.int k1 hi):=by rfl) (hs:Has A (vw v (l.map g)):=by exact hasA) (hb:0 ≤ hi∧hi ≤ l.length:=by omega)
  (ht:lk E.und t = some (.slice el):=by rfl) (he:lk E.inf el = some (z,1,by_):=by rfl) (hd:Nat.blt d n.n = true:=by rfl):TQ E n X s ops (⟨some d,.slice t x none (some y) none,ty,pos,after,none⟩ :: rest) fr A:=
 TQ.val (fun _ h=>R_sliceHi ht he hx hl (has_sl h hs) (by simpa using hb)) k hd
theorem qsll (k:TQ E n X s ops rest ((d,slSub v lo.toNat l.length) :: fr) A) (hx:ev fr x = some v:=by rfl) (hl:ev fr y = some (.int k1 lo):=by rfl) (hs:Has A (vw v (l.map g)):=by exact hasA) (hb:0 ≤ lo∧lo ≤ l.length:=by omega)
  (ht:lk E.und t = some (.slice el):=by rfl) (he:lk E.inf el = some (z,1,by_):=by rfl) (hd:Nat.blt d n.n = true:=by rfl):TQ E n X s ops (⟨some d,.slice t x (some y) none none,ty,pos,after,none⟩ :: rest) fr A:=
 TQ.val (fun _ h=>by have:=R_sliceLo (n:=n) (ty:=ty) ht he hx hl (has_sl h hs) (by simpa using hb);rwa [List.length_map] at this) k hd
end
attribute [local irreducible] Fit pt own ro vw mpc lpt vels rels mow lrc dfr
theorem cut_tr (v:Value) (l:List Nat) (h c:Nat):Tr Tryz.prog 232 [v,ptr c] [vw v (Us l),lpt c [I h] TRi] [] fun u D=>u = tup2 (slSub v 0 (min h l.length)) (slSub v (min h l.length) l.length)∧D = []:=by
 have hm:(min (h:Int) l.length).toNat = min h l.length:=by omega
 rw [← hm]
 refine Tr.enter env _ Tryz.func232 (by kernel_rfl) rfl Tryz.ntmps232 rfl (by repeat (first | exact has00 | refine has01 ?_)) fun w0=>?_
 repeat' first|refine qmnn ?_|refine qslh (g:=Un) ?_|refine qsll (g:=Un) ?_|(refine wo ?_;first|refine oa ?_)|refine sq ?_|refine rg ?_|refine xc ?_|refine nl ?_|refine rt ?_|refine rq ?_|refine nq ?_|(refine wq ?_;first|refine qa ?_|refine qldl ?_|refine qlnm ?_)
 exact r2 ⟨rfl,rfl⟩
end Go.Art
namespace Go.Art
open Go Go.Proofs Go.RowKit
abbrev TMul:TypeId:=91
abbrev halF (c5 c7:Nat):Value:=.func (.func 231) #[] #[ptr c5,ptr c7]
theorem kara {a0 a1 b0 b1 p:Nat}:a0 * b0 + p * ((a0 + a1) * (b0 + b1) - a0 * b0 - a1 * b1) + p * p * (a1 * b1) = (a0 + p * a1) * (b0 + p * b1):=by
 have h:(a0 + a1) * (b0 + b1) - a0 * b0 - a1 * b1 = a0 * b1 + a1 * b0:=by
  rw [Nat.add_mul,Nat.mul_add,Nat.mul_add];omega
 rw [h];grind
theorem dg_mul_len {a b i j:Nat} (ha:(dg a).length ≤ i) (hb:(dg b).length ≤ j):(dg (a * b)).length ≤ i + j:=(dg_len _ _).2 (by
 rw [Nat.pow_add];exact Nat.mul_lt_mul'' ((dg_len _ _).1 ha) ((dg_len _ _).1 hb))
theorem dg_add_len {a b i:Nat} (ha:(dg a).length ≤ i) (hb:(dg b).length ≤ i):(dg (a + b)).length ≤ i + 1:=(dg_len _ _).2 (by
 have h1:=(dg_len _ _).1 ha
 have h2:=(dg_len _ _).1 hb
 rw [Nat.pow_succ];omega)
attribute [local irreducible] Fit pt own ro vw mpc lpt vels rels mow lrc dfr
set_option maxHeartbeats 2000000 in
theorem hal1_tr (c5 c7:Nat) (least:Int) (M:Nat):∀ (va vb:Value) (a b:List Nat),Dg a→Dg b→a.length ≤ 68719476736→b.length ≤ 68719476736→max (dg (nv a)).length (dg (nv b)).length ≤ M →
  Tr Tryz.prog 231 [va,vb,ptr c5,ptr c7] [vw va (Us a),vw vb (Us b),lpt c5 [I least] TRi,lpt c7 [halF c5 c7] TMul] [] fun u D=>u.oneCell' = true∧D = [own T64 u (Us (dg (nv a * nv b)))]:=by
 induction M using Nat.strongRecOn with
 | _ M ih=>
  intro va vb a b ha hb hla hlb hM
  have hal:=dg_len_le ha
  have hbl:=dg_len_le hb
  have hTa:=Trim_tr va a ha (by omega)
  have hTb:=Trim_tr vb b hb (by omega)
  obtain ⟨na,hna⟩ : ∃ na,na = nv a:=⟨_,rfl⟩
  obtain ⟨nb,hnb⟩ : ∃ nb,nb = nv b:=⟨_,rfl⟩
  rw [← hna] at hal hM hTa ⊢
  rw [← hnb] at hbl hM hTb ⊢
  obtain ⟨x,hx⟩ : ∃ x,x = dg na:=⟨_,rfl⟩
  obtain ⟨y,hy⟩ : ∃ y,y = dg nb:=⟨_,rfl⟩
  have hxn:nv x = na:=by rw [hx,nv_dg]
  have hyn:nv y = nb:=by rw [hy,nv_dg]
  have hxd:Dg x:=by rw [hx];exact Dg_dg _
  have hyd:Dg y:=by rw [hy];exact Dg_dg _
  rw [← hx] at hal hM hTa
  rw [← hy] at hbl hM hTb
  have hSc:=fun u1 u2=>School_tr u1 u2 x y hxd hyd (by omega) (by omega)
  rw [hxn,hyn] at hSc
  clear hx hy hna hnb
  refine Tr.enter env _ Tryz.func231 (by kernel_rfl) rfl Tryz.ntmps231 rfl (by repeat (first | exact has00 | refine has01 ?_)) fun w0=>?_
  by_cases hs:min (x.length:Int) y.length < max least 4
  ·repeat' first|(refine gca ?_;first|(refine ca hTa ?_;rintro u1 _ ⟨hu1,rfl⟩)|(refine ca hTb ?_;rintro u2 _ ⟨hu2,rfl⟩)|(refine ca (hSc u1 u2) ?_;rintro u _ ⟨hu,rfl⟩))|refine mnn ?_|refine mxx ?_|(refine wo ?_;first|(refine ao ?_;first|refine oa ?_)|refine oa ?_|refine ldl ?_|refine lnm ?_)|(refine gc ?_;first|(refine ci (fun hB=>?_) (fun hB=>?_) <;> try (exfalso;omega)))|refine sq ?_|refine rg ?_|refine xc ?_|refine nl ?_|refine rt ?_
   exact r1 ⟨hu,rfl⟩
  ·obtain ⟨h,hh⟩ : ∃ h:Nat,(max (x.length:Int) y.length + 1) / 2 = h:=⟨((max (x.length:Int) y.length + 1) / 2).toNat,by omega⟩
   obtain ⟨k1,hk1e⟩ : ∃ k1,k1 = min h x.length:=⟨_,rfl⟩
   obtain ⟨k2,hk2e⟩ : ∃ k2,k2 = min h y.length:=⟨_,rfl⟩
   have hc1:=fun u1 c=>cut_tr u1 x h c
   have hc2:=fun u2 c=>cut_tr u2 y h c
   simp only [← hk1e] at hc1
   simp only [← hk2e] at hc2
   have hk1:k1 ≤ x.length:=by omega
   have hk2:k2 ≤ y.length:=by omega
   have hb4:4 ≤ x.length∧4 ≤ y.length:=by omega
   have hhM:h + 1 < M∧h ≤ 68719476736:=by omega
   have t1l:(x.take k1).length ≤ h:=by rw [List.length_take];omega
   have t2l:(y.take k2).length ≤ h:=by rw [List.length_take];omega
   have d1l:(x.drop k1).length ≤ h:=by rw [List.length_drop];omega
   have d2l:(y.drop k2).length ≤ h:=by rw [List.length_drop];omega
   have e0:=Nat.le_trans (dg_len_le (hxd.take k1)) t1l
   have e1:=Nat.le_trans (dg_len_le (hxd.drop k1)) d1l
   have e2:=Nat.le_trans (dg_len_le (hyd.take k2)) t2l
   have e3:=Nat.le_trans (dg_len_le (hyd.drop k2)) d2l
   have cx:nv x = nv (x.take k1) + 18446744073709551616 ^ h * nv (x.drop k1):=by
    rcases Nat.lt_or_ge x.length h with h0 | h0
    ·rw [List.take_of_length_le (by omega),List.drop_eq_nil_of_le (by omega)];simp [nv]
    ·rw [show k1 = h by omega];exact nv_cut x h
   have cy:nv y = nv (y.take k2) + 18446744073709551616 ^ h * nv (y.drop k2):=by
    rcases Nat.lt_or_ge y.length h with h0 | h0
    ·rw [List.take_of_length_le (by omega),List.drop_eq_nil_of_le (by omega)];simp [nv]
    ·rw [show k2 = h by omega];exact nv_cut y h
   have ihL:=fun u1 u2=>ih h (by omega) (slSub u1 0 k1) (slSub u2 0 k2) (x.take k1) (y.take k2) (hxd.take _) (hyd.take _) (by omega) (by omega) (by omega)
   have ihH:=fun u1 u2=>ih h (by omega) (slSub u1 k1 x.length) (slSub u2 k2 y.length) (x.drop k1) (y.drop k2) (hxd.drop _) (hyd.drop _) (by omega) (by omega) (by omega)
   have adA:=fun u1=>NAdd_tr (slSub u1 0 k1) (slSub u1 k1 x.length) (x.take k1) (x.drop k1) (hxd.take _) (hxd.drop _) (by omega) (by omega)
   have adB:=fun u2=>NAdd_tr (slSub u2 0 k2) (slSub u2 k2 y.length) (y.take k2) (y.drop k2) (hyd.take _) (hyd.drop _) (by omega) (by omega)
   obtain ⟨a0,ha0⟩ : ∃ a0,a0 = nv (x.take k1):=⟨_,rfl⟩
   obtain ⟨a1,ha1⟩ : ∃ a1,a1 = nv (x.drop k1):=⟨_,rfl⟩
   obtain ⟨b0,hb0⟩ : ∃ b0,b0 = nv (y.take k2):=⟨_,rfl⟩
   obtain ⟨b1,hb1⟩ : ∃ b1,b1 = nv (y.drop k2):=⟨_,rfl⟩
   simp only [← ha0,← ha1,← hb0,← hb1] at ihL ihH adA adB cx cy e0 e1 e2 e3
   have sA:=dg_add_len e0 e1
   have sB:=dg_add_len e2 e3
   have ihM:=fun sa sb=>ih (h + 1) (by omega) sa sb (dg (a0 + a1)) (dg (b0 + b1)) (Dg_dg _) (Dg_dg _) (by omega) (by omega) (by rw [nv_dg,nv_dg];omega)
   simp only [nv_dg] at ihM
   have lL:=dg_mul_len e0 e2
   have lH:=dg_mul_len e1 e3
   have lP:=dg_mul_len sA sB
   have hle:a0 * b0 + a1 * b1 ≤ (a0 + a1) * (b0 + b1):=by rw [Nat.add_mul,Nat.mul_add,Nat.mul_add];omega
   have hK:=kara (a0:=a0) (a1:=a1) (b0:=b0) (b1:=b1) (p:=18446744073709551616 ^ h)
   rw [← cx,← cy,hxn,hyn] at hK
   obtain ⟨L,hL⟩ : ∃ L,L = a0 * b0:=⟨_,rfl⟩
   obtain ⟨H,hH⟩ : ∃ H,H = a1 * b1:=⟨_,rfl⟩
   obtain ⟨Q,hQ⟩ : ∃ Q,Q = (a0 + a1) * (b0 + b1):=⟨_,rfl⟩
   simp only [← hL,← hH,← hQ] at ihL ihH ihM lL lH lP hle hK
   have lsM:=fun ml lv lw hg hml=>less_tr ml lv lw hg (dg Q) (dg L) (dg H) (Dg_dg _) (Dg_dg _) (Dg_dg _) (by omega) (by omega) (by omega) hml (by rw [nv_dg,nv_dg,nv_dg];exact hle)
   simp only [nv_dg] at lsM
   have lM:(dg (Q - L - H)).length ≤ h + 1 + (h + 1):=Nat.le_trans (dg_mono (Nat.le_trans (Nat.sub_le _ _) (Nat.sub_le _ _))) lP
   obtain ⟨Md,hMd⟩ : ∃ Md,Md = Q - L - H:=⟨_,rfl⟩
   simp only [← hMd] at lsM lM hK
   have atM:=fun md=>nat_tr md (dg Md) h (Dg_dg _) (by omega)
   have atH:=fun hg=>nat_tr hg (dg H) (2 * h) (Dg_dg _) (by omega)
   simp only [nv_dg] at atM atH
   have lsum:∀ m1:List Nat,nv m1 = 18446744073709551616 ^ h * Md→(dg (nv (dg L) + nv m1)).length ≤ 1099511627776:=fun m1 hm1=>by
    refine Nat.le_trans (dg_add_len (i:=3 * h + 3) (by rw [nv_dg];omega) ?_) (by omega)
    rw [hm1]
    refine Nat.le_trans (dg_mul_len (i:=h + 1) (j:=h + 1 + (h + 1)) ((dg_len _ _).2 (Nat.pow_lt_pow_right (by decide) (by omega))) lM) (by omega)
   have hfin:∀ m1 m3:List Nat,nv m1 = 18446744073709551616 ^ h * Md→nv m3 = 18446744073709551616 ^ (2 * h) * H→nv (dg (nv (dg L) + nv m1)) + nv m3 = na * nb:=fun m1 m3 g1 g3=>by
    rw [nv_dg,nv_dg,g1,g3,← hK,Nat.two_mul,Nat.pow_add]
   clear hK hle hMd hQ hH hL cx cy ha0 ha1 hb0 hb1 ih sA sB e0 e1 e2 e3 hxn hyn t1l t2l d1l d2l hal hbl hk1e hk2e
   repeat' first|(refine gca ?_;first|(refine ca hTa ?_;rintro u1 _ ⟨hu1,rfl⟩)|(refine ca hTb ?_;rintro u2 _ ⟨hu2,rfl⟩))|refine mnn ?_|refine mxx ?_|(refine adiv ?_;rw [hh])|(refine al fun c=>?_)|(refine cav (cap:=#[ptr c]) (vs:=[u1]) (hc1 u1 c) ?_;rintro _ _ ⟨rfl,rfl⟩)|(refine cav (cap:=#[ptr c]) (vs:=[u2]) (hc2 u2 c) ?_;rintro _ _ ⟨rfl,rfl⟩)|refine rs (id:=8) (fun w=>w.heap[c7]? = some (.cells [halF c5 c7].toArray TMul (0,0))) ?_ (fun w hw=>lpt_at memA hw)|(refine wo ?_;first|(refine ao ?_;first|refine aw ?_|refine oa ?_)|refine oa ?_|refine ldl ?_|refine lnm ?_|refine sr ?_)|(refine gc ?_;first|(refine ci (fun hB=>?_) (fun hB=>?_) <;> try (exfalso;omega)))|refine sq ?_|refine rg ?_|refine xc ?_|refine nl ?_|refine sk ?_
   refine tkl 0 (cs:=[halF c5 c7]) (fun w h=>h) ?_
   refine tka 1 ?_
   refine tka 2 ?_
   refine tkl 4 (cs:=[halF c5 c7]) (fun w h=>h) ?_
   refine tka 5 ?_
   refine tka 6 ?_
   refine t1 3 ?_
   refine cav (cap:=#[ptr c5,ptr c7]) (vs:=[slSub u1 0 k1,slSub u2 0 k2]) (ihL u1 u2) ?_ (hp:=has1 (has_take (has_own memA) hk1) (has1 (has_take (has_own memA) hk2) (has1 (has_lpt memA) (has1 (has_lpt memA) has0))))
   rintro lw _ ⟨hlw,rfl⟩
   refine nl ?_
   refine te (fun w hw=>lpt_at memA hw) ?_
   refine t1 7 ?_
   refine cav (cap:=#[ptr c5,ptr c7]) (vs:=[slSub u1 k1 x.length,slSub u2 k2 y.length]) (ihH u1 u2) ?_ (hp:=has1 (has_drop (has_own memA) hk1) (has1 (has_drop (has_own memA) hk2) (has1 (has_lpt memA) (has1 (has_lpt memA) has0))))
   rintro hg _ ⟨hhg,rfl⟩
   refine nl ?_
   refine te (fun w hw=>lpt_at memA hw) ?_
   refine tka 8 ?_
   refine tka 9 ?_
   refine t0 ?_
   refine xc ?_
   repeat' first|refine sq_cutX (a:=.region 9 _ _) (ι:=Value) (fun md=>md.oneCell' = true) (fun md=>[(7,ptr c),(13,lw),(14,hg),(15,md)]) (fun md=>[own T64 md (Us (dg Md)),own T64 hg (Us (dg H)),own T64 lw (Us (dg L)),pt c [I h] TRi]) ?_ (fun kb=>?_)|(refine wo ?_;first|(refine ao ?_;first|refine aw ?_|refine aw6 ?_|refine oa ?_|refine adiv ?_|refine amod ?_|refine shr1 ?_|refine shr ?_|refine umod ?_|refine isl ?_|refine ipe ?_|refine ipn ?_|refine ibe ?_)|refine acw ?_|refine ucv ?_|refine anw ?_|refine oa ?_|refine ld ?_|refine ldl ?_|refine lnm ?_|refine ixmn ?_|refine ixm ?_|refine li ?_|refine lb ?_|refine lv ?_|refine ln ?_|refine ixn ?_|refine ix ?_|refine le ?_|refine sr ?_|refine soi ?_|refine sob ?_|refine scm ?_|refine sclm ?_|refine schm ?_|refine gy ?_|refine gn ?_|refine gnn ?_|refine gu ?_|(refine gsi (fun hB=>?_) (fun hB=>?_) <;> try (exfalso;omega))|(refine gsn (fun hB=>?_) (fun hB=>?_) <;> try (exfalso;omega))|(refine gs (fun hB=>?_) (fun hB=>?_) <;> try (exfalso;omega)))|(refine gc ?_;first|refine ct ?_|refine cf ?_|(refine ci (fun hB=>?_) (fun hB=>?_) <;> try (exfalso;omega))|(refine cn (fun hB=>?_) (fun hB=>?_) <;> try (exfalso;omega))|(refine cb (fun hB=>?_) (fun hB=>?_) <;> try (exfalso;omega)))|refine sq ?_|refine rg ?_|refine xc ?_|refine nl ?_|refine sk ?_|refine bk ?_|refine xe ?_|refine rt ?_|refine xb ?_
   ·intro md hmd
    repeat' first|refine rs (id:=10) (fun w=>w.heap[c]? = some (.cells [I h].toArray TRi (0,0))) ?_ (fun w hw=>pt_at memA hw)|refine sq ?_
    refine tka 0 ?_
    refine tka 1 ?_
    refine tkl 2 (cs:=[I h]) (fun w h=>h) ?_
    refine tka 5 ?_
    refine tkl 6 (cs:=[I h]) (fun w h=>h) ?_
    refine tkw 7 (((2 * h:Nat)):Int) ?_
    refine t1 3 ?_
    refine ca (atM md) ?_
    rintro z1 _ ⟨hz1,m1,rfl,dm1,nm1,lm1⟩
    refine nl ?_
    refine te (fun w hw=>pt_at memA hw) ?_
    refine t1 4 ?_
    refine ca (NAdd_tr lw z1 (dg L) m1 (Dg_dg _) dm1 (by omega) (by omega)) ?_
    rintro z2 _ ⟨hz2,rfl⟩
    refine nl ?_
    refine te (fun w hw=>pt_at memA hw) ?_
    refine t1 8 ?_
    refine ca (atH hg) ?_
    rintro z3 _ ⟨hz3,m3,rfl,dm3,nm3,lm3⟩
    refine nl ?_
    refine te (fun w hw=>pt_at memA hw) ?_
    refine t1 9 ?_
    refine ca (NAdd_tr z2 z3 (dg (nv (dg L) + nv m1)) m3 (Dg_dg _) dm3 (lsum m1 nm1) (by omega)) ?_
    rintro z4 _ ⟨hz4,rfl⟩
    refine nl ?_
    refine te (fun w hw=>pt_at memA hw) ?_
    refine tka 10 ?_
    refine t0 ?_
    skip
    rw [hfin m1 m3 nm1 nm3]
    repeat' first|refine xc ?_|refine rt ?_
    exact r1 ⟨hz4,rfl⟩
   ·repeat' first|refine rs (id:=9) (fun w=>w.heap[c7]? = some (.cells [halF c5 c7].toArray TMul (0,0))) ?_ (fun w hw=>lpt_at memA hw)|(refine wo ?_;first|(refine ao ?_;first|refine aw ?_|refine aw6 ?_|refine oa ?_|refine adiv ?_|refine amod ?_|refine shr1 ?_|refine shr ?_|refine umod ?_|refine isl ?_|refine ipe ?_|refine ipn ?_|refine ibe ?_)|refine acw ?_|refine ucv ?_|refine anw ?_|refine oa ?_|refine ld ?_|refine ldl ?_|refine lnm ?_|refine ixmn ?_|refine ixm ?_|refine li ?_|refine lb ?_|refine lv ?_|refine ln ?_|refine ixn ?_|refine ix ?_|refine le ?_|refine sr ?_|refine soi ?_|refine sob ?_|refine scm ?_|refine sclm ?_|refine schm ?_|refine gy ?_|refine gn ?_|refine gnn ?_|refine gu ?_|(refine gsi (fun hB=>?_) (fun hB=>?_) <;> try (exfalso;omega))|(refine gsn (fun hB=>?_) (fun hB=>?_) <;> try (exfalso;omega))|(refine gs (fun hB=>?_) (fun hB=>?_) <;> try (exfalso;omega)))|(refine gc ?_;first|refine ct ?_|refine cf ?_|(refine ci (fun hB=>?_) (fun hB=>?_) <;> try (exfalso;omega))|(refine cn (fun hB=>?_) (fun hB=>?_) <;> try (exfalso;omega))|(refine cb (fun hB=>?_) (fun hB=>?_) <;> try (exfalso;omega)))|refine sq ?_|refine rg ?_|refine xc ?_|refine nl ?_|refine sk ?_|refine bk ?_|refine xe ?_|refine rt ?_|refine xb ?_
    refine tkl 0 (cs:=[halF c5 c7]) (fun w h=>h) ?_
    refine tka 1 ?_
    refine tka 2 ?_
    refine tka 4 ?_
    refine tka 5 ?_
    refine tka 8 ?_
    refine tka 9 ?_
    refine t2 3 10 ?_ ?_
    ·refine ca (adA u1) ?_ (hp:=has1 (has_take (has_own memA) hk1) (has1 (has_drop (has_own memA) hk1) has0))
     rintro sa _ ⟨hsa,rfl⟩
     refine nl ?_
     refine te (fun w hw=>lpt_at memA hw) ?_
     refine t2 6 10 ?_ ?_
     ·refine ca (adB u2) ?_ (hp:=has1 (has_take (has_own memA) hk2) (has1 (has_drop (has_own memA) hk2) has0))
      rintro sb _ ⟨hsb,rfl⟩
      refine nl ?_
      refine te (fun w hw=>lpt_at memA hw) ?_
      refine t2 7 10 ?_ ?_
      ·refine cav (cap:=#[ptr c5,ptr c7]) (vs:=[sa,sb]) (ihM sa sb) ?_
       rintro ml _ ⟨hml,rfl⟩
       refine nl ?_
       refine te (fun w hw=>lpt_at memA hw) ?_
       refine t1 10 ?_
       refine sli (vs:=[lw,hg]) (fun lv=>?_) (h1:=one_cons hlw (one_cons hhg one_nil))
       refine nl ?_
       refine te (fun w hw=>lpt_at memA hw) ?_
       refine t1 11 ?_
       refine ca (lsM ml lv lw hg hml) ?_
       rintro md _ ⟨hmd,rfl⟩
       refine nl ?_
       refine te (fun w hw=>lpt_at memA hw) ?_
       refine tka 12 ?_
       refine t0 ?_
       refine xc ?_
       exact kb md hmd _ _ (by (repeat (refine Sub.cons rfl (by first | rfl | go_num) ?_));exact Sub.nil) fitA
      ·refine sli (vs:=[lw,hg]) (fun lv=>?_) (h1:=one_cons hlw (one_cons hhg one_nil))
       refine nl ?_
       refine te (fun w hw=>lpt_at memA hw) ?_
       refine t1 7 ?_
       refine cav (cap:=#[ptr c5,ptr c7]) (vs:=[sa,sb]) (ihM sa sb) ?_
       rintro ml _ ⟨hml,rfl⟩
       refine nl ?_
       refine te (fun w hw=>lpt_at memA hw) ?_
       refine t1 11 ?_
       refine ca (lsM ml lv lw hg hml) ?_
       rintro md _ ⟨hmd,rfl⟩
       refine nl ?_
       refine te (fun w hw=>lpt_at memA hw) ?_
       refine tka 12 ?_
       refine t0 ?_
       refine xc ?_
       exact kb md hmd _ _ (by (repeat (refine Sub.cons rfl (by first | rfl | go_num) ?_));exact Sub.nil) fitA
     ·refine sli (vs:=[lw,hg]) (fun lv=>?_) (h1:=one_cons hlw (one_cons hhg one_nil))
      refine nl ?_
      refine te (fun w hw=>lpt_at memA hw) ?_
      refine t1 6 ?_
      refine ca (adB u2) ?_ (hp:=has1 (has_take (has_own memA) hk2) (has1 (has_drop (has_own memA) hk2) has0))
      rintro sb _ ⟨hsb,rfl⟩
      refine nl ?_
      refine te (fun w hw=>lpt_at memA hw) ?_
      refine t1 7 ?_
      refine cav (cap:=#[ptr c5,ptr c7]) (vs:=[sa,sb]) (ihM sa sb) ?_
      rintro ml _ ⟨hml,rfl⟩
      refine nl ?_
      refine te (fun w hw=>lpt_at memA hw) ?_
      refine t1 11 ?_
      refine ca (lsM ml lv lw hg hml) ?_
      rintro md _ ⟨hmd,rfl⟩
      refine nl ?_
      refine te (fun w hw=>lpt_at memA hw) ?_
      refine tka 12 ?_
      refine t0 ?_
      refine xc ?_
      exact kb md hmd _ _ (by (repeat (refine Sub.cons rfl (by first | rfl | go_num) ?_));exact Sub.nil) fitA
    ·refine sli (vs:=[lw,hg]) (fun lv=>?_) (h1:=one_cons hlw (one_cons hhg one_nil))
     refine nl ?_
     refine te (fun w hw=>lpt_at memA hw) ?_
     refine t1 3 ?_
     refine ca (adA u1) ?_ (hp:=has1 (has_take (has_own memA) hk1) (has1 (has_drop (has_own memA) hk1) has0))
     rintro sa _ ⟨hsa,rfl⟩
     refine nl ?_
     refine te (fun w hw=>lpt_at memA hw) ?_
     refine t1 6 ?_
     refine ca (adB u2) ?_ (hp:=has1 (has_take (has_own memA) hk2) (has1 (has_drop (has_own memA) hk2) has0))
     rintro sb _ ⟨hsb,rfl⟩
     refine nl ?_
     refine te (fun w hw=>lpt_at memA hw) ?_
     refine t1 7 ?_
     refine cav (cap:=#[ptr c5,ptr c7]) (vs:=[sa,sb]) (ihM sa sb) ?_
     rintro ml _ ⟨hml,rfl⟩
     refine nl ?_
     refine te (fun w hw=>lpt_at memA hw) ?_
     refine t1 11 ?_
     refine ca (lsM ml lv lw hg hml) ?_
     rintro md _ ⟨hmd,rfl⟩
     refine nl ?_
     refine te (fun w hw=>lpt_at memA hw) ?_
     refine tka 12 ?_
     refine t0 ?_
     refine xc ?_
     exact kb md hmd _ _ (by (repeat (refine Sub.cons rfl (by first | rfl | go_num) ?_));exact Sub.nil) fitA
end Go.Art
namespace Go.Art
open Go Go.Proofs Go.RowKit
attribute [local irreducible] Fit pt own ro vw mpc lpt vels rels mow lrc dfr
theorem halves_tr (va vb:Value) (a b:List Nat) (least:Int) (ha:Dg a) (hb:Dg b) (hla:a.length ≤ 68719476736) (hlb:b.length ≤ 68719476736):Tr Tryz.prog 184 [va,vb,I least] [vw va (Us a),vw vb (Us b)] [] fun u D=>u.oneCell' = true∧D = [own T64 u (Us (dg (nv a * nv b)))]:=by
 have hC:=fun c5 c7=>hal1_tr c5 c7 least (max (dg (nv a)).length (dg (nv b)).length) va vb a b ha hb hla hlb (Nat.le_refl _)
 obtain ⟨m,hm⟩ : ∃ m,m = nv a * nv b:=⟨_,rfl⟩
 simp only [← hm] at hC
 rw [← hm]
 refine Tr.enter env _ Tryz.func184 (by kernel_rfl) rfl Tryz.ntmps184 rfl (by repeat (first | exact has00 | refine has01 ?_)) fun w0=>?_
 repeat' first|refine bx1 fun c5=>?_|refine al fun c7=>?_|(refine wo ?_;first|refine oa ?_|refine ld ?_|refine sr ?_)|refine sq ?_|refine rg ?_|refine xc ?_|refine nl ?_
 repeat' first|(refine cav (cap:=#[ptr c5,ptr c7]) (vs:=[va,vb]) (hC c5 c7) ?_;rintro u _ ⟨hu,rfl⟩)|(refine wo ?_;first|refine oa ?_)|refine xc ?_|refine nl ?_|refine rt ?_
 exact r1 ⟨hu,rfl⟩
theorem NMul_tr (va vb:Value) (a b:List Nat) (ha:Dg a) (hb:Dg b) (hla:a.length ≤ 68719476736) (hlb:b.length ≤ 68719476736):Tr Tryz.prog 124 [va,vb] [vw va (Us a),vw vb (Us b)] [] fun u D=>u.oneCell' = true∧D = [own T64 u (Us (dg (nv a * nv b)))]:=by
 refine Tr.enter env _ Tryz.func124 (by kernel_rfl) rfl Tryz.ntmps124 rfl (by repeat (first | exact has00 | refine has01 ?_)) fun w0=>?_
 repeat' first|(refine gca ?_;first|(refine ca (halves_tr va vb a b 32 ha hb hla hlb) ?_;rintro u _ ⟨hu,rfl⟩))|(refine wo ?_;first|refine oa ?_)|refine sq ?_|refine rg ?_|refine xc ?_|refine nl ?_|refine rt ?_
 exact r1 ⟨hu,rfl⟩
end Go.Art
namespace Go.Art
open Go Go.Proofs Go.RowKit
theorem sg_mul (z1 z2:Int):sg (!(decide (z1 < 0) == decide (z2 < 0))) (z1.natAbs * z2.natAbs) = z1 * z2:=by
 have h1:(z1 = z1.natAbs∧0 ≤ z1)∨(z1 = -(z1.natAbs:Int)∧z1 < 0):=by omega
 have h2:(z2 = z2.natAbs∧0 ≤ z2)∨(z2 = -(z2.natAbs:Int)∧z2 < 0):=by omega
 generalize z1.natAbs = a at *
 generalize z2.natAbs = b at *
 unfold sg
 rcases h1 with ⟨e1,g1⟩ | ⟨e1,g1⟩ <;> rcases h2 with ⟨e2,g2⟩ | ⟨e2,g2⟩
 ·simp only [show decide (z1 < 0) = false from decide_eq_false (by omega),show decide (z2 < 0) = false from decide_eq_false (by omega)]
  rw [e1,e2];simp
 ·simp only [show decide (z1 < 0) = false from decide_eq_false (by omega),show decide (z2 < 0) = true from decide_eq_true g2]
  rw [e1,e2];simp [Int.mul_neg]
 ·simp only [show decide (z1 < 0) = true from decide_eq_true g1,show decide (z2 < 0) = false from decide_eq_false (by omega)]
  rw [e1,e2];simp [Int.neg_mul]
 ·simp only [show decide (z1 < 0) = true from decide_eq_true g1,show decide (z2 < 0) = true from decide_eq_true g2]
  rw [e1,e2];simp [Int.neg_mul_neg]
theorem dz_mul {z1 z2:Int} {B:Nat} (h1:(dz z1).length ≤ B) (h2:(dz z2).length ≤ B):(dz (z1 * z2)).length ≤ 2 * B:=by
 unfold dz at *
 rw [Int.natAbs_mul]
 exact Nat.le_trans (dg_mul_len h1 h2) (by omega)
attribute [local irreducible] Fit pt own ro vw mpc lpt vels rels mow lrc dfr
theorem IMulF_tr (b1 b2:Bool) (v1 v2:Value) (l1 l2:List Nat) (d1:Dg l1) (d2:Dg l2) (h1:l1.length ≤ 34359738368) (h2:l2.length ≤ 34359738368) :
  Tr Tryz.prog 122 [.agg #[.bool b1,v1],.agg #[.bool b2,v2]] [vw v1 (Us l1),vw v2 (Us l2)] [] (IR (sg (!(b1 == b2)) (nv l1 * nv l2))):=by
 have hM:=NMul_tr v1 v2 l1 l2 d1 d2 (by omega) (by omega)
 have hlen:(dg (nv l1 * nv l2)).length ≤ 1099511627776:=by
  have:=dg_mul_len (dg_len_le d1) (dg_len_le d2)
  omega
 have hI:=fun b o=>IMake_tr b o (dg (nv l1 * nv l2)) (Dg_dg _) hlen
 rw [nv_dg] at hI
 unfold IR at hI ⊢
 obtain ⟨z,hz⟩ : ∃ z,z = sg (!(b1 == b2)) (nv l1 * nv l2):=⟨_,rfl⟩
 have hI2:=hI (!(b1 == b2))
 rw [← hz] at hI2 ⊢
 clear hI hz hlen
 generalize dg (nv l1 * nv l2) = pd at *
 refine Tr.enter env _ Tryz.func122 (by kernel_rfl) rfl Tryz.ntmps122 rfl (by repeat (first | exact has00 | refine has01 ?_)) fun w0=>?_
 repeat' first|refine bx fun q=>?_|refine al fun c=>?_|refine sq ?_|refine rg ?_|refine xc ?_|refine nl ?_
 rename_i q1
 refine rs (fun w=>w.heap[q1]? = some (.cells [.bool b1,v1].toArray TIt (0,0))∧w.heap[q]? = some (.cells [.bool b2,v2].toArray TIt (0,0))) ?_ (fun w hw=>⟨pt_at memA hw,pt_at memA hw⟩)
 refine tka 0 ?_
 refine tkl 1 (cs:=[.bool b1,v1]) (fun w h=>h.1) ?_
 refine tka 2 ?_
 refine tkl 3 (cs:=[.bool b2,v2]) (fun w h=>h.2) ?_
 refine tk 4 (v:=.bool (!(b1 == b2))) (fun _ _=>R_bne (E:=env) rfl rfl rfl) ?_
 refine tka 5 ?_
 refine tkl 6 (cs:=[.bool b1,v1]) (fun w h=>h.1) ?_
 refine tka 7 ?_
 refine tkl 8 (cs:=[.bool b2,v2]) (fun w h=>h.2) ?_
 refine t1 9 ?_
 refine ca hM ?_
 rintro o _ ⟨ho,rfl⟩
 refine nl ?_
 refine te (fun w hw=>⟨pt_at memA hw,pt_at memA hw⟩) ?_
 refine t1 10 ?_
 refine ca (hI2 o) ?_
 rintro _ _ ⟨o2,rfl,ho2,rfl⟩
 refine nl ?_
 refine te (fun w hw=>⟨pt_at memA hw,pt_at memA hw⟩) ?_
 refine t1 11 ?_
 refine srz ?_
 refine nl ?_
 refine te (fun w hw=>⟨pt_at memA hw,pt_at memA hw⟩) ?_
 refine t0 ?_
 repeat' first|refine xc ?_|refine rt ?_
 exact rca1 (cs:=[.bool (decide (z < 0)),o2]) (vs:=[.bool (decide (z < 0)),o2]) (T:=TIt) ⟨o2,rfl,ho2,rfl⟩
theorem along_tr (z1 z2:Int) (v1 v2:Value) (hs:decide (z1 < 0) = decide (z2 < 0)) (h1:(dz z1).length ≤ 549755813888) (h2:(dz z2).length ≤ 549755813888) :
  Tr Tryz.prog 181 [iv z1 v1,iv z2 v2] [vw v1 (Us (dz z1)),vw v2 (Us (dz z2))] [] (IR (z1 + z2)):=by
 have hA:=NAdd_tr v1 v2 (dz z1) (dz z2) (Dg_dg _) (Dg_dg _) (by omega) (by omega)
 have hlen:(dg (nv (dz z1) + nv (dz z2))).length ≤ 1099511627776:=by
  unfold dz at *
  rw [nv_dg,nv_dg]
  have:=dg_add_len (i:=549755813888) h1 h2
  omega
 have hI:=fun o=>IMake_tr (decide (z1 < 0)) o (dg (nv (dz z1) + nv (dz z2))) (Dg_dg _) hlen
 have e:sg (decide (z1 < 0)) (nv (dz z1) + nv (dz z2)) = z1 + z2:=by
  unfold sg dz
  rw [nv_dg,nv_dg]
  by_cases h:z1 < 0
  ·have:=of_decide_eq_true (hs.symm.trans (decide_eq_true h))
   rw [if_pos (by simpa using h)];omega
  ·have:=of_decide_eq_false (hs.symm.trans (decide_eq_false h))
   rw [if_neg (by simpa using h)];omega
 rw [show nv (dg (nv (dz z1) + nv (dz z2))) = nv (dz z1) + nv (dz z2) from nv_dg _,e] at hI
 unfold IR at hI ⊢
 obtain ⟨z,hz⟩ : ∃ z,z = z1 + z2:=⟨_,rfl⟩
 rw [← hz] at hI ⊢
 clear hz hlen e hs
 generalize dg (nv (dz z1) + nv (dz z2)) = pd at *
 show Tr _ _ [.agg #[.bool (decide (z1 < 0)),v1],.agg #[.bool (decide (z2 < 0)),v2]] _ _ _
 generalize decide (z1 < 0) = b1 at *
 generalize decide (z2 < 0) = b2 at *
 generalize dz z1 = l1 at *
 generalize dz z2 = l2 at *
 refine Tr.enter env _ Tryz.func181 (by kernel_rfl) rfl Tryz.ntmps181 rfl (by repeat (first | exact has00 | refine has01 ?_)) fun w0=>?_
 repeat' first|refine bx fun q=>?_|refine al fun c=>?_|refine sq ?_|refine rg ?_|refine xc ?_|refine nl ?_
 rename_i q1
 refine rs (fun w=>w.heap[q1]? = some (.cells [.bool b1,v1].toArray TIt (0,0))∧w.heap[q]? = some (.cells [.bool b2,v2].toArray TIt (0,0))) ?_ (fun w hw=>⟨pt_at memA hw,pt_at memA hw⟩)
 refine tka 0 ?_
 refine tkl 1 (cs:=[.bool b1,v1]) (fun w h=>h.1) ?_
 refine tka 2 ?_
 refine tkl 3 (cs:=[.bool b1,v1]) (fun w h=>h.1) ?_
 refine tka 4 ?_
 refine tkl 5 (cs:=[.bool b2,v2]) (fun w h=>h.2) ?_
 refine t1 6 ?_
 refine ca hA ?_
 rintro o _ ⟨ho,rfl⟩
 refine nl ?_
 refine te (fun w hw=>⟨pt_at memA hw,pt_at memA hw⟩) ?_
 refine t1 7 ?_
 refine ca (hI o) ?_
 rintro _ _ ⟨o2,rfl,ho2,rfl⟩
 refine nl ?_
 refine te (fun w hw=>⟨pt_at memA hw,pt_at memA hw⟩) ?_
 refine t1 8 ?_
 refine srz ?_
 refine nl ?_
 refine te (fun w hw=>⟨pt_at memA hw,pt_at memA hw⟩) ?_
 refine t0 ?_
 repeat' first|refine xc ?_|refine rt ?_
 exact rca1 (cs:=[.bool (decide (z < 0)),o2]) (vs:=[.bool (decide (z < 0)),o2]) (T:=TIt) ⟨o2,rfl,ho2,rfl⟩
theorem against_tr (z1 z2:Int) (v1 v2:Value) (hs:decide (z1 < 0) ≠ decide (z2 < 0)) (h1:(dz z1).length ≤ 549755813888) (h2:(dz z2).length ≤ 549755813888) :
  Tr Tryz.prog 182 [iv z1 v1,iv z2 v2] [vw v1 (Us (dz z1)),vw v2 (Us (dz z2))] [] (IR (z1 + z2)):=by
 have hnn:(z1 < 0∧¬ z2 < 0)∨(¬ z1 < 0∧z2 < 0):=by
  by_cases g1:z1 < 0
  ·by_cases g2:z2 < 0
   ·exact absurd (by rw [decide_eq_true g1,decide_eq_true g2]) hs
   ·exact .inl ⟨g1,g2⟩
  ·by_cases g2:z2 < 0
   ·exact .inr ⟨g1,g2⟩
   ·exact absurd (by rw [decide_eq_false g1,decide_eq_false g2]) hs
 by_cases hle:z2.natAbs ≤ z1.natAbs
 ·have hA:=NSub_tr v1 v2 (dz z1) (dz z2) (Dg_dg _) (Dg_dg _) (by omega) (by omega) (by unfold dz;rw [nv_dg,nv_dg];exact hle)
  have hlen:(dg (nv (dz z1) - nv (dz z2))).length ≤ 1099511627776:=by
   unfold dz at *
   rw [nv_dg,nv_dg]
   exact Nat.le_trans (dg_mono (Nat.sub_le _ _)) (by omega)
  have hI:=fun o=>IMake_tr (decide (z1 < 0)) o (dg (nv (dz z1) - nv (dz z2))) (Dg_dg _) hlen
  have e:sg (decide (z1 < 0)) (nv (dz z1) - nv (dz z2)) = z1 + z2:=by
   unfold sg dz
   rw [nv_dg,nv_dg]
   by_cases h:z1 < 0
   ·rw [if_pos (by simpa using h)];omega
   ·rw [if_neg (by simpa using h)];omega
  rw [show nv (dg (nv (dz z1) - nv (dz z2))) = nv (dz z1) - nv (dz z2) from nv_dg _,e] at hI
  unfold IR at hI ⊢
  obtain ⟨z,hz⟩ : ∃ z,z = z1 + z2:=⟨_,rfl⟩
  rw [← hz] at hI ⊢
  clear hz hlen e hs hnn hle
  generalize dg (nv (dz z1) - nv (dz z2)) = pd at *
  show Tr _ _ [.agg #[.bool (decide (z1 < 0)),v1],.agg #[.bool (decide (z2 < 0)),v2]] _ _ _
  generalize decide (z1 < 0) = b1 at *
  generalize decide (z2 < 0) = b2 at *
  generalize dz z1 = l1 at *
  generalize dz z2 = l2 at *
  refine Tr.enter env _ Tryz.func182 (by kernel_rfl) rfl Tryz.ntmps182 rfl (by repeat (first | exact has00 | refine has01 ?_)) fun w0=>?_
  repeat' first|(refine gca ?_;first|(refine ca hA ?_;rintro _ _ ⟨o,rfl,ho,rfl⟩)|(refine ca (hI o) ?_;rintro _ _ ⟨o2,rfl,ho2,rfl⟩))|refine bx fun q=>?_|refine al fun c=>?_|refine srz ?_|(refine wo ?_;first|(refine ao ?_;first|refine oa ?_)|refine oa ?_|refine ld ?_)|(refine gc ?_;first|refine ct ?_)|refine sq ?_|refine rg ?_|refine xc ?_|refine nl ?_|refine rt ?_
  exact rca1 (cs:=[.bool (decide (z < 0)),o2]) (vs:=[.bool (decide (z < 0)),o2]) (T:=TIt) ⟨o2,rfl,ho2,rfl⟩
 ·have hA:=NSub0_tr v1 v2 (dz z1) (dz z2) (Dg_dg _) (Dg_dg _) (by unfold dz;rw [nv_dg,nv_dg];omega)
  have hB2:=NSub_tr v2 v1 (dz z2) (dz z1) (Dg_dg _) (Dg_dg _) (by omega) (by omega) (by unfold dz;rw [nv_dg,nv_dg];omega)
  have hlen:(dg (nv (dz z2) - nv (dz z1))).length ≤ 1099511627776:=by
   unfold dz at *
   rw [nv_dg,nv_dg]
   exact Nat.le_trans (dg_mono (Nat.sub_le _ _)) (by omega)
  have hI:=fun o=>IMake_tr (decide (z2 < 0)) o (dg (nv (dz z2) - nv (dz z1))) (Dg_dg _) hlen
  have e:sg (decide (z2 < 0)) (nv (dz z2) - nv (dz z1)) = z1 + z2:=by
   unfold sg dz
   rw [nv_dg,nv_dg]
   by_cases h:z2 < 0
   ·rw [if_pos (by simpa using h)];omega
   ·rw [if_neg (by simpa using h)];omega
  rw [show nv (dg (nv (dz z2) - nv (dz z1))) = nv (dz z2) - nv (dz z1) from nv_dg _,e] at hI
  unfold IR at hI ⊢
  obtain ⟨z,hz⟩ : ∃ z,z = z1 + z2:=⟨_,rfl⟩
  rw [← hz] at hI ⊢
  clear hz hlen e hs hnn hle
  generalize dg (nv (dz z2) - nv (dz z1)) = pd at *
  show Tr _ _ [.agg #[.bool (decide (z1 < 0)),v1],.agg #[.bool (decide (z2 < 0)),v2]] _ _ _
  generalize decide (z1 < 0) = b1 at *
  generalize decide (z2 < 0) = b2 at *
  generalize dz z1 = l1 at *
  generalize dz z2 = l2 at *
  refine Tr.enter env _ Tryz.func182 (by kernel_rfl) rfl Tryz.ntmps182 rfl (by repeat (first | exact has00 | refine has01 ?_)) fun w0=>?_
  repeat' first|(refine gca ?_;first|(refine ca hA ?_;rintro _ _ ⟨rfl,rfl⟩)|(refine ca hB2 ?_;rintro _ _ ⟨o,rfl,ho,rfl⟩)|(refine ca (hI o) ?_;rintro _ _ ⟨o2,rfl,ho2,rfl⟩))|refine bx fun q=>?_|refine al fun c=>?_|refine srz ?_|(refine wo ?_;first|(refine ao ?_;first|refine oa ?_)|refine oa ?_|refine ld ?_)|(refine gc ?_;first|refine cf ?_)|refine sq ?_|refine rg ?_|refine xc ?_|refine nl ?_|refine sk ?_|refine rt ?_
  exact rca1 (cs:=[.bool (decide (z < 0)),o2]) (vs:=[.bool (decide (z < 0)),o2]) (T:=TIt) ⟨o2,rfl,ho2,rfl⟩
theorem IAdd_tr (z1 z2:Int) (v1 v2:Value) (g1:v1.oneCell' = true) (g2:v2.oneCell' = true) (h1:(dz z1).length ≤ 549755813888) (h2:(dz z2).length ≤ 549755813888) :
  Tr Tryz.prog 121 [iv z1 v1,iv z2 v2] [vw v1 (Us (dz z1)),vw v2 (Us (dz z2))] [] (IR (z1 + z2)):=by
 by_cases hs:decide (z1 < 0) = decide (z2 < 0)
 ·have hA:=along_tr z1 z2 v1 v2 hs h1 h2
  unfold IR at hA ⊢
  obtain ⟨z,hz⟩ : ∃ z,z = z1 + z2:=⟨_,rfl⟩
  rw [← hz] at hA ⊢
  clear hz
  show Tr _ _ [.agg #[.bool (decide (z1 < 0)),v1],.agg #[.bool (decide (z2 < 0)),v2]] _ _ _
  change Tr _ _ [.agg #[.bool (decide (z1 < 0)),v1],.agg #[.bool (decide (z2 < 0)),v2]] _ _ _ at hA
  rw [← hs] at hA ⊢
  generalize decide (z1 < 0) = b1 at *
  generalize dz z1 = l1 at *
  generalize dz z2 = l2 at *
  have hb:(!(b1 == b1)) = false:=by simp
  refine Tr.enter env _ Tryz.func121 (by kernel_rfl) rfl Tryz.ntmps121 rfl (by repeat (first | exact has00 | refine has01 ?_)) fun w0=>?_
  repeat' first|refine bx fun q=>?_|refine al fun c=>?_|(refine ibn ?_;rw [hb])|(refine wo ?_;first|refine oa ?_|refine ld ?_)|(refine gc ?_;first|refine cf ?_)|refine sq ?_|refine rg ?_|refine xc ?_|refine nl ?_|refine sk ?_
  rename_i q1
  refine rs (fun w=>w.heap[q1]? = some (.cells [.bool b1,v1].toArray TIt (0,0))∧w.heap[q]? = some (.cells [.bool b1,v2].toArray TIt (0,0))) ?_ (fun w hw=>⟨pt_at memA hw,pt_at memA hw⟩)
  refine tk 0 (v:=.agg #[.func (.func 181) #[] #[],.func (.func 182) #[] #[]]) (fun w h=>R_buildArr (E:=env) rfl rfl rfl rfl rfl) ?_
  refine tka 1 ?_
  refine tk 2 (v:=.func (.func 181) #[] #[]) (fun w h=>R_index1 (E:=env) (m:=2) (i:=0) rfl rfl rfl rfl rfl rfl (by decide) rfl) ?_
  refine tk 3 (v:=.agg #[.bool b1,v1]) (fun w h=>R_loadA (E:=env) (vs:=[.bool b1,v1]) rfl rfl rfl rfl h.1 rfl rfl) ?_
  refine tk 4 (v:=.agg #[.bool b1,v2]) (fun w h=>R_loadA (E:=env) (vs:=[.bool b1,v2]) rfl rfl rfl rfl h.2 rfl rfl) ?_
  refine t1 5 ?_
  refine cav (cap:=#[]) (vs:=[.agg #[.bool b1,v1],.agg #[.bool b1,v2]]) hA ?_
  rintro _ _ ⟨o2,rfl,ho2,rfl⟩
  refine nl ?_
  refine te (fun w hw=>⟨pt_at memA hw,pt_at memA hw⟩) ?_
  refine t1 6 ?_
  refine srz ?_
  refine nl ?_
  refine te (fun w hw=>⟨pt_at memA hw,pt_at memA hw⟩) ?_
  refine t0 ?_
  repeat' first|refine xc ?_|refine rt ?_
  exact rca1 (cs:=[.bool (decide (z < 0)),o2]) (vs:=[.bool (decide (z < 0)),o2]) (T:=TIt) ⟨o2,rfl,ho2,rfl⟩
 ·have hA:=against_tr z1 z2 v1 v2 hs h1 h2
  unfold IR at hA ⊢
  obtain ⟨z,hz⟩ : ∃ z,z = z1 + z2:=⟨_,rfl⟩
  rw [← hz] at hA ⊢
  clear hz
  show Tr _ _ [.agg #[.bool (decide (z1 < 0)),v1],.agg #[.bool (decide (z2 < 0)),v2]] _ _ _
  change Tr _ _ [.agg #[.bool (decide (z1 < 0)),v1],.agg #[.bool (decide (z2 < 0)),v2]] _ _ _ at hA
  generalize decide (z1 < 0) = b1 at *
  generalize decide (z2 < 0) = b2 at *
  generalize dz z1 = l1 at *
  generalize dz z2 = l2 at *
  have hb:(!(b1 == b2)) = true:=by simpa using hs
  refine Tr.enter env _ Tryz.func121 (by kernel_rfl) rfl Tryz.ntmps121 rfl (by repeat (first | exact has00 | refine has01 ?_)) fun w0=>?_
  repeat' first|refine bx fun q=>?_|refine al fun c=>?_|(refine ibn ?_;rw [hb])|(refine wo ?_;first|refine oa ?_|refine ld ?_)|(refine gc ?_;first|refine ct ?_)|refine sq ?_|refine rg ?_|refine xc ?_|refine nl ?_
  rename_i q1
  refine rs (fun w=>w.heap[q1]? = some (.cells [.bool b1,v1].toArray TIt (0,0))∧w.heap[q]? = some (.cells [.bool b2,v2].toArray TIt (0,0))) ?_ (fun w hw=>⟨pt_at memA hw,pt_at memA hw⟩)
  refine tk 0 (v:=.agg #[.func (.func 181) #[] #[],.func (.func 182) #[] #[]]) (fun w h=>R_buildArr (E:=env) rfl rfl rfl rfl rfl) ?_
  refine tka 1 ?_
  refine tk 2 (v:=.func (.func 182) #[] #[]) (fun w h=>R_index1 (E:=env) (m:=2) (i:=1) rfl rfl rfl rfl rfl rfl (by decide) rfl) ?_
  refine tk 3 (v:=.agg #[.bool b1,v1]) (fun w h=>R_loadA (E:=env) (vs:=[.bool b1,v1]) rfl rfl rfl rfl h.1 rfl rfl) ?_
  refine tk 4 (v:=.agg #[.bool b2,v2]) (fun w h=>R_loadA (E:=env) (vs:=[.bool b2,v2]) rfl rfl rfl rfl h.2 rfl rfl) ?_
  refine t1 5 ?_
  refine cav (cap:=#[]) (vs:=[.agg #[.bool b1,v1],.agg #[.bool b2,v2]]) hA ?_
  rintro _ _ ⟨o2,rfl,ho2,rfl⟩
  refine nl ?_
  refine te (fun w hw=>⟨pt_at memA hw,pt_at memA hw⟩) ?_
  refine t1 6 ?_
  refine srz ?_
  refine nl ?_
  refine te (fun w hw=>⟨pt_at memA hw,pt_at memA hw⟩) ?_
  refine t0 ?_
  repeat' first|refine xc ?_|refine rt ?_
  exact rca1 (cs:=[.bool (decide (z < 0)),o2]) (vs:=[.bool (decide (z < 0)),o2]) (T:=TIt) ⟨o2,rfl,ho2,rfl⟩
end Go.Art
namespace Go.Art
open Go Go.Proofs Go.RowKit
def dfrl (Ds:List Nat):Ch where
 wr:=fun x=>x ∈ Ds
 rd:=fun _=>False
 bd:=fun _=>False
 P:=fun w=>Ds.Nodup∧∀ D ∈ Ds,w.heap[D]? = some (.deferred (some []))
 loc:=fun h hb=>⟨h.1,fun D hD=>(hb D (.inl hD)).trans (h.2 D hD)⟩
 lt:=fun h hb=>by rcases hb with hb | hb | hb;exact lt_of_heap (h.2 _ hb);exact hb.elim;exact hb.elim
instance (Ds:List Nat):NoB (dfrl Ds):=⟨fun _ h=>h⟩
theorem dfrl_nil (A:List Ch):Im A (dfrl [] :: A):=by
 have h0:∀ b,¬ (dfrl []).ft b:=by rintro b (h | h | h);cases h;exact h;exact h
 refine ⟨fun w hw=>Sat.cons.2 ⟨⟨.nil,fun D hD=>nomatch hD⟩,fun a _=>⟨fun b hb=>absurd (.inl hb) (h0 b),fun b _ hf=>h0 b hf⟩,hw⟩,fun b hb=>?_,fun b hb=>?_,fun b hb=>?_⟩
 ·obtain ⟨x,hx,hb⟩:=hb
  rcases List.mem_cons.1 hx with rfl | hx
  ·exact absurd (.inl hb) (h0 b)
  ·exact ⟨x,hx,hb⟩
 ·obtain ⟨x,hx,hb⟩:=hb
  rcases List.mem_cons.1 hx with rfl | hx
  ·exact hb.elim
  ·exact .inr ⟨x,hx,hb⟩
 ·obtain ⟨x,hx,hb⟩:=hb
  rcases List.mem_cons.1 hx with rfl | hx
  ·exact absurd hb (h0 b)
  ·exact ⟨x,hx,hb⟩
theorem dfrl_cons (D:Nat) (Ds:List Nat) (A:List Ch):Im (dfr D :: dfrl Ds :: A) (dfrl (D :: Ds) :: A):=by
 refine Im.trans (im_bnd [dfr D,dfrl Ds] A) (Im1.im (c:=bnd [dfr D,dfrl Ds]) (d:=dfrl (D :: Ds)) ⟨fun w h=>?_,fun b h=>?_,fun b h=>(False.elim h),fun b h=>?_⟩ A)
 ·have h:Sat [dfr D,dfrl Ds] w:=h
  obtain ⟨h1,h2,h3⟩:=Sat.cons.1 h
  have h4:Ds.Nodup∧∀ D ∈ Ds,w.heap[D]? = some (.deferred (some [])):=h3.h (dfrl Ds) (List.Mem.head _)
  refine ⟨List.nodup_cons.2 ⟨fun hm=>(h2 (dfrl Ds) (List.Mem.head _)).1 D rfl (.inl hm),h4.1⟩,fun x hx=>?_⟩
  rcases List.mem_cons.1 hx with rfl | hx
  ·exact h1
  ·exact h4.2 x hx
 ·rcases List.mem_cons.1 h with rfl | h
  ·exact ⟨dfr b,List.Mem.head _,rfl⟩
  ·exact ⟨dfrl Ds,by simp,h⟩
 ·rcases h with h | h | h
  ·rcases List.mem_cons.1 h with rfl | h
   ·exact .inl ⟨dfr b,List.Mem.head _,rfl⟩
   ·exact .inl ⟨dfrl Ds,by simp,h⟩
  ·exact h.elim
  ·exact h.elim
theorem dfrl_push {D:Nat} {Ds:List Nat} {A F:List Ch} (hf:Fit A [dfr D,dfrl Ds] F):Im A (dfrl (D :: Ds) :: F):=Im.trans hf (dfrl_cons D Ds F)
abbrev marks (Ds:List Nat):List Deferred:=Ds.map mark
section
variable {P:Program} {E:Env P} {m:Nat} {Q0:Exit→Act→World→Prop} {s:List K} {fr:Fr} {w:World} {c c0:Code} {X:Cx} {A A' B F G D:List Ch} {ops:Array Oper} {rest:List Oper} {d:Nat} {ty t e:TypeId} {pos:String} {after:Array Edge} {v u:Value} {x y:Operand} {n:Sh}
def LoopKD (m:Nat) {ι:Type} (ds:ι→List Nat) (inv:ι→Fr) (I:ι→World→Prop) (μ:ι→Nat) (i:ι) (a:Act) (w:World):Prop:=
 ∃ i',I i' w∧Holds ⟨m,marks (ds i'),none⟩ a (inv i')∧μ i' < μ i
def LoopTD (m:Nat) (X:Cx) {ι:Type} (ds:ι→List Nat) (inv:ι→Fr) (J:ι→List Ch) (I:ι→Prop) (μ:ι→Nat) (i:ι) (a:Act) (w:World):Prop:=
 ∃ i',I i'∧Holds ⟨m,marks (ds i'),none⟩ a (inv i')∧St X (J i') w∧μ i' < μ i
/-! ### Leaving with marks -/
variable {R:Value→World→Prop} {R':Value→List Ch→Prop} {fn:Func} {w0:World} {A0:List Ch}
theorem leaves_marks {tmps:Array Value}:∀ {Ds:List Nat} {w:World},Ds.Nodup→(∀ D ∈ Ds,w.heap[D]? = some (.deferred (some [])))→(∀ w',Upd w w' Ds→LeavesInM (FF none) 0 P fn tmps (RetP R) [] .returning w')→LeavesInM (FF none) 0 P fn tmps (RetP R) (marks Ds) .returning w
 | [],w,_,_,h=>h w (Upd.refl _ _)
 | D :: Ds,w,hn,hD,h=>by
  obtain ⟨h1,h2⟩:=List.nodup_cons.1 hn
  refine leaves_mark (hD D (List.Mem.head _)) fun w1 hU=>leaves_marks h2 (fun y hy=>?_) fun w2 hU2=>h w2 ?_
  ·rw [hU.block y (lt_of_heap (hD y (List.mem_cons_of_mem _ hy))) (fun hm=>by obtain rfl:=List.mem_singleton.1 hm;exact h1 hy)]
   exact hD y (List.mem_cons_of_mem _ hy)
  ·exact hU.then hU2 (fun b hb=>by obtain rfl:=List.mem_singleton.1 hb;exact .inl (List.Mem.head _)) (fun b hb=>.inl (List.mem_cons_of_mem _ hb))
theorem PR.mkL {Q:Exit→Act→World→Prop} {w w':World} {Ds:List Nat} (h:R' v D) (hw:St ⟨Q,w0,A0⟩ (dfrl Ds :: A') w) (hf:Fit A' D G) (nb:∀ c ∈ D,∀ b,¬ c.bd b) (hU:Upd w w' Ds):PR w0 A0 R' v w':=by
 have h2:St ⟨Q,w0,A0⟩ A' w':=hw.step (A:=[dfrl Ds]) (B:=[]) (F:=A') (Mv.upd hU (fun b hb=>.inl (wrs_one.2 hb)) (fun b hb=>absurd hb wrs_nil) (fun b hb=>absurd hb rds_nil)) (Sat.nil _) (by simp)
 have h3:=h2.im (Im.trans hf (Im.drop _ _))
 exact ⟨D,h,h3.sat,h3.mv,nb⟩
theorem St.unmark {Q:Exit→Act→World→Prop} {w w':World} {Ds:List Nat} (hw:St ⟨Q,w0,A0⟩ (dfrl Ds :: A') w) (hU:Upd w w' Ds):Sat A' w':=
 (hw.step (A:=[dfrl Ds]) (B:=[]) (F:=A') (Mv.upd hU (fun b hb=>.inl (wrs_one.2 hb)) (fun b hb=>absurd hb wrs_nil) (fun b hb=>absurd hb rds_nil)) (Sat.nil _) (by simp)).sat
theorem mG {Ds:List Nat} {e:Exit} (he:e = .ret∨e = .normal) (h:R' v D) (hr:∀ w,Sat A' w→∀ a,Holds ⟨m,marks Ds,none⟩ a fr→(results fn a.tmps).run P w = .ok v w) (hm:Tk (dfrl Ds) A A') (hf:Fit A' D G) (nb:∀ c ∈ D,∀ b,¬ c.bd b) :
  TX E ⟨m,marks Ds,none⟩ ⟨bodyPostM (FF none) 0 P fn (RetP (PR w0 A0 R')),w0,A0⟩ [] e fr A:=⟨fun w hw=>⟨fun a ha=>by
 have h1:=hw.im hm
 have h2:Ds.Nodup∧∀ D ∈ Ds,w.heap[D]? = some (.deferred (some [])):=h1.mem (List.Mem.head _)
 have key:LeavesInM (FF none) 0 P fn a.tmps (RetP (PR w0 A0 R')) a.defers .returning w:=by
  rw [ha.defers]
  exact leaves_marks h2.1 h2.2 fun w' hU=>leaves_nil (hr w' (h1.unmark hU) a ha) (PR.mkL h h1 hf nb hU)
 rcases he with rfl | rfl
 ·exact key
 ·exact key⟩⟩
/-! ### Slices without spare room, lent -/
end
end Go.Art
