/- Texts put together: Qm So Sg Al Qn Ct Rn Bg Ro Na LayMul LayLen LayLz Nb Ne Xr Cp Nf Ng Nh Ni Nc Nd. Conditions: none. -/
import Derived.Test.YtpabbhpgikdhfaaGreatWJb
set_option linter.unusedSimpArgs false
set_option linter.unusedVariables false
namespace Go.Art
open Go Go.Proofs Go.RowKit
def ordW (k:Nat):Nat→Nat→List Int→Lw→(List Int × Int) × Lw
 | 0,_,_,x=>(([],0),x)
 | m + 1,i,l,x=>
  if (drw ((k:Int) - i) x).1.2 = 0 then
   ((l.getD (i + (drw ((k:Int) - i) x).1.1.toNat) 0 :: (ordW k m (i + 1) (swp l i (i + (drw ((k:Int) - i) x).1.1.toNat)) (drw ((k:Int) - i) x).2).1.1,
    (ordW k m (i + 1) (swp l i (i + (drw ((k:Int) - i) x).1.1.toNat)) (drw ((k:Int) - i) x).2).1.2),(ordW k m (i + 1) (swp l i (i + (drw ((k:Int) - i) x).1.1.toNat)) (drw ((k:Int) - i) x).2).2)
  else (([],(drw ((k:Int) - i) x).1.2),(drw ((k:Int) - i) x).2)
theorem ordW_len (k:Nat):∀ (m i:Nat) (l:List Int) (x:Lw),(ordW k m i l x).1.1.length ≤ m∧((ordW k m i l x).1.2 = 0→(ordW k m i l x).1.1.length = m)
 | 0,_,_,_=>⟨Nat.le_refl _,fun _=>rfl⟩
 | m + 1,i,l,x=>by
  unfold ordW
  split
  ·have:=ordW_len k m (i + 1) (swp l i (i + (drw ((k:Int) - i) x).1.1.toNat)) (drw ((k:Int) - i) x).2
   refine ⟨by dsimp only;rw [List.length_cons];omega,fun h=>?_⟩
   dsimp only at h ⊢
   rw [List.length_cons,this.2 h]
  ·rename_i h;exact ⟨Nat.zero_le _,fun h1=>absurd h1 h⟩
def ordO (k d:Int) (x:Lw):(List Int × Int) × (Lw × Int):=
 if Sized k d then ((if (ordW k.toNat d.toNat 0 (upto k.toNat) x).1.2 = 0 then (ordW k.toNat d.toNat 0 (upto k.toNat) x).1.1 else [],(ordW k.toNat d.toNat 0 (upto k.toNat) x).1.2),((ordW k.toNat d.toNat 0 (upto k.toNat) x).2,((ordW k.toNat d.toNat 0 (upto k.toNat) x).1.1.length:Int)))
 else (([],3),(x,0))
theorem ordO_len (k d:Int) (x:Lw):(ordO k d x).1.1.length ≤ 65536:=by
 unfold ordO
 split
 ·rename_i h
  unfold Sized at h
  have:=ordW_len k.toNat d.toNat 0 (upto k.toNat) x
  dsimp only
  split
  ·omega
  ·simp
 ·simp
def pickO (k d:Int) (x:Lw):List Int × Int:=(srt (ordO k d x).1.1,(ordO k d x).1.2)
structure OwG where
 i:Nat
 o:Value
 f:Int→Option Value
 l:List Int
 outs:List Int
 sv:Value
 x:Lw
attribute [local irreducible] Fit pt own ro vw mpc lpt vels rels mow lrc dfr
attribute [local irreducible] mps lmp lme mit
theorem OrderL_tr (b r:Nat) (sv:Value) (x:Lw) (used k d:Int) (hx:okL x) (hu:0 ≤ used∧used ≤ 1152921504606846976):Tr Tryz.prog 205 [ptr b,I k,I d] [] [lot b r sv x used]
  fun v D=>∃ o sv',v = tup2 o (I (ordO k d x).1.2)∧D = [own TLI o (Is (ordO k d x).1.1),lot b r sv' (ordO k d x).2.1 (used + (ordO k d x).2.2)]:=by
 have hl0:drw 0 x = ((0,3),x):=drw_bad x (by omega)
 have hu0:dru 0 x = 0:=by unfold dru;rw [hl0];rfl
 have hD0:=DrawL_tr b r sv x used 0 hx (by omega)
 rw [hl0,hu0,Int.add_zero] at hD0
 clear hl0 hu0
 by_cases hsz:Sized k d
 rotate_left
 ·rw [show ordO k d x = (([],3),(x,0)) from if_neg hsz,Int.add_zero]
  refine Tr.enter env _ Tryz.func205 (by kernel_rfl) rfl Tryz.ntmps205 rfl (by repeat (first | exact has00 | refine has01 ?_)) fun w0=>?_
  refine TC.im (own_nil TLI _) ?_
  repeat' first|(refine gca ?_;first|(refine ca hD0 ?_;rintro _ _ ⟨rfl,sv1,rfl⟩)|(refine ca (sized_tr k d) ?_;rintro _ _ ⟨rfl,rfl⟩;rw [decide_eq_false hsz]))|(refine wo ?_;first|(refine ao ?_;first|refine oa ?_)|refine oa ?_)|(refine gc ?_;first|refine ct ?_|refine cf ?_)|refine sq ?_|refine rg ?_|refine xc ?_|refine nl ?_|refine sk ?_|refine rt ?_
  exact r2 ⟨nS,sv1,rfl,rfl⟩
 have hO:ordO k d x = _:=if_pos hsz
 rw [hO]
 clear hO
 obtain ⟨k1,k2,d1,d2⟩:=id hsz
 refine Tr.enter env _ Tryz.func205 (by kernel_rfl) rfl Tryz.ntmps205 rfl (by repeat (first | exact has00 | refine has01 ?_)) fun w0=>?_
 refine TC.im (own_nil TLI _) ?_
 repeat' first|(refine gca ?_;first|(refine ca hD0 ?_;rintro _ _ ⟨rfl,sv1,rfl⟩)|(refine ca (sized_tr k d) ?_;rintro _ _ ⟨rfl,rfl⟩;rw [decide_eq_true hsz]))|refine mm fun p=>?_|(refine wo ?_;first|(refine ao ?_;first|refine oa ?_)|refine oa ?_)|(refine gc ?_;first|refine cf ?_)|refine sq ?_|refine rg ?_|refine xc ?_|refine nl ?_|refine sk ?_|refine bk ?_
 generalize hF:ordW k.toNat d.toNat 0 (upto k.toNat) x = Fn at *
 refine TC.loop (ι:=OwG) (fun u=>[(29,I u.i),(11,u.o)]) (fun u=>[own TLI u.o (Is u.outs),mpc p u.f,lot b r u.sv u.x (used + u.i)]) (fun u=>okL u.x∧u.i ≤ d.toNat∧u.outs.length = u.i∧(∃ g,PlcF u.f g∧RelG k.toNat u.l g)∧u.outs ++ (ordW k.toNat (d.toNat - u.i) u.i u.l u.x).1.1 = Fn.1.1∧(ordW k.toNat (d.toNat - u.i) u.i u.l u.x).1.2 = Fn.1.2∧(ordW k.toNat (d.toNat - u.i) u.i u.l u.x).2 = Fn.2)
  (fun u=>d.toNat - u.i) ⟨0,nS,fun _=>none,upto k.toNat,[],sv1,x⟩ [0,1,2,10,28] ⟨hx,by simp,rfl,⟨fun i=>i,fun i=>.inl ⟨rfl,rfl⟩,upto_length _,fun t ht=>(upto_get _ _ ht).symm⟩,by simp [hF],by simp [hF],by simp [hF]⟩ ?_ (hf:=by dsimp only;rw [show used + ((0:Nat):Int) = used by omega];exact fitA)
 rintro ⟨i,o,f,l,outs,sv2,x2⟩ ⟨hx2,h1,h2,⟨g,hg1,hg2⟩,h3,h4,h5⟩
 dsimp only at hx2 h1 h2 hg1 hg2 h3 h4 h5 ⊢
 by_cases hi:i < d.toNat
 ·have hki:1 ≤ k - (i:Int)∧k - (i:Int) ≤ 1099511627776:=by omega
  have hkn:(k.toNat:Int) - (i:Int) = k - i:=by omega
  rw [show d.toNat - i = (d.toNat - (i + 1)) + 1 by omega] at h3 h4 h5
  unfold ordW at h3 h4 h5
  rw [hkn] at h3 h4 h5
  have hD:=DrawL_tr b r sv2 x2 (used + i) (k - i) hx2 (by omega)
  by_cases he:(drw (k - (i:Int)) x2).1.2 = 0
  ·rw [if_pos he] at h3 h4 h5
   dsimp only at h3 h4 h5
   obtain ⟨q3,q4⟩:=drw_rng he
   rw [show dru (k - i) x2 = 1 from if_pos he,he] at hD
   obtain ⟨s,hs⟩ : ∃ s:Nat,(drw (k - (i:Int)) x2).1.1 = s:=⟨(drw (k - (i:Int)) x2).1.1.toNat,by omega⟩
   have hok3:=okL_drw (k - i) hx2
   obtain ⟨x3,hx3⟩ : ∃ x3,x3 = (drw (k - (i:Int)) x2).2:=⟨_,rfl⟩
   rw [hs] at h3 h4 h5 q3 q4 hD
   rw [← hx3] at h3 h4 h5 hD hok3
   rw [Int.toNat_natCast] at h3 h4 h5
   clear hs hx3 he
   obtain ⟨q1,q2⟩:=hg2.step (i:=i) (j:=i + s) (by omega) (by omega)
   have hl3:=congrArg List.length h3
   rw [List.length_append,List.length_cons] at hl3
   rw [show ((i + s:Nat):Int) = (i:Int) + s by omega] at q1 q2
   repeat' first|(refine gca ?_;first|(refine ca hD ?_;rintro _ _ ⟨rfl,sv3,rfl⟩)|(refine ca (exchange_tr p f g i _ hg1) ?_;rintro _ _ ⟨f',rfl,hg'⟩)|(refine ca (at_tr p f' _ i hg') ?_;rintro _ _ ⟨rfl,rfl⟩))|(refine wo ?_;first|(refine ao ?_;first|refine aw ?_|refine oa ?_)|refine oa ?_)|(refine gc ?_;first|refine cf ?_|(refine ci (fun hB=>?_) (fun hB=>?_) <;> try (exfalso;omega)))|refine sq ?_|refine rg ?_|refine xc ?_|refine nl ?_|refine sk ?_|refine bk ?_
   rw [q2]
   refine slii [l.getD (i + s) 0] fun v1=>?_
   refine api (v:=o) (l:=outs) (news:=[l.getD (i + s) 0]) fun v2=>?_
   repeat' first|(refine wo ?_;first|(refine ao ?_;first|refine aw ?_)|refine oa ?_)|refine rg ?_|refine xc ?_|refine nl ?_|refine xb ?_
   refine lp ⟨i + 1,v2,f',swp l i (i + s),outs ++ [l.getD (i + s) 0],sv3,x3⟩ ⟨hok3,by dsimp only;omega,by simp [h2],⟨_,hg',q1⟩,by rw [List.append_assoc];exact h3,h4,h5⟩ (hf:=by dsimp only;rw [show used + ((i + 1:Nat):Int) = used + i + 1 by omega];exact fitA)
  ·rw [if_neg he] at h3 h4 h5
   dsimp only at h3 h4 h5
   rw [List.append_nil] at h3
   rw [show dru (k - i) x2 = 0 from if_neg he,Int.add_zero] at hD
   have hf0:¬ Fn.1.2 = 0:=by rw [← h4];exact he
   rw [if_neg hf0]
   rw [← h4,← h5,← h3,h2]
   obtain ⟨dr,hdr⟩ : ∃ dr,dr = drw (k - (i:Int)) x2:=⟨_,rfl⟩
   rw [← hdr] at hD he ⊢
   repeat' first|(refine gca ?_;first|(refine ca hD ?_;rintro _ _ ⟨rfl,sv3,rfl⟩))|(refine wo ?_;first|(refine ao ?_;first|refine aw ?_|refine oa ?_)|refine oa ?_)|(refine gc ?_;first|(refine ci (fun hB=>?_) (fun hB=>?_) <;> try (exfalso;omega))|(refine cn (fun hB=>?_) (fun hB=>?_) <;> try (exfalso;omega)))|refine sq ?_|refine rg ?_|refine xc ?_|refine nl ?_|refine sk ?_|refine bk ?_|refine rt ?_
   refine TX.im (own_nil TLI _) ?_
   exact r2 ⟨nS,sv3,rfl,rfl⟩
 ·obtain rfl:i = d.toNat:=by omega
  rw [Nat.sub_self] at h3 h4 h5
  unfold ordW at h3 h4 h5
  dsimp only at h3 h4 h5
  rw [List.append_nil] at h3
  rw [if_pos h4.symm]
  rw [← h4,← h5,← h3,h2]
  repeat' first|(refine wo ?_;first|(refine ao ?_;first|refine oa ?_)|refine oa ?_)|(refine gc ?_;first|(refine ci (fun hB=>?_) (fun hB=>?_) <;> try (exfalso;omega)))|refine sq ?_|refine rg ?_|refine xc ?_|refine nl ?_|refine xe ?_|refine rt ?_
  exact r2 ⟨o,sv2,rfl,rfl⟩
theorem PickL_tr (b r:Nat) (sv:Value) (x:Lw) (used k d:Int) (hx:okL x) (hu:0 ≤ used∧used ≤ 1152921504606846976):Tr Tryz.prog 150 [ptr b,I k,I d] [] [lot b r sv x used]
  fun v D=>∃ o sv',v = tup2 o (I (pickO k d x).2)∧D = [own TLI o (Is (pickO k d x).1),lot b r sv' (ordO k d x).2.1 (used + (ordO k d x).2.2)]:=by
 have hlen:=ordO_len k d x
 refine Tr.enter env _ Tryz.func150 (by kernel_rfl) rfl Tryz.ntmps150 rfl (by repeat (first | exact has00 | refine has01 ?_)) fun w0=>?_
 repeat' first|(refine gca ?_;first|(refine ca (OrderL_tr b r sv x used k d hx hu) ?_;rintro _ _ ⟨o,sv1,rfl,rfl⟩;refine TO.one (v:=o) (xs:=Is (ordO k d x).1.1) fun ho=>?_)|(refine ca (Values_tr _ (by assumption)) ?_;rintro _ _ ⟨c,rfl,rfl⟩))|(refine wo ?_;first|refine oa ?_)|refine sq ?_|refine rg ?_|refine xc ?_|refine nl ?_
 refine ca (Sorted_tr (Values1_seq c o (ordO k d x).1.1) (by omega)) ?_
 rintro v _ ⟨zs,rfl,rfl⟩
 repeat' first|(refine wo ?_;first|refine oa ?_)|refine xc ?_|refine nl ?_|refine rt ?_
 exact r2 ⟨v,sv1,rfl,rfl⟩
end Go.Art
namespace Go.Art
open Go Go.Proofs Go.RowKit
attribute [local irreducible] Fit pt own ro vw mpc lpt vels rels mow lrc dfr
attribute [local irreducible] lmp lme mit
def wOk (w:Int):Bool:=decide (0 ≤ w∧w ≤ 16777215)
def wPos (w:Int):Bool:=decide (0 < w)
def solE (t:List Int) (k:Int):Int:=if k < 1∨65536 < k∨t.length < 1∨k < t.length then 13 else if t.all wOk && t.any wPos then 0 else 13
theorem solE_zero {t:List Int} {k:Int} (h:solE t k = 0):(1 ≤ k∧k ≤ 65536)∧(1 ≤ t.length∧t.length ≤ k)∧(∀ w ∈ t,0 ≤ w∧w ≤ 16777215)∧∃ w ∈ t,0 < w:=by
 unfold solE at h
 split at h
 ·cases h
 ·split at h
  ·rename_i h1 h2
   rw [Bool.and_eq_true,List.all_eq_true,List.any_eq_true] at h2
   refine ⟨by omega,by omega,fun w hw=>by simpa [wOk] using h2.1 w hw,?_⟩
   obtain ⟨w,hw,hp⟩:=h2.2
   exact ⟨w,hw,by simpa [wPos] using hp⟩
  ·cases h
theorem solE_cases (t:List Int) (k:Int):solE t k = 0∨solE t k = 13:=by unfold solE;split;exact .inr rfl;split;exact .inl rfl;exact .inr rfl
theorem take_all {p:Int→Bool} {t:List Int} {i:Nat} (hi:i < t.length):(t.take (i + 1)).all p = ((t.take i).all p && p (t.getD i 0)):=by rw [take_succ' hi 0,List.all_append];simp
theorem take_any {p:Int→Bool} {t:List Int} {i:Nat} (hi:i < t.length):(t.take (i + 1)).any p = ((t.take i).any p || p (t.getD i 0)):=by rw [take_succ' hi 0,List.any_append];simp
theorem all_of_take {p:Int→Bool} {t:List Int} {i:Nat} (hi:i < t.length) (h:p (t.getD i 0) = false):t.all p = false:=by
 cases hc:t.all p with
 | false=>rfl
 | true=>rw [List.all_eq_true] at hc;rw [hc _ (mem_getD.2 ⟨i,hi,rfl⟩)] at h;cases h
theorem SoCheck_tr (s:Value) (t:List Int) (k:Int):Tr Tryz.prog 53 [s,I k] [vw s (Is t)] [] fun v D=>v = I (solE t k)∧D = []:=by
 refine Tr.enter env _ Tryz.func53 (by kernel_rfl) rfl Tryz.ntmps53 rfl (by repeat (first | exact has00 | refine has01 ?_)) fun w0=>?_
 refine TC.leni (l:=t) fun htl=>?_
 repeat' first|(refine wo ?_;first|(refine ao ?_;first|refine oa ?_)|refine oa ?_|refine lnm ?_|refine gy ?_|refine gn ?_|(refine gsi (fun hB=>?_) (fun hB=>?_) <;> try (exfalso;omega)))|(refine gc ?_;first|refine ct ?_|(refine ci (fun hB=>?_) (fun hB=>?_) <;> try (exfalso;omega)))|refine sq ?_|refine rg ?_|refine xc ?_|refine nl ?_|refine sk ?_|refine bk ?_|refine rt ?_
 ·exact r1 ⟨by rw [solE,if_pos (by omega)],rfl⟩
 ·exact r1 ⟨by rw [solE,if_pos (by omega)],rfl⟩
 ·exact r1 ⟨by rw [solE,if_pos (by omega)],rfl⟩
 ·exact r1 ⟨by rw [solE,if_pos (by omega)],rfl⟩
 rw [show solE t k = if t.all wOk && t.any wPos then 0 else 13 by rw [solE,if_neg (by omega)]]
 refine TC.loop (ι:=Nat × Bool) (fun i=>[(27,I i.1),(5,.bool i.2)]) (fun _=>[]) (fun i=>i.1 ≤ t.length∧(t.take i.1).all wOk = true∧i.2 = (t.take i.1).any wPos) (fun i=>t.length - i.1) (0,false) [25,26] ⟨by simp,rfl,rfl⟩ ?_
 rintro ⟨i,so⟩ ⟨h1,h2,h3⟩
 dsimp only at h1 h2 h3 ⊢
 by_cases hi:i < t.length
 ·have ha:=take_all (p:=wOk) hi
  have hb:=take_any (p:=wPos) hi
  have hc:=all_of_take (p:=wOk) hi
  generalize hy:t.getD i 0 = y at *
  repeat' first|refine lie hy ?_|(refine wo ?_;first|(refine ao ?_;first|refine aw ?_|refine oa ?_)|refine oa ?_|refine ixmn ?_|refine gy ?_|refine gn ?_|(refine gsi (fun hB=>?_) (fun hB=>?_) <;> try (exfalso;omega))|(refine gs (fun hB=>?_) (fun hB=>?_) <;> try (exfalso;omega)))|(refine gc ?_;first|refine ct ?_|(refine ci (fun hB=>?_) (fun hB=>?_) <;> try (exfalso;omega)))|refine sq ?_|refine rg ?_|refine xc ?_|refine nl ?_|refine sk ?_|refine bk ?_|refine rt ?_|refine xb ?_
  ·refine r1 ⟨?_,rfl⟩
   rw [hc (by simp [wOk];omega)];rfl
  ·refine r1 ⟨?_,rfl⟩
   rw [hc (by simp [wOk];omega)];rfl
  ·have hw:wOk y = true:=by simp [wOk];omega
   exact lp (i + 1,true) ⟨by dsimp only;omega,by dsimp only;rw [ha,h2,hw];rfl,by dsimp only;rw [hb,← h3,hB];rfl⟩
  ·have hw:wOk y = true:=by simp [wOk];omega
   exact lp (i + 1,decide (0 < y)) ⟨by dsimp only;omega,by dsimp only;rw [ha,h2,hw];rfl,by dsimp only;rw [hb,← h3,hB];rfl⟩
 ·obtain rfl:i = t.length:=by omega
  rw [List.take_length] at h2 h3
  repeat' first|(refine wo ?_;first|(refine ao ?_;first|refine oa ?_)|refine oa ?_)|(refine gc ?_;first|(refine ci (fun hB=>?_) (fun hB=>?_) <;> try (exfalso;omega))|(refine cb (fun hB=>?_) (fun hB=>?_) <;> try (exfalso;omega)))|refine sq ?_|refine rg ?_|refine xc ?_|refine nl ?_|refine sk ?_|refine xe ?_|refine rt ?_
  ·refine r1 ⟨?_,rfl⟩
   rw [h2,← h3,show so = false by simpa using hB];rfl
  ·refine r1 ⟨?_,rfl⟩
   rw [h2,← h3,show so = true by simpa using hB];rfl
theorem take_sum {t:List Int} {i:Nat} (hi:i < t.length):(t.take (i + 1)).sum = (t.take i).sum + t.getD i 0:=by rw [take_succ' hi 0,List.sum_append];simp
theorem sum_bound {t:List Int} (h:∀ w ∈ t,0 ≤ w∧w ≤ 16777215):0 ≤ t.sum∧t.sum ≤ 16777215 * t.length:=by
 induction t with
 | nil=>simp
 | cons a r ih=>
  have h1:=h a (by simp)
  have h2:=ih fun w hw=>h w (by simp [hw])
  simp only [List.sum_cons,List.length_cons]
  omega
theorem Total_tr (s:Value) (t:List Int) (h1:1 ≤ t.length∧t.length ≤ 65536) (hw:∀ w ∈ t,0 ≤ w∧w ≤ 16777215):Tr Tryz.prog 144 [s] [vw s (Is t)] [] fun v D=>v = I t.sum∧D = []:=by
 refine Tr.enter env _ Tryz.func144 (by kernel_rfl) rfl Tryz.ntmps144 rfl (by repeat (first | exact has00 | refine has01 ?_)) fun w0=>?_
 repeat' first|(refine wo ?_;first|(refine ao ?_;first|refine oa ?_)|refine oa ?_|refine lnm ?_|refine gy ?_|(refine gsi (fun hB=>?_) (fun hB=>?_) <;> try (exfalso;omega)))|(refine gc ?_;first|(refine ci (fun hB=>?_) (fun hB=>?_) <;> try (exfalso;omega)))|refine sq ?_|refine rg ?_|refine xc ?_|refine nl ?_|refine sk ?_|refine bk ?_
 refine TC.loop (ι:=Nat) (fun i=>[(15,I i),(2,I (t.take i).sum)]) (fun _=>[]) (fun i=>i ≤ t.length) (fun i=>t.length - i) 0 [13,14] (by simp) ?_
 rintro i h2
 by_cases hi:i < t.length
 ·have hs:=take_sum hi
  have hb:=hw _ (mem_getD.2 ⟨i,hi,rfl⟩)
  have hc:=sum_bound (t:=t.take i) fun w h=>hw w (List.mem_of_mem_take h)
  rw [List.length_take] at hc
  generalize hy:t.getD i 0 = y at *
  repeat' first|refine lie hy ?_|(refine wo ?_;first|(refine ao ?_;first|refine aw ?_|refine oa ?_)|refine oa ?_|refine ixmn ?_|refine gy ?_|(refine gsi (fun hB=>?_) (fun hB=>?_) <;> try (exfalso;omega)))|(refine gc ?_;first|(refine ci (fun hB=>?_) (fun hB=>?_) <;> try (exfalso;omega)))|refine sq ?_|refine rg ?_|refine xc ?_|refine nl ?_|refine sk ?_|refine bk ?_|refine xb ?_
  exact lp (i + 1) (by omega) (hs:=by rw [hs];(repeat (refine Sub.cons rfl (by first | rfl | go_num) ?_));exact Sub.nil)
 ·obtain rfl:i = t.length:=by omega
  rw [List.take_length]
  repeat' first|(refine wo ?_;first|(refine ao ?_;first|refine oa ?_)|refine oa ?_)|(refine gc ?_;first|(refine ci (fun hB=>?_) (fun hB=>?_) <;> try (exfalso;omega)))|refine sq ?_|refine rg ?_|refine xc ?_|refine nl ?_|refine xe ?_|refine rt ?_
  exact r1 ⟨rfl,rfl⟩
end Go.Art
namespace Go.Art
open Go Go.RowKit
section
variable {F:Fence} {m:Nat} {P:Program} {md:Region.Mode} {ops:Array Oper} {Q:Exit→Act→World→Prop} {S:World→Prop}
def YSg (P:Program) (ops:Array Oper) (S:World→Prop) (o:Oper) (v:Value) (a:Act):Prop:=
 (Region.wanted o (yielded ops a.tmps) = true∧∀ w,S w→(execOp a.eval o).run P w = .ok (.value v) w∧o.about P w a.eval = none)∨(Region.wanted o (yielded ops a.tmps) = false∧v = undef∧∀ w,S w→o.about P w a.eval = none)
theorem wpAnyS_takeG {i d:Nat} {o:Op} {ty:TypeId} {pos:String} {after:Array Edge} {g:Option (Nat × Bool)} {v:Value} (hro:F.round = none) (hi:ops[i]? = some ⟨some d,o,ty,pos,after,g⟩) (hs:Region.noSelect ops = true) (hQ:∀ c a w,¬ Q (.panic c) a w) :
  ∀ (fuel:Nat) (listed:Array Bool) (a:Act) (w:World),Region.free md ops listed i = true→(Region.ready md ops listed).contains i = true→YSg P ops S ⟨some d,o,ty,pos,after,g⟩ v a→S w →
   wpAnyS F m P md ops Q S fuel (listed.setIfInBounds i true) (a.put (some d) v) w→wpAnyS F m P md ops Q S (fuel + 1) listed a w:=by
 have hsel:=fun j oj cs b (h:ops[j]? = some oj)=>Region.noSelect_spec hs j oj cs b h
 have now:∀ (K:Act→World→Prop) (a:Act) (w:World),YSg P ops S ⟨some d,o,ty,pos,after,g⟩ v a→S w→K (a.put (some d) v) w→wpOpIn F m P ops Q i K a w:=fun K a w hy hS h=>by
  unfold wpOpIn
  simp only [hi]
  rcases hy with ⟨hw,hy⟩ | ⟨hw,rfl,hy⟩
  ·rw [if_pos hw]
   simp only [Oper.wpIn,hro,Oper.semAt_none,(hy w hS).1,Oper.uponIn]
   exact ⟨fun f hf=>(by rw [(hy w hS).2] at hf;cases hf),h⟩
  ·rw [if_neg (by rw [hw];decide)]
   exact ⟨fun f hf=>(by rw [hy w hS] at hf;cases hf),h⟩
 have gen:∀ (fuel:Nat) (listed:Array Bool) (a:Act) (w:World),(∀ j oj,ops[j]? = some oj→j ≠ i→listed.getD j true = false→(∀ e ∈ oj.after,Region.binds md e = true→e.on ≠ i)→Oper.apart ops ⟨some d,o,ty,pos,after,g⟩ oj = true) →
   i ∈ Region.ready md ops listed→YSg P ops S ⟨some d,o,ty,pos,after,g⟩ v a→S w→wpAnyS F m P md ops Q S fuel (listed.setIfInBounds i true) (a.put (some d) v) w→wpAnyS F m P md ops Q S (fuel + 1) listed a w:=by
  intro fuel
  induction fuel with
  | zero=>
   intro listed a w _ hr hy hS H
   refine ⟨fun h=>(by rw [h] at hr;cases hr),fun j hj=>?_⟩
   by_cases hji:j = i
   ·subst hji;exact now _ a w hy hS ⟨hS,H⟩
   ·have:=ready_mono hj hji
    rw [H.1] at this
    cases this
  | succ fuel ih=>
   intro listed a w hfree hr hy hS H
   refine ⟨fun h=>(by rw [h] at hr;cases hr),fun j hj=>?_⟩
   by_cases hji:j = i
   ·subst hji;exact now _ a w hy hS ⟨hS,H⟩
   ·obtain ⟨hjun,oj,hoj,hall⟩:=mem_ready.1 hj
    have hnot:∀ e ∈ oj.after,Region.binds md e = true→e.on ≠ i:=fun e he hb heq=>by
     have h1:=hall e he hb
     have h0:=(mem_ready.1 hr).1
     rw [heq] at h1
     rcases Nat.lt_or_ge i listed.size with h' | h'
     ·simp [h'] at h0 h1;rw [h0] at h1;cases h1
     ·simp [Array.getElem?_eq_none h'] at h1
    have hap:=hfree j oj hoj hji hjun hnot
    obtain ⟨p1,p2,p3⟩:=Oper.apart_spec hap
    have hap2:Oper.apart ops ⟨some d,.assign (.const v),ty,pos,after,none⟩ oj = true:=by
     have q1:=p1 d rfl
     have q2:=p2 d rfl
     have q3:Oper.looksAt ops ⟨some d,.assign (.const v),ty,pos,after,none⟩ = []:=rfl
     simp only [Oper.apart,q3]
     have r1:(oj.looksAt ops).contains d = false:=by simpa using q1
     have r2:(oj.dst != some d) = true:=by simpa using q2
     rw [r1,r2]
     cases oj.dst <;> rfl
    have hyf:YieldsFenced P ops ⟨some d,.assign (.const v),ty,pos,after,none⟩ v a:=⟨.inl ⟨rfl,fun w=>rfl⟩,fun w=>rfl⟩
    have h2:=wpOpIn_put hro hoj hap2 (fun cs b e=>by cases e) (fun cs b=>hsel j oj cs b hoj) (fun c a w h=>absurd h (hQ c _ w)) hyf (H.2 j (ready_mono hj hji))
    have h3:=wpOpIn_own hro hoj h2
    refine wpOpIn_mono (fun a' w' h4=>?_) h3
    obtain ⟨⟨u,df,rfl⟩,_,hS',h5⟩:=h4
    have hy':YSg P ops S ⟨some d,o,ty,pos,after,g⟩ v (({ a with defers:=df }:Act).put oj.dst u):=by
     have e1:=wanted_put ⟨some d,o,ty,pos,after,g⟩ ({ a with defers:=df }:Act) oj.dst u p3
     rcases hy with ⟨hw,hy⟩ | ⟨hw,hv,hy⟩
     ·refine .inl ⟨by rw [e1];exact hw,fun w hw=>?_⟩
      rw [execOp_put _ (fun cs b=>hsel i _ cs b hi) ({ a with defers:=df }:Act) oj.dst u p3,about_put _ w ({ a with defers:=df }:Act) oj.dst u p3]
      exact hy w hw
     ·refine .inr ⟨by rw [e1];exact hw,hv,fun w hw=>?_⟩
      rw [about_put _ w ({ a with defers:=df }:Act) oj.dst u p3]
      exact hy w hw
    have hfree':∀ k ok,ops[k]? = some ok→k ≠ i→(listed.setIfInBounds j true).getD k true = false→(∀ e ∈ ok.after,Region.binds md e = true→e.on ≠ i)→Oper.apart ops ⟨some d,o,ty,pos,after,g⟩ ok = true:=fun k ok hk hki hun hno=>by
     refine hfree k ok hk hki ?_ hno
     by_cases hjk:j = k
     ·subst hjk;exact hjun
     ·rw [getD_set_ne true hjk] at hun;exact hun
    refine ⟨hS',ih (listed.setIfInBounds j true) _ w' hfree' (ready_mono hr (Ne.symm hji)) hy' hS' ?_⟩
    rw [Array.setIfInBounds_comm _ _ hji]
    exact h5
 intro fuel listed a w hf hr hy hS H
 exact gen fuel listed a w (Region.free_spec hi hf) (by simpa using hr) hy hS H
end
section
variable {P:Program} {E:Env P} {n:Sh} {X:Cx} {s:List K} {fr:Fr} {A:List Ch} {ops:Array Oper} {d j dj:Nat} {o:Op} {ty:TypeId} {pos:String} {after:Array Edge} {v:Value} {fuel:Nat} {listed:Array Bool} {S:World→Prop} {b b':Bool}
theorem tkg (i:Nat) (hv:∀ w,S w→OpV P n fr o ty w v w) (k:TS E n X s S ops fuel (listed.setIfInBounds i true) ((d,v) :: fr) A) (hi:ops[i]? = some ⟨some d,o,ty,pos,after,some (j,b)⟩:=by rfl) (hj:(ops[j]?).bind (·.dst) = some dj:=by rfl) (hg:get fr dj = some (.bool b):=by rfl) (hlt:Nat.blt dj n.n = true:=by rfl)
  (hs:Region.noSelect ops = true:=by kernel_rfl) (hf:Region.free .any ops listed i = true:=by kernel_rfl) (hr:(Region.ready .any ops listed).contains i = true:=by kernel_rfl) (hrd:n.r = none:=by rfl) (hd:Nat.blt d n.n = true:=by rfl)
  (hab:∀ w ρ,(⟨some d,o,ty,pos,after,some (j,b)⟩ : Oper).about P w ρ = none:=by exact fun _ _=>rfl):TS E n X s S ops (fuel + 1) listed fr A:=
 ⟨fun w hw hS a ha=>wpAnyS_takeG (by simp [FF,hrd]) hi hs (fun c a w h=>h.1 c rfl) fuel listed a w hf hr (.inl ⟨by simp only [Region.wanted,yielded_of ha hj hg hlt,beq_self_eq_true],fun w' hw'=>⟨(hv w' hw').run a ha _ _ _ _,hab _ _⟩⟩) hS (k.run w hw hS _ (ha.put hd v))⟩
theorem tkn (i:Nat) (k:TS E n X s S ops fuel (listed.setIfInBounds i true) ((d,undef) :: fr) A) (hi:ops[i]? = some ⟨some d,o,ty,pos,after,some (j,b')⟩:=by rfl) (hj:(ops[j]?).bind (·.dst) = some dj:=by rfl) (hg:get fr dj = some (.bool b):=by rfl) (hb:b = !b':=by rfl) (hlt:Nat.blt dj n.n = true:=by rfl)
  (hs:Region.noSelect ops = true:=by kernel_rfl) (hf:Region.free .any ops listed i = true:=by kernel_rfl) (hr:(Region.ready .any ops listed).contains i = true:=by kernel_rfl) (hrd:n.r = none:=by rfl) (hd:Nat.blt d n.n = true:=by rfl)
  (hab:∀ w ρ,(⟨some d,o,ty,pos,after,some (j,b')⟩ : Oper).about P w ρ = none:=by exact fun _ _=>rfl):TS E n X s S ops (fuel + 1) listed fr A:=
 ⟨fun w hw hS a ha=>wpAnyS_takeG (by simp [FF,hrd]) hi hs (fun c a w h=>h.1 c rfl) fuel listed a w hf hr (.inr ⟨by subst hb;simp only [Region.wanted,yielded_of ha hj hg hlt];cases b' <;> rfl,rfl,fun w' _=>hab _ _⟩) hS (k.run w hw hS _ (ha.put hd undef))⟩
theorem tkga (i:Nat) (k:TS E n X s S ops fuel (listed.setIfInBounds i true) ((d,v) :: fr) A) (hi:ops[i]? = some ⟨some d,o,ty,pos,after,some (j,b)⟩:=by rfl) (hv:evOp E fr o = some v:=by rfl) (hj:(ops[j]?).bind (·.dst) = some dj:=by rfl) (hg:get fr dj = some (.bool b):=by rfl) (hlt:Nat.blt dj n.n = true:=by rfl)
  (hs:Region.noSelect ops = true:=by kernel_rfl) (hf:Region.free .any ops listed i = true:=by kernel_rfl) (hr:(Region.ready .any ops listed).contains i = true:=by kernel_rfl) (hrd:n.r = none:=by rfl) (hd:Nat.blt d n.n = true:=by rfl)
  (hab:∀ w ρ,(⟨some d,o,ty,pos,after,some (j,b)⟩ : Oper).about P w ρ = none:=by exact fun _ _=>rfl):TS E n X s S ops (fuel + 1) listed fr A:=tkg i (fun _ _=>R_auto hv) k hi hj hg hlt hs hf hr hrd hd hab
theorem Holds.dup {a:Act} (ha:Holds n a fr) {t:Nat} {v:Value} (hg:get fr t = some v):Holds n a ((t,v) :: fr):=⟨ha.size,ha.defers,fun u x hx=>by
 simp only [get] at hx
 by_cases htu:t = u
 ·subst htu;simp at hx;subst hx;exact ha.slot _ _ hg
 ·have:(Nat.beq t u) = false:=nbeq_f htu
  simp only [this,cond_false] at hx
  exact ha.slot _ _ hx⟩
theorem TS.split {t:Nat} (h1:b = true→TS E n X s S ops fuel listed ((t,.bool true) :: fr) A) (h2:b = false→TS E n X s S ops fuel listed ((t,.bool false) :: fr) A) (hg:get fr t = some (.bool b)):TS E n X s S ops fuel listed fr A:=by
 cases b with
 | true=>exact ⟨fun w hw hS a ha=>(h1 rfl).run w hw hS a (ha.dup hg)⟩
 | false=>exact ⟨fun w hw hS a ha=>(h2 rfl).run w hw hS a (ha.dup hg)⟩
end
end Go.Art
namespace Go.Art
open Go Go.Proofs Go.RowKit
attribute [local irreducible] Fit pt own ro vw mpc lpt vels rels mow lrc dfr
attribute [local irreducible] lmp lme mit velg relg
theorem IIndexFunc_tr (s:Value) (l:List Int) (f:FuncId) (cap:List Value) (pre:List Ch) (p:Int→Bool)
  (hp:∀ c ∈ pre,∀ A:List Ch,c ∈ A→Has A c) (hf:∀ x,x ∈ l→Tr Tryz.prog f (I x :: cap) pre [] fun v D=>v = .bool (p x)∧D = []) :
  Tr Tryz.prog 288 [s,.func (.func f) #[] cap.toArray] (vw s (Is l) :: pre) [] fun v D=>(∃ i:Int,v = I i∧(0 ≤ i ↔ l.any p = true))∧D = []:=by
 refine Tr.enter env _ Tryz.func288 (by kernel_rfl) rfl Tryz.ntmps288 rfl (has01 fun c hc b=>⟨(hp c hc [c] (by simp)).wr b,(hp c hc [c] (by simp)).rd b⟩) fun w0=>?_
 refine TC.leni (l:=l) fun hlen=>?_
 repeat' first|(refine wo ?_;first|refine oa ?_|refine lnm ?_)|refine sq ?_|refine rg ?_|refine xc ?_|refine nl ?_|refine bk ?_
 refine TC.loop (ι:=Nat) (fun i=>[(8,I i)]) (fun _=>[]) (fun i=>i ≤ l.length∧∀ j,j < i→p (l.getD j 0) = false) (fun i=>l.length - i) 0 [0,1,6,7] ⟨by omega,by omega⟩ ?_
 rintro i ⟨h1,h2⟩
 by_cases hi:i < l.length
 ·have hmem:l.getD i 0 ∈ l:=mem_getD.2 ⟨i,hi,rfl⟩
  generalize hy:l.getD i 0 = y at *
  repeat' first|refine lie hy ?_|(refine cav (vs:=[I y]) (cap:=cap.toArray) (hf _ hmem) ?_ rfl rfl Fit.nil (fun c hc=>hp c hc _ (by simp [hc])) rfl;rintro _ _ ⟨rfl,rfl⟩)|(refine wo ?_;first|(refine ao ?_;first|refine aw ?_|refine oa ?_)|refine oa ?_|refine ixmn ?_)|(refine gc ?_;first|(refine ci (fun hB=>?_) (fun hB=>?_) <;> try (exfalso;omega))|(refine cb (fun hB=>?_) (fun hB=>?_) <;> try (exfalso;omega)))|refine sq ?_|refine rg ?_|refine xc ?_|refine nl ?_|refine sk ?_|refine bk ?_|refine rt ?_|refine xb ?_
  ·exact r1 ⟨⟨i,rfl,fun _=>List.any_eq_true.2 ⟨_,hmem,hB⟩,fun _=>by omega⟩,rfl⟩
  ·refine lp (i + 1) ⟨by omega,fun j hj=>?_⟩
   by_cases e:j = i
   ·rw [e,hy];exact hB
   ·exact h2 j (by omega)
 ·repeat' first|(refine wo ?_;first|(refine ao ?_;first|refine oa ?_)|refine oa ?_)|(refine gc ?_;first|(refine ci (fun hB=>?_) (fun hB=>?_) <;> try (exfalso;omega)))|refine sq ?_|refine rg ?_|refine xc ?_|refine nl ?_|refine xe ?_|refine rt ?_
  refine r1 ⟨⟨-1,rfl,by omega,fun h=>?_⟩,rfl⟩
  obtain ⟨x,hl1,hl2⟩:=List.any_eq_true.1 h
  obtain ⟨j,hj,rfl⟩:=mem_getD.1 hl1
  have:=h2 j (by omega)
  rw [hl2] at this;cases this
theorem IContainsFunc_tr (s:Value) (l:List Int) (f:FuncId) (cap:List Value) (pre:List Ch) (p:Int→Bool)
  (hp:∀ c ∈ pre,∀ A:List Ch,c ∈ A→Has A c) (hf:∀ x,x ∈ l→Tr Tryz.prog f (I x :: cap) pre [] fun v D=>v = .bool (p x)∧D = []) :
  Tr Tryz.prog 243 [s,.func (.func f) #[] cap.toArray] (vw s (Is l) :: pre) [] fun v D=>v = .bool (l.any p)∧D = []:=by
 refine Tr.enter env _ Tryz.func243 (by kernel_rfl) rfl Tryz.ntmps243 rfl (has01 fun c hc b=>⟨(hp c hc [c] (by simp)).wr b,(hp c hc [c] (by simp)).rd b⟩) fun w0=>?_
 repeat' first|(refine gca ?_;first|(refine ca (vs:=[s,.func (.func f) #[] cap.toArray]) (IIndexFunc_tr s l f cap pre p hp hf) ?_ rfl Fit.nil (has1 (has_vw (by simp)) (fun c hc=>hp c hc _ (by simp [hc]))) rfl;rintro _ _ ⟨⟨i,rfl,hi⟩,rfl⟩))|(refine wo ?_;first|(refine ao ?_;first|refine oa ?_)|refine oa ?_)|refine sq ?_|refine rg ?_|refine xc ?_|refine nl ?_|refine rt ?_
 refine r1 ⟨?_,rfl⟩
 congr 1;rw [Bool.eq_iff_iff,decide_eq_true_iff];exact hi
abbrev TAl:TypeId:=116
def farB (m x:Int):Bool:=decide (x < 0∨m < x)
def alE (tot:Int) (cut oth:List Int):Int:=if tot < 1∨1099511627776 < tot∨cut.length < 1∨65536 < cut.length∨oth.length ≠ cut.length then 6 else if cut.any (farB tot) || oth.any (farB (cut.length - 1)) then 6 else 0
theorem far1_tr (m x:Int) (b:Nat):Tr Tryz.prog 242 [I x,ptr b] [lpt b [I m] 3] [] fun v D=>v = .bool (farB m x)∧D = []:=by
 refine Tr.enter env _ Tryz.func242 (by kernel_rfl) rfl Tryz.ntmps242 rfl (by repeat (first | exact has00 | refine has01 ?_)) fun w0=>?_
 repeat' first|(refine wo ?_;first|(refine ao ?_;first|refine oa ?_)|refine oa ?_|refine ldl ?_|refine gy ?_|refine gn ?_|(refine gsi (fun hB=>?_) (fun hB=>?_) <;> try (exfalso;omega)))|refine sq ?_|refine rg ?_|refine xc ?_|refine nl ?_|refine rt ?_
 all_goals refine r1 ⟨?_,rfl⟩
 all_goals unfold farB
 all_goals first
  | rw [decide_eq_true (show x < 0∨m < x by omega)]
  | (congr 1;exact decide_eq_decide.2 ⟨fun h=>by omega,fun h=>by omega⟩)
theorem far_tr (m:Int):Tr Tryz.prog 241 [I m] [] [] fun v D=>∃ b,v = .func (.func 242) #[] #[ptr b]∧D = [pt b [I m] 3]:=by
 refine Tr.enter env _ Tryz.func241 (by kernel_rfl) rfl Tryz.ntmps241 rfl (by repeat (first | exact has00 | refine has01 ?_)) fun w0=>?_
 repeat' first|refine bx1 fun b=>?_|(refine wo ?_;first|refine oa ?_)|refine sq ?_|refine rg ?_|refine xc ?_|refine nl ?_|refine rt ?_
 exact r1 ⟨b,rfl,rfl⟩
theorem AlCheck_tr (tot:Int) (cv ov:Value) (cut oth:List Int) (hc:cv.oneCell' = true) (ho:ov.oneCell' = true):Tr Tryz.prog 200 [.agg #[I tot,cv,ov]] [vw cv (Is cut),vw ov (Is oth)] [] fun v D=>v = I (alE tot cut oth)∧D = []:=by
 refine Tr.enter env _ Tryz.func200 (by kernel_rfl) rfl Tryz.ntmps200 rfl (by repeat (first | exact has00 | refine has01 ?_)) fun w0=>?_
 refine TC.leni (l:=cut) fun hl1=>?_
 refine TC.leni (l:=oth) fun hl2=>?_
 repeat' first|refine bx fun b=>?_|(refine wo ?_;first|(refine ao ?_;first|refine oa ?_)|refine oa ?_|refine ld ?_|refine lnm ?_|refine gy ?_|refine gn ?_|(refine gsi (fun hB=>?_) (fun hB=>?_) <;> try (exfalso;omega)))|(refine gc ?_;first|refine ct ?_|(refine cn (fun hB=>?_) (fun hB=>?_) <;> try (exfalso;omega)))|refine sq ?_|refine rg ?_|refine xc ?_|refine nl ?_|refine sk ?_|refine rt ?_
 ·exact r1 ⟨by rw [alE,if_pos (by omega)],rfl⟩
 ·exact r1 ⟨by rw [alE,if_pos (by omega)],rfl⟩
 ·exact r1 ⟨by rw [alE,if_pos (by omega)],rfl⟩
 ·exact r1 ⟨by rw [alE,if_pos (by omega)],rfl⟩
 ·exact r1 ⟨by rw [alE,if_pos (by omega)],rfl⟩
 rw [show alE tot cut oth = if cut.any (farB tot) || oth.any (farB (cut.length - 1)) then 6 else 0 by rw [alE,if_neg (by omega)]]
 have hcl:cut.length ≤ 65536:=by omega
 refine rs (fun w=>w.heap[b]? = some (.cells #[I tot,cv,ov] TAl (0,0))) ?_ (fun w hw=>pt_at memA hw)
 refine tka 0 ?_
 refine tkl 1 (cs:=[I tot,cv,ov]) (fun w h=>h) ?_
 refine tka 2 ?_
 refine tka 3 ?_
 refine tkl 4 (cs:=[I tot,cv,ov]) (fun w h=>h) ?_
 refine t1 5 ?_
 refine cav (vs:=[I tot]) (cap:=#[]) (far_tr tot) ?_
 rintro _ _ ⟨b1,rfl,rfl⟩
 repeat' first|refine nl ?_
 refine te (fun w hw=>pt_at memA hw) ?_
 refine t1 6 ?_
 refine ca (IContainsFunc_tr cv cut _ [ptr b1] [lpt b1 [I tot] 3] (farB tot) lpt_has (fun x _=>far1_tr tot x b1)) ?_
 rintro _ _ ⟨rfl,rfl⟩
 repeat' first|refine nl ?_
 refine te (fun w hw=>pt_at memA hw) ?_
 refine tka 7 ?_
 refine TS.split (t:=38) (fun h1=>?_) (fun h1=>?_) rfl
 ·rw [h1]
  refine tkn 8 ?_
  refine tkn 9 ?_
  refine tkn 10 ?_
  refine tkn 11 ?_
  refine tkn 12 ?_
  refine t1 13 ?_
  repeat' first|(refine wo ?_;first|refine gn ?_)|refine nl ?_
  refine te (fun w hw=>pt_at memA hw) ?_
  refine t1 14 ?_
  repeat' first|(refine wo ?_;first|refine gn ?_)|refine nl ?_
  refine te (fun w hw=>pt_at memA hw) ?_
  refine tka 15 ?_
  refine t0 ?_
  repeat' first|(refine wo ?_;first|refine oa ?_)|(refine gc ?_;first|refine ct ?_)|refine sq ?_|refine rg ?_|refine xc ?_|refine nl ?_|refine rt ?_
  exact r1 ⟨rfl,rfl⟩
 ·rw [h1]
  refine tkga 8 ?_
  refine tkg 9 (v:=ov) (fun w h=>R_load (E:=env) rfl rfl rfl (blk_cell h rfl)) ?_
  refine tkga 10 ?_
  refine tkga 11 ?_
  refine tkg 12 (v:=I ((cut.length:Int) - 1)) (fun w h=>R_wrap (R_auto (E:=env) rfl) (by omega)) ?_
  refine t1 13 ?_
  refine gy ?_
  refine cav (vs:=[I ((cut.length:Int) - 1)]) (cap:=#[]) (far_tr _) ?_
  rintro _ _ ⟨b2,rfl,rfl⟩
  repeat' first|refine nl ?_
  refine te (fun w hw=>pt_at memA hw) ?_
  refine t1 14 ?_
  refine gy ?_
  refine ca (IContainsFunc_tr ov oth _ [ptr b2] [lpt b2 [I ((cut.length:Int) - 1)] 3] (farB (cut.length - 1)) lpt_has (fun x _=>far1_tr _ x b2)) ?_
  rintro _ _ ⟨rfl,rfl⟩
  repeat' first|refine nl ?_
  refine te (fun w hw=>pt_at memA hw) ?_
  refine tka 15 ?_
  refine t0 ?_
  repeat' first|(refine wo ?_;first|refine oa ?_)|(refine gc ?_;first|(refine cb (fun hB=>?_) (fun hB=>?_) <;> try (exfalso;omega)))|refine sq ?_|refine rg ?_|refine xc ?_|refine nl ?_|refine sk ?_|refine rt ?_
  ·exact r1 ⟨by rw [hB];first | done | rfl,rfl⟩
  ·exact r1 ⟨by rw [hB];first | done | rfl,rfl⟩
def alPick (tot:Int) (cut oth:List Int) (c l:Int):Int:=if l < cut.getD c.toNat 0 then c else oth.getD c.toNat 0
theorem AlPick_tr (tot c l:Int) (cv ov:Value) (cut oth:List Int) (hc:cv.oneCell' = true) (ho:ov.oneCell' = true) (hE:alE tot cut oth = 0) (h1:0 ≤ c∧c < cut.length) (h2:0 ≤ l∧l < tot) :
  Tr Tryz.prog 202 [.agg #[I tot,cv,ov],I c,I l] [vw cv (Is cut),vw ov (Is oth)] [] fun v D=>v = tup2 (I (alPick tot cut oth c l)) (I 0)∧D = []:=by
 have hol:oth.length = cut.length:=by
  unfold alE at hE
  split at hE
  ·cases hE
  ·omega
 refine Tr.enter env _ Tryz.func202 (by kernel_rfl) rfl Tryz.ntmps202 rfl (by repeat (first | exact has00 | refine has01 ?_)) fun w0=>?_
 repeat' first|(refine gca ?_;first|(refine ca (AlCheck_tr tot cv ov cut oth hc ho) ?_;rintro _ _ ⟨rfl,rfl⟩;rw [hE]))|refine bx fun b=>?_|refine lda ?_|(refine wo ?_;first|(refine ao ?_;first|refine oa ?_)|refine oa ?_|refine ld ?_|refine lnm ?_|refine ixm ?_|refine li ?_|refine gy ?_|(refine gsi (fun hB=>?_) (fun hB=>?_) <;> try (exfalso;omega)))|(refine gc ?_;first|refine cf ?_|(refine ci (fun hB=>?_) (fun hB=>?_) <;> try (exfalso;omega)))|refine sq ?_|refine rg ?_|refine xc ?_|refine nl ?_|refine sk ?_|refine bk ?_|refine rt ?_|refine xb ?_
 ·refine r2 ⟨?_,rfl⟩
  unfold alPick;rw [if_pos hB]
 ·refine r2 ⟨?_,rfl⟩
  unfold alPick;rw [if_neg hB]
end Go.Art
namespace Go.Art
open Go Go.Proofs Go.RowKit
def rwE (tot:Int) (cut oth:List Int) (k:Int):Int:=if alE tot cut oth = 0 then (if k < 1∨65536 < k∨k < cut.length then 3 else 0) else 6
theorem alE_or (tot:Int) (cut oth:List Int):alE tot cut oth = 0∨alE tot cut oth = 6:=by
 unfold alE
 split
 ·exact .inr rfl
 ·split
  ·exact .inr rfl
  ·exact .inl rfl
theorem alE_bnd {tot:Int} {cut oth:List Int} (hE:alE tot cut oth = 0):(1 ≤ tot∧tot ≤ 1099511627776)∧1 ≤ cut.length∧cut.length ≤ 65536:=by
 unfold alE at hE
 split at hE
 ·cases hE
 ·omega
theorem rwE_ok {tot:Int} {cut oth:List Int} {k:Int} (h:rwE tot cut oth k = 0):alE tot cut oth = 0∧1 ≤ k∧k ≤ 65536∧cut.length ≤ k:=by
 unfold rwE at h
 split at h
 ·rename_i h1
  split at h
  ·cases h
  ·exact ⟨h1,by omega,by omega,by omega⟩
 ·cases h
theorem alPick_in {tot:Int} {cut oth:List Int} (hE:alE tot cut oth = 0) {c l:Int} (h1:0 ≤ c∧c < cut.length):0 ≤ alPick tot cut oth c l∧alPick tot cut oth c l < cut.length:=by
 unfold alE at hE
 split at hE
 ·cases hE
 ·split at hE
  ·cases hE
  ·rename_i h3 h2
   unfold alPick
   split
   ·omega
   ·have hm:oth.getD c.toNat 0 ∈ oth:=mem_getD.2 ⟨_,by omega,rfl⟩
    refine Classical.byContradiction fun hn=>h2 ?_
    rw [Bool.or_eq_true]
    refine .inr (List.any_eq_true.2 ⟨_,hm,decide_eq_true ?_⟩)
    omega
def plcW (tot:Int) (cut oth:List Int) (x:Lw):(Int × Int) × (Lw × Int):=
 if (drw cut.length x).1.2 = 0 then
  (if (drw tot (drw cut.length x).2).1.2 = 0 then ((alPick tot cut oth (drw cut.length x).1.1 (drw tot (drw cut.length x).2).1.1,0),((drw tot (drw cut.length x).2).2,2))
   else ((0,(drw tot (drw cut.length x).2).1.2),((drw tot (drw cut.length x).2).2,1)))
 else ((0,(drw cut.length x).1.2),((drw cut.length x).2,0))
theorem plcW_in {tot:Int} {cut oth:List Int} {x:Lw} (hE:alE tot cut oth = 0) (h:(plcW tot cut oth x).1.2 = 0):0 ≤ (plcW tot cut oth x).1.1∧(plcW tot cut oth x).1.1 < cut.length:=by
 unfold plcW at h ⊢
 split
 ·rename_i h1
  rw [if_pos h1] at h
  split
  ·exact alPick_in hE (drw_rng h1)
  ·rename_i h2;rw [if_neg h2] at h;exact absurd h h2
 ·rename_i h1;rw [if_neg h1] at h;exact absurd h h1
theorem plcW_u (tot:Int) (cut oth:List Int) (x:Lw):0 ≤ (plcW tot cut oth x).2.2∧(plcW tot cut oth x).2.2 ≤ 2:=by
 unfold plcW
 split
 ·split
  ·dsimp only;omega
  ·dsimp only;omega
 ·dsimp only;omega
theorem okL_plc (tot:Int) (cut oth:List Int) {x:Lw} (h:okL x):okL (plcW tot cut oth x).2.1:=by
 unfold plcW
 split
 ·split
  ·exact okL_drw _ (okL_drw _ h)
  ·exact okL_drw _ (okL_drw _ h)
 ·exact okL_drw _ h
def setW (tot:Int) (cut oth:List Int) (k:Int) (x:Lw):(List Int × Int) × (Lw × Int):=
 if rwE tot cut oth k = 0 then
  (if (plcW tot cut oth x).1.2 = 0 then (pickO k ((plcW tot cut oth x).1.1 + 1) (plcW tot cut oth x).2.1,((ordO k ((plcW tot cut oth x).1.1 + 1) (plcW tot cut oth x).2.1).2.1,(plcW tot cut oth x).2.2 + (ordO k ((plcW tot cut oth x).1.1 + 1) (plcW tot cut oth x).2.1).2.2))
   else (([],(plcW tot cut oth x).1.2),(plcW tot cut oth x).2))
 else (([],rwE tot cut oth k),(x,0))
attribute [local irreducible] Fit pt own ro vw mpc lpt vels rels mow lrc dfr
attribute [local irreducible] lmp lme mit velg relg
theorem RwE_tr (tot k:Int) (cv ov:Value) (cut oth:List Int) (hc:cv.oneCell' = true) (ho:ov.oneCell' = true):Tr Tryz.prog 147 [.agg #[I tot,cv,ov],I k] [vw cv (Is cut),vw ov (Is oth)] []
  fun v D=>v = I (rwE tot cut oth k)∧D = []:=by
 have hA:=AlCheck_tr tot cv ov cut oth hc ho
 unfold rwE
 rcases alE_or tot cut oth with hE | hE
 ·rw [hE] at hA
  rw [if_pos hE]
  refine Tr.enter env _ Tryz.func147 (by kernel_rfl) rfl Tryz.ntmps147 rfl (by repeat (first | exact has00 | refine has01 ?_)) fun w0=>?_
  repeat' first|(refine gca ?_;first|(refine ca hA ?_;rintro _ _ ⟨rfl,rfl⟩))|refine bx fun b=>?_|refine lda ?_|(refine wo ?_;first|(refine ao ?_;first|refine oa ?_)|refine oa ?_|refine ld ?_|refine lnm ?_|refine gy ?_|refine gn ?_|(refine gsi (fun hB=>?_) (fun hB=>?_) <;> try (exfalso;omega)))|(refine gc ?_;first|refine ct ?_|refine cf ?_|(refine ci (fun hB=>?_) (fun hB=>?_) <;> try (exfalso;omega)))|refine sq ?_|refine rg ?_|refine xc ?_|refine nl ?_|refine sk ?_|refine bk ?_|refine rt ?_|refine xb ?_
  ·exact r1 ⟨by rw [if_pos (by omega)],rfl⟩
  ·exact r1 ⟨by rw [if_pos (by omega)],rfl⟩
  ·exact r1 ⟨by rw [if_pos (by omega)],rfl⟩
  ·exact r1 ⟨by rw [if_neg (by omega)],rfl⟩
 ·rw [hE] at hA
  rw [if_neg (by omega)]
  refine Tr.enter env _ Tryz.func147 (by kernel_rfl) rfl Tryz.ntmps147 rfl (by repeat (first | exact has00 | refine has01 ?_)) fun w0=>?_
  repeat' first|(refine gca ?_;first|(refine ca hA ?_;rintro _ _ ⟨rfl,rfl⟩))|refine bx fun b=>?_|refine lda ?_|(refine wo ?_;first|(refine ao ?_;first|refine oa ?_)|refine oa ?_)|(refine gc ?_;first|refine ct ?_)|refine sq ?_|refine rg ?_|refine xc ?_|refine nl ?_|refine bk ?_|refine rt ?_
  exact r1 ⟨rfl,rfl⟩
theorem placeW_tr (tot:Int) (cv ov:Value) (cut oth:List Int) (b r:Nat) (sv:Value) (x:Lw) (used:Int) (hx:okL x) (hu:0 ≤ used∧used ≤ 1000) (hc:cv.oneCell' = true) (ho:ov.oneCell' = true) (hE:alE tot cut oth = 0) :
  Tr Tryz.prog 149 [.agg #[I tot,cv,ov],ptr b] [vw cv (Is cut),vw ov (Is oth)] [lot b r sv x used] fun v D=>v = tup2 (I (plcW tot cut oth x).1.1) (I (plcW tot cut oth x).1.2)∧∃ sv',D = [lot b r sv' (plcW tot cut oth x).2.1 (used + (plcW tot cut oth x).2.2)]:=by
 have hb:=alE_bnd hE
 have h1:=DrawL_tr b r sv x used cut.length hx (by omega)
 unfold plcW
 by_cases he1:(drw cut.length x).1.2 = 0
 ·rw [if_pos he1]
  rw [show dru cut.length x = 1 from if_pos he1,he1] at h1
  have l1:=drw_rng he1
  have hx1:=okL_drw cut.length hx
  clear he1
  generalize (drw cut.length x).1.1 = c at *
  generalize (drw cut.length x).2 = x1 at *
  have h2:=fun sv1=>DrawL_tr b r sv1 x1 (used + 1) tot hx1 (by omega)
  by_cases he2:(drw tot x1).1.2 = 0
  ·rw [if_pos he2]
   rw [show dru tot x1 = 1 from if_pos he2,he2] at h2
   have l2:=drw_rng he2
   clear he2
   generalize (drw tot x1).1.1 = l at *
   generalize (drw tot x1).2 = x2 at *
   rw [show used + 1 + 1 = used + 2 by omega] at h2
   refine Tr.enter env _ Tryz.func149 (by kernel_rfl) rfl Tryz.ntmps149 rfl (by repeat (first | exact has00 | refine has01 ?_)) fun w0=>?_
   repeat' first|(refine gca ?_;first|(refine ca h1 ?_;rintro _ _ ⟨rfl,sv1,rfl⟩)|(refine ca (h2 sv1) ?_;rintro _ _ ⟨rfl,sv2,rfl⟩)|(refine ca (AlPick_tr tot c l cv ov cut oth hc ho hE (by omega) (by omega)) ?_;rintro _ _ ⟨rfl,rfl⟩))|refine bx fun b=>?_|refine lda ?_|(refine wo ?_;first|(refine ao ?_;first|refine oa ?_)|refine oa ?_|refine ld ?_|refine lnm ?_)|(refine gc ?_;first|refine cf ?_)|refine sq ?_|refine rg ?_|refine xc ?_|refine nl ?_|refine sk ?_|refine rt ?_
   exact r2 ⟨rfl,sv2,rfl⟩
  ·rw [if_neg he2]
   rw [show dru tot x1 = 0 from if_neg he2,Int.add_zero] at h2
   generalize (drw tot x1).1.1 = n2 at *
   generalize (drw tot x1).1.2 = e2 at *
   generalize (drw tot x1).2 = x2 at *
   refine Tr.enter env _ Tryz.func149 (by kernel_rfl) rfl Tryz.ntmps149 rfl (by repeat (first | exact has00 | refine has01 ?_)) fun w0=>?_
   repeat' first|(refine gca ?_;first|(refine ca h1 ?_;rintro _ _ ⟨rfl,sv1,rfl⟩)|(refine ca (h2 sv1) ?_;rintro _ _ ⟨rfl,sv2,rfl⟩))|refine bx fun b=>?_|refine lda ?_|(refine wo ?_;first|(refine ao ?_;first|refine oa ?_)|refine oa ?_|refine ld ?_|refine lnm ?_)|(refine gc ?_;first|refine cf ?_|(refine cn (fun hB=>?_) (fun hB=>?_) <;> try (exfalso;omega)))|refine sq ?_|refine rg ?_|refine xc ?_|refine nl ?_|refine sk ?_|refine rt ?_
   exact r2 ⟨rfl,sv2,rfl⟩
 ·rw [if_neg he1]
  rw [show dru cut.length x = 0 from if_neg he1,Int.add_zero] at h1
  rw [Int.add_zero]
  generalize (drw cut.length x).1.1 = n2 at *
  generalize (drw cut.length x).1.2 = e2 at *
  generalize (drw cut.length x).2 = x2 at *
  refine Tr.enter env _ Tryz.func149 (by kernel_rfl) rfl Tryz.ntmps149 rfl (by repeat (first | exact has00 | refine has01 ?_)) fun w0=>?_
  repeat' first|(refine gca ?_;first|(refine ca h1 ?_;rintro _ _ ⟨rfl,sv1,rfl⟩))|refine bx fun b=>?_|refine lda ?_|(refine wo ?_;first|(refine ao ?_;first|refine oa ?_)|refine oa ?_|refine ld ?_|refine lnm ?_)|(refine gc ?_;first|(refine cn (fun hB=>?_) (fun hB=>?_) <;> try (exfalso;omega)))|refine sq ?_|refine rg ?_|refine xc ?_|refine nl ?_|refine rt ?_
  exact r2 ⟨rfl,sv1,rfl⟩
theorem SetW_tr (tot k:Int) (cv ov:Value) (cut oth:List Int) (b r:Nat) (sv:Value) (x:Lw) (hx:okL x) (hc:cv.oneCell' = true) (ho:ov.oneCell' = true) :
  Tr Tryz.prog 86 [.agg #[I tot,cv,ov],I k,ptr b] [vw cv (Is cut),vw ov (Is oth)] [lot b r sv x 0] fun v D=>∃ o sv',v = tup2 o (I (setW tot cut oth k x).1.2)∧D = [own TLI o (Is (setW tot cut oth k x).1.1),lot b r sv' (setW tot cut oth k x).2.1 (setW tot cut oth k x).2.2]:=by
 have hck:=RwE_tr tot k cv ov cut oth hc ho
 unfold setW
 by_cases hk:rwE tot cut oth k = 0
 rotate_left
 ·rw [if_neg hk]
  generalize rwE tot cut oth k = e at *
  refine Tr.enter env _ Tryz.func86 (by kernel_rfl) rfl Tryz.ntmps86 rfl (by repeat (first | exact has00 | refine has01 ?_)) fun w0=>?_
  repeat' first|(refine gca ?_;first|(refine ca hck ?_;rintro _ _ ⟨rfl,rfl⟩))|refine bx fun b=>?_|refine lda ?_|(refine wo ?_;first|(refine ao ?_;first|refine oa ?_)|refine oa ?_)|(refine gc ?_;first|(refine cn (fun hB=>?_) (fun hB=>?_) <;> try (exfalso;omega)))|refine sq ?_|refine rg ?_|refine xc ?_|refine nl ?_|refine rt ?_
  refine TX.im (own_nil TLI _) ?_
  exact r2 ⟨nS,sv,rfl,rfl⟩
 rw [hk] at hck
 rw [if_pos hk]
 obtain ⟨hE,k1,k2,k3⟩:=rwE_ok hk
 clear hk
 have h1:=placeW_tr tot cv ov cut oth b r sv x 0 hx (by omega) hc ho hE
 have hpu:=plcW_u tot cut oth x
 have hpx:=okL_plc tot cut oth hx
 rw [Int.zero_add] at h1
 by_cases hp:(plcW tot cut oth x).1.2 = 0
 ·have hat:=plcW_in hE hp
  rw [if_pos hp]
  rw [hp] at h1
  generalize (plcW tot cut oth x).1.1 = at1 at *
  generalize (plcW tot cut oth x).2.1 = x2 at *
  generalize (plcW tot cut oth x).2.2 = u2 at *
  have h2:=fun sv1=>PickL_tr b r sv1 x2 u2 k (at1 + 1) hpx (by omega)
  generalize pickO k (at1 + 1) x2 = pk at *
  generalize ordO k (at1 + 1) x2 = oo at *
  refine Tr.enter env _ Tryz.func86 (by kernel_rfl) rfl Tryz.ntmps86 rfl (by repeat (first | exact has00 | refine has01 ?_)) fun w0=>?_
  repeat' first|(refine gca ?_;first|(refine ca hck ?_;rintro _ _ ⟨rfl,rfl⟩)|(refine ca h1 ?_;rintro _ _ ⟨rfl,sv1,rfl⟩)|(refine ca (h2 sv1) ?_;rintro _ _ ⟨o,sv2,rfl,rfl⟩))|refine bx fun b=>?_|refine lda ?_|(refine wo ?_;first|(refine ao ?_;first|refine aw ?_|refine oa ?_)|refine oa ?_)|(refine gc ?_;first|refine cf ?_)|refine sq ?_|refine rg ?_|refine xc ?_|refine nl ?_|refine sk ?_|refine rt ?_
  exact r2 ⟨o,sv2,rfl,rfl⟩
 ·rw [if_neg hp]
  generalize plcW tot cut oth x = pl at *
  refine Tr.enter env _ Tryz.func86 (by kernel_rfl) rfl Tryz.ntmps86 rfl (by repeat (first | exact has00 | refine has01 ?_)) fun w0=>?_
  repeat' first|(refine gca ?_;first|(refine ca hck ?_;rintro _ _ ⟨rfl,rfl⟩)|(refine ca h1 ?_;rintro _ _ ⟨rfl,sv1,rfl⟩))|refine bx fun b=>?_|refine lda ?_|(refine wo ?_;first|(refine ao ?_;first|refine oa ?_)|refine oa ?_)|(refine gc ?_;first|refine cf ?_|(refine cn (fun hB=>?_) (fun hB=>?_) <;> try (exfalso;omega)))|refine sq ?_|refine rg ?_|refine xc ?_|refine nl ?_|refine sk ?_|refine rt ?_
  refine TX.im (own_nil TLI _) ?_
  exact r2 ⟨nS,sv1,rfl,rfl⟩
end Go.Art
namespace Go.Art
open Go Go.Proofs Go.RowKit
section
variable {P:Program} {E:Env P} {n:Sh} {X:Cx} {s:List K} {fr:Fr} {A:List Ch} {ops:Array Oper} {fuel:Nat} {listed:Array Bool} {S:World→Prop} {a b:Code}
theorem sq_cutX {ι:Type} (p:ι→Prop) (fr':ι→Fr) (B:ι→List Ch) (hb:∀ i,p i→TC E n X s b (fr' i) (B i)) (ha:(∀ i,p i→∀ fr2 A2,Sub (fr' i) fr2→∀ {G},Fit A2 (B i) G→TC E n X s b fr2 A2)→TC E n X (.code b :: s) a fr A):TC E n X s (.seq a b) fr A:=
 sq (ha fun i hp fr2 A2 hs _ hf=>⟨fun w hw=>SC_sub (fr' i) hs ((hb i hp).run w ((hw.im hf).im (Im.drop _ _)))⟩)
theorem t3 (i j k:Nat) {oi oj ok:Oper} (h1:TO E n ⟨RQ P ops n.r (NP P n.r X.Q s) S fuel (listed.setIfInBounds i true),X.w0,X.A0⟩ [] ops [oi] fr A) (h2:TO E n ⟨RQ P ops n.r (NP P n.r X.Q s) S fuel (listed.setIfInBounds j true),X.w0,X.A0⟩ [] ops [oj] fr A)
  (h3:TO E n ⟨RQ P ops n.r (NP P n.r X.Q s) S fuel (listed.setIfInBounds k true),X.w0,X.A0⟩ [] ops [ok] fr A) (hi:ops[i]? = some oi:=by rfl) (hj:ops[j]? = some oj:=by rfl) (hk:ops[k]? = some ok:=by rfl)
  (hr:Region.ready .any ops listed = [i,j,k]:=by kernel_rfl):TS E n X s S ops (fuel + 1) listed fr A:=
 tn [i,j,k] hr (by simp) fun m hm=>by
  simp only [List.mem_cons,List.not_mem_nil,or_false] at hm
  rcases hm with rfl | rfl | rfl
  ·exact ⟨oi,hi,h1⟩
  ·exact ⟨oj,hj,h2⟩
  ·exact ⟨ok,hk,h3⟩
theorem tkw (i:Nat) (c:Int) {m:Int} {d:Nat} {o:Op} {ty:TypeId} {pos:String} {after:Array Edge} (k:TS E n X s S ops fuel (listed.setIfInBounds i true) ((d,I c) :: fr) A) (hi:ops[i]? = some ⟨some d,o,ty,pos,after,none⟩:=by rfl) (hv:evOp E fr o = some (.int .i64 (IntKind.i64.wrap m)):=by rfl) (he:m = c:=by first | rfl | assumption | omega) (hb : -9223372036854775808 ≤ c∧c ≤ 9223372036854775807:=by omega) (hs:Region.noSelect ops = true:=by kernel_rfl) (hf:Region.free .any ops listed i = true:=by kernel_rfl)
  (hr:(Region.ready .any ops listed).contains i = true:=by kernel_rfl) (hrd:n.r = none:=by rfl) (hd:Nat.blt d n.n = true:=by rfl) (hab:∀ w ρ,(⟨some d,o,ty,pos,after,none⟩ : Oper).about P w ρ = none:=by exact fun _ _=>rfl):TS E n X s S ops (fuel + 1) listed fr A:=
 tk i (fun _ _=>by subst he;exact R_wrap (R_auto hv) hb) k hi hs hf hr hrd hd hab
theorem res_at {fn:Func} {w:World} {a:Act} (ha:Holds n a fr) {t u:Nat} {ty T:TypeId} {dt:TypeDesc} {z:Value} {sz by_ b:Nat} {cs vs:List Value} {v2:Value} (hr:fn.results = #[.cell t ty,.tmp u]) (ht:lk E.und ty = some dt) (hg:aggB dt = true) (hi:lk E.inf ty = some (z,sz,by_)) (h1:get fr t = some (ptr b))
  (hb:w.heap[b]? = some (.cells cs.toArray T (0,0))) (hv:cs.take sz = vs) (hl:vs.length = sz) (h2:get fr u = some v2):(results fn a.tmps).run P w = .ok (.tuple #[.agg vs.toArray,v2]) w:=by
 obtain ⟨inf,g1,_,g2,_⟩:=E.info hi
 have h3:=run_loadCells_list (P:=P) w ⟨b,0,none⟩ vs (fun m u hm=>by
  rw [Addr.add_lit]
  refine blk_cell hb ?_
  rw [← hv,List.getElem?_take] at hm
  split at hm
  ·simpa using hm
  ·cases hm)
 rw [hl] at h3
 have e1:a.tmps[t]?.getD undef = ptr b:=by have:=ha.slot t _ h1;simpa using this
 have e2:a.tmps[u]?.getD undef = v2:=by have:=ha.slot u _ h2;simpa using this
 simp only [results,hr]
 simp [e1,e2,asAddr,loadVar,aggB_t (w:=w) ht hg,sizeOf,typeInfo,g1,g2,h3]
theorem rca {w0:World} {A0 D G:List Ch} {R':Value→List Ch→Prop} {fn:Func} {t u nn:Nat} {ty T:TypeId} {dt:TypeDesc} {z:Value} {sz by_ b:Nat} {cs vs:List Value} {v2:Value} (h:R' (.tuple #[.agg vs.toArray,v2]) D) (hr:fn.results = #[.cell t ty,.tmp u]:=by rfl) (ht:lk E.und ty = some dt:=by rfl) (hg:aggB dt = true:=by rfl) (hi:lk E.inf ty = some (z,sz,by_):=by rfl)
  (hv:get fr t = some (ptr b):=by rfl) (hv2:get fr u = some v2:=by rfl) (hm:pt b cs T ∈ A:=by exact memA) (hcs:cs.take sz = vs:=by rfl) (hl:vs.length = sz:=by rfl) (hf:Fit A D G:=by exact fitA) (nb:∀ c ∈ D,∀ b,¬ c.bd b:=by (repeat (first | exact nb0 | refine nb1 ?_));first | done | fail) :
  TX E ⟨nn,[],none⟩ ⟨bodyPost P fn (RetP (PR w0 A0 R')),w0,A0⟩ [] .ret fr A:=⟨fun w hw=>⟨fun a ha=>
 bodyPost_ret (res_at (E:=E) ha hr ht hg hi hv (hw.mem hm) hcs hl hv2) (ha.defers.trans rfl) ⟨_,rfl,PR.mk h hw hf nb⟩⟩⟩
end
section
variable {P:Program} {E:Env P} {n:Sh} {X:Cx} {s:List K} {fr:Fr} {A:List Ch} {a b:Code}
theorem cutY {ι:Type} (p:ι→Prop) (fr':ι→Fr) (B:ι→List Ch) (hb:∀ i,p i→TC E n X s b (fr' i) (B i)) (ha:∀ b':Code,(∀ i,p i→∀ fr2 A2,Sub (fr' i) fr2→∀ {G},Fit A2 (B i) G→TC E n X s b' fr2 A2)→TC E n X (.code b' :: s) a fr A):TC E n X (.code b :: s) a fr A:=
 ha b fun i hp fr2 A2 hs _ hf=>⟨fun w hw=>SC_sub (fr' i) hs ((hb i hp).run w ((hw.im hf).im (Im.drop _ _)))⟩
end
end Go.Art
namespace Go.Art
open Go Go.Proofs Go.RowKit
theorem Ty.bnd {P:Program} {l:Nat} {vs:List Value} {pre C:List Ch} {R:Bool→List Ch→Prop} (h:Ty P l vs pre C fun b D=>R b [bnd D]):Ty P l vs pre [bnd C] R:=by
 refine ⟨fun w hw=>?_,h.lent⟩
 have e:∀ {w:World} {D:List Ch},Sat [Go.Art.bnd D] w ↔ Sat D w:=fun {w D}=>by
  rw [bnd_sat,List.append_nil]
 have h1:Sat (pre ++ C) w:=by
  obtain ⟨a1,a2,a3⟩:=Sat.app.1 hw
  have a4:=e.1 a2
  refine Sat.app.2 ⟨a1,a4,fun a ha c hc=>?_⟩
  have a5:=a3 a ha (Go.Art.bnd C) (List.Mem.head _)
  exact ⟨fun b hb hf=>a5.1 b hb (bnd_ft.2 ⟨c,hc,hf⟩),fun b hb hf=>a5.2 b ⟨c,hc,hb⟩ hf⟩
 have e1:∀ {D:List Ch} {b:Nat},wrs [Go.Art.bnd D] b ↔ wrs D b:=fun {D b}=>by have:=bnd_wrs (C:=D) (F:=[]) (b:=b);rwa [List.append_nil] at this
 have e2:∀ {D:List Ch} {b:Nat},rds [Go.Art.bnd D] b ↔ rds D b:=fun {D b}=>by have:=bnd_rds (C:=D) (F:=[]) (b:=b);rwa [List.append_nil] at this
 refine (h.run w h1).mono fun b w' ⟨B,hR,hS,hM,hB⟩=>⟨[Go.Art.bnd B],hR,e.2 hS,⟨hM.os,hM.tape,hM.output,hM.size,fun k hk hn=>hM.block k hk fun hm=>hn (e1.2 hm),fun x hx=>?_,fun x hx=>?_⟩,fun c hc x hx=>?_⟩
 ·rcases hM.wr x (e1.1 hx) with h2 | h2
  ·exact .inl (e1.2 h2)
  ·exact .inr h2
 ·rcases hM.rd x (e2.1 hx) with h2 | h2 | h2
  ·exact .inl (e1.2 h2)
  ·exact .inr (.inl (e2.2 h2))
  ·exact .inr (.inr h2)
 ·obtain rfl:=List.mem_singleton.1 hc
  obtain ⟨y,hy,h2⟩:=hx
  exact hB y hy x h2
theorem Tr.unb {P:Program} {f:FuncId} {args:List Value} {pre C:List Ch} {R R':Value→List Ch→Prop} (h:Tr P f args pre [Go.Art.bnd C] R) (k:∀ v D,R v D→∃ C',D = [Go.Art.bnd C']∧R' v C'):Tr P f args pre C R':=by
 refine ⟨fun w hw=>?_,h.lent⟩
 have hw':Sat (pre ++ [Go.Art.bnd C]) w:=by
  have h1:Sat (C ++ pre) w:=hw.perm List.perm_append_comm
  exact (bnd_sat.2 h1).perm (List.perm_append_comm (l₁:=[Go.Art.bnd C]) (l₂:=pre))
 have e1:∀ (C:List Ch) (b:Nat),wrs [Go.Art.bnd C] b ↔ wrs C b:=fun C b=>by have:=bnd_wrs (C:=C) (F:=[]) (b:=b);rwa [List.append_nil] at this
 have e2:∀ (C:List Ch) (b:Nat),rds [Go.Art.bnd C] b ↔ rds C b:=fun C b=>by have:=bnd_rds (C:=C) (F:=[]) (b:=b);rwa [List.append_nil] at this
 refine (h.run w hw').mono fun v w' ⟨B,hR,hS,hM,hB⟩=>?_
 obtain ⟨C',rfl,hR'⟩:=k v B hR
 refine ⟨C',hR',by have:=bnd_sat.1 hS;rwa [List.append_nil] at this,?_,fun c hc b hb=>hB _ (List.Mem.head _) b ⟨c,hc,hb⟩⟩
 exact ⟨hM.os,hM.tape,hM.output,hM.size,fun k hk hn=>hM.block k hk fun h=>hn ((e1 C k).1 h),fun b hb=>(hM.wr b ((e1 C' b).2 hb)).imp_left (e1 C b).1,
  fun b hb=>(hM.rd b ((e2 C' b).2 hb)).imp (e1 C b).1 (Or.imp_left (e2 C b).1)⟩
theorem bnd_nob {C:List Ch} (h:∀ c ∈ C,∀ b,¬ c.bd b) (b:Nat):¬ (bnd C).bd b:=fun ⟨c,hc,hb⟩=>h c hc b hb
structure SeqL (P:Program) (f:FuncId) (cap:Array Value) (pre:List Ch) (L:List (List Int)):Prop where
 run:∀ {α:Type} (l:Nat) (J:α→Ch) (pl:α→Nat→Prop) (S:α→Prop) (a0:α),pl a0 0→(∀ a b,¬ (J a).bd b) →
  (∀ a i x,pl a i→i < L.length→Ty P l [x] [vw x (Is (L.getD i []))] [J a] fun ok B=>∃ a',B = [J a']∧((ok = true∧pl a' (i + 1))∨(ok = false∧S a'))) →
  Tr P f (yv l :: cap.toList) pre [J a0] fun _ B=>∃ a,B = [J a]∧(pl a L.length∨S a)
 lent:∀ c ∈ pre,∀ b,¬ c.wr b∧¬ c.rd b
def endsL:Nat→Nat→List Int→List (List Int)
 | 0,_,b=>[b]
 | d + 1,k,b=>(List.range k).flatMap fun i:Nat=>endsL d (k - 1) (b ++ [(i:Int)])
theorem fm_succ {α:Type} (f:Nat→List α) (i:Nat):(List.range (i + 1)).flatMap f = (List.range i).flatMap f ++ f i:=by
 rw [List.range_succ,List.flatMap_append];simp
theorem fm_pre {α:Type} (f:Nat→List α) {i k:Nat} (h:i ≤ k):∃ r,(List.range k).flatMap f = (List.range i).flatMap f ++ r:=by
 obtain ⟨m,rfl⟩:=Nat.exists_eq_add_of_le h
 induction m with
 | zero=>exact ⟨[],by simp⟩
 | succ m ih=>
  obtain ⟨r,hr⟩:=ih (Nat.le_add_right _ _)
  exact ⟨r ++ f (i + m),by rw [← Nat.add_assoc,fm_succ,hr,List.append_assoc]⟩
theorem fm_get {α:Type} (f:Nat→List α) {i k j:Nat} (h:i < k) (hj:j < (f i).length) (z:α):((List.range i).flatMap f).length + j < ((List.range k).flatMap f).length∧((List.range k).flatMap f).getD (((List.range i).flatMap f).length + j) z = (f i).getD j z:=by
 obtain ⟨r,hr⟩:=fm_pre f (i:=i + 1) (k:=k) h
 rw [hr,fm_succ]
 refine ⟨by simp;omega,?_⟩
 rw [List.getD_eq_getElem?_getD,List.getD_eq_getElem?_getD,List.append_assoc,List.getElem?_append_right (by omega),Nat.add_sub_cancel_left,List.getElem?_append_left hj]
theorem fm_len {α:Type} (f:Nat→List α) (i:Nat):((List.range (i + 1)).flatMap f).length = ((List.range i).flatMap f).length + (f i).length:=by rw [fm_succ,List.length_append]
abbrev TLs:TypeId:=22
abbrev TYl:TypeId:=151
structure EnG (α:Type) where
 i:Nat
 a:α
 Ds:List Nat
attribute [local irreducible] Fit pt own ro vw mpc lpt vels rels mow lrc dfr
attribute [local irreducible] lmp lme mit velg relg bnd owl dfrl
theorem Clip_tr (v:Value) (l:List Int):Tr Tryz.prog 128 [v] [vw v (Is l)] [] fun u D=>u = clipV v l.length∧D = []:=by
 refine Tr.enter env _ Tryz.func128 (by kernel_rfl) rfl Tryz.ntmps128 rfl (by repeat (first | exact has00 | refine has01 ?_)) fun w0=>?_
 repeat' first|refine clv (v:=v) (l:=l) ?_|(refine wo ?_;first|refine oa ?_|refine lnm ?_)|refine sq ?_|refine rg ?_|refine xc ?_|refine nl ?_|refine rt ?_
 exact r1 ⟨rfl,rfl⟩
theorem ends_tr (v:Value) (k d:Int) (hv:v.oneCell' = true):Tr Tryz.prog 203 [v,I k,I d] [] [] fun u D=>∃ pd pb pk,u = .func (.func 244) #[] #[ptr pd,ptr pb,ptr pk]∧D = [pt pb [v] TLs,pt pk [I k] 3,pt pd [I d] 3]:=by
 refine Tr.enter env _ Tryz.func203 (by kernel_rfl) rfl Tryz.ntmps203 rfl (by repeat (first | exact has00 | refine has01 ?_)) fun w0=>?_
 repeat' first|refine bx1 fun b=>?_|(refine wo ?_;first|refine oa ?_)|refine sq ?_|refine rg ?_|refine xc ?_|refine nl ?_|refine rt ?_
 exact r1 ⟨_,_,_,rfl,rfl⟩
theorem ends1_seq:∀ (d k:Nat) (b:List Int) (pd pb pk:Nat) (v:Value),k ≤ 65536→b.length + d ≤ 100000→v.oneCell' = true→SeqL Tryz.prog 244 #[ptr pd,ptr pb,ptr pk] [lpt pd [I d] 3,lpt pb [v] TLs,lpt pk [I k] 3,vw v (Is b)] (endsL d k b)
 | 0,k,b,pd,pb,pk,v,hk,hb,hv=>by
  refine ⟨fun {α} l J pl S a0 h0 hnb hy=>?_,by repeat (first | exact has00 | refine has01 ?_)⟩
  haveI:∀ a,NoB (J a):=fun a=>⟨hnb a⟩
  have h1:=hy a0 0 v h0 (by simp [endsL])
  rw [show (endsL 0 k b).getD 0 [] = b from rfl] at h1
  refine Tr.enterM env _ Tryz.func244 (by kernel_rfl) rfl Tryz.ntmps244 rfl (by repeat (first | exact has00 | refine has01 ?_)) fun w0=>?_
  repeat' first|refine bx1 fun q=>?_|(refine cy h1 ?_;rintro ok _ ⟨a1,rfl,hs⟩)|(refine wo ?_;first|(refine ao ?_;first|refine oa ?_)|refine ld ?_|refine ldl ?_)|(refine gc ?_;first|refine ct ?_)|refine sq ?_|refine rg ?_|refine xc ?_|refine nl ?_|refine rt ?_
  refine TX.im (dfrl_nil _) ?_
  exact m0 (Ds:=[]) ⟨a1,rfl,hs.imp (·.2) (·.2)⟩
 | d + 1,k,b,pd,pb,pk,v,hk,hb,hv=>by
  refine ⟨fun {α} l J pl S a0 h0 hnb hy=>?_,by repeat (first | exact has00 | refine has01 ?_)⟩
  haveI:∀ a,NoB (J a):=fun a=>⟨hnb a⟩
  refine Tr.enterM env _ Tryz.func244 (by kernel_rfl) rfl Tryz.ntmps244 rfl (by repeat (first | exact has00 | refine has01 ?_)) fun w0=>?_
  repeat' first|refine bx1 fun q=>?_|(refine wo ?_;first|(refine ao ?_;first|refine oa ?_)|refine oa ?_|refine ldl ?_)|(refine gc ?_;first|refine cf ?_)|refine sq ?_|refine rg ?_|refine xc ?_|refine nl ?_|refine sk ?_|refine bk ?_
  refine TC.im (dfrl_nil _) ?_
  refine TC.loopD (ι:=EnG α) (fun g=>g.Ds) (fun g=>[(13,I g.i)]) (fun g=>[dfrl g.Ds,pt q [yv l] TYl,J g.a]) (fun g=>g.i ≤ k∧pl g.a ((List.range g.i).flatMap fun i:Nat=>endsL d (k - 1) (b ++ [(i:Int)])).length) (fun g=>k - g.i) ⟨0,a0,[]⟩ [1,2,3,4,12] ⟨Nat.zero_le _,h0⟩ ?_
  rintro ⟨i,a,Ds⟩ ⟨hi,ha⟩
  dsimp only at hi ha ⊢
  by_cases hlt:i < k
  ·have ih:=fun pd pb pk v hv=>ends1_seq d (k - 1) (b ++ [(i:Int)]) pd pb pk v (by omega) (by simp;omega) hv
   have hg:=fun j (hj:j < (endsL d (k - 1) (b ++ [(i:Int)])).length)=>fm_get (fun i:Nat=>endsL d (k - 1) (b ++ [(i:Int)])) hlt hj []
   have hE:=fun v hv=>ends_tr v ((k - 1:Nat):Int) (d:Int) hv
   have hlen:=fm_len (fun i:Nat=>endsL d (k - 1) (b ++ [(i:Int)])) i
   have hbl:b.length + 1 ≤ 17592186044416:=by omega
   have hdb:d ≤ 100000:=by omega
   clear hb
   repeat' first|(refine wo ?_;first|(refine ao ?_;first|refine oa ?_)|refine oa ?_)|(refine gc ?_;first|(refine ci (fun hB=>?_) (fun hB=>?_) <;> try (exfalso;omega)))|refine sq ?_|refine rg ?_|refine xc ?_|refine nl ?_|refine sk ?_|refine bk ?_
   refine rs (fun w=>w.heap[pb]? = some (.cells [v].toArray TLs (0,0))∧w.heap[pk]? = some (.cells [I k].toArray 3 (0,0))∧w.heap[pd]? = some (.cells [I ((d + 1:Nat):Int)].toArray 3 (0,0))) ?_ (fun w hw=>⟨lpt_at memA hw,lpt_at memA hw,lpt_at memA hw⟩)
   refine tkl 0 (cs:=[v]) (fun w h=>h.1) ?_
   refine tka 2 ?_
   refine tkl 5 (cs:=[I k]) (fun w h=>h.2.1) ?_
   refine tkw 6 ((k - 1:Nat):Int) ?_
   refine tkl 7 (cs:=[I ((d + 1:Nat):Int)]) (fun w h=>h.2.2) ?_
   refine tkw 8 (d:Int) ?_
   refine t2 1 3 ?_ ?_
   ·refine ca (Clip_tr v b) ?_
    rintro _ _ ⟨rfl,rfl⟩
    refine nl ?_
    refine te (fun w hw=>⟨lpt_at memA hw,lpt_at memA hw,lpt_at memA hw⟩) ?_
    refine t1 3 ?_
    refine slii [(i:Int)] fun v1=>?_
    refine nl ?_
    refine te (fun w hw=>⟨lpt_at memA hw,lpt_at memA hw,lpt_at memA hw⟩) ?_
    refine t1 4 ?_
    refine apc (v:=v) (l:=b) (news:=[(i:Int)]) (fun v2 hv2=>?_)
    refine nl ?_
    refine te (fun w hw=>⟨lpt_at memA hw,lpt_at memA hw,lpt_at memA hw⟩) ?_
    refine t1 9 ?_
    refine ca (hE v2 hv2) ?_
    rintro _ _ ⟨pd2,pb2,pk2,rfl,rfl⟩
    refine nl ?_
    refine te (fun w hw=>⟨lpt_at memA hw,lpt_at memA hw,lpt_at memA hw⟩) ?_
    refine t0 ?_
    repeat' first|refine xc ?_|refine bk ?_
    have hS:=@SeqL.run _ _ _ _ _ (ih pd2 pb2 pk2 v2 hv2)
    clear ih hE
    refine TC.range [lpt pd2 [I d] 3,lpt pb2 [v2] TLs,lpt pk2 [I ((k - 1:Nat):Int)] 3,vw v2 (Is (b ++ [(i:Int)]))] [pt q [yv l] TYl,J a] (fun l2 rec Dm pend B'=>∃ a',B' = [dfr Dm,pt q [yv l] TYl,J a']∧((pend = none∧pl a' ((List.range (i + 1)).flatMap fun i:Nat=>endsL d (k - 1) (b ++ [(i:Int)])).length)∨(pend = some .ret∧S a'))) ?_ ?_
    ·intro rec l2 Dm hr
     refine Tr.unb (hS (α:=α × Bool) l2 (fun p=>bnd [lrc l2 rec (bif p.2 then .done else .ready) (bif p.2 then some .ret else none),dfr Dm,pt q [yv l] TYl,J p.1]) (fun p j=>p.2 = false∧pl p.1 (((List.range i).flatMap fun i:Nat=>endsL d (k - 1) (b ++ [(i:Int)])).length + j)) (fun p=>p.2 = true∧S p.1) (a,false) ⟨rfl,ha⟩ (fun p=>bnd_nob (nb1 (nb1 (nb1 (nb1 nb0))))) ?_) ?_
     ·rintro ⟨a1,s⟩ j x ⟨hs1,hpl⟩ hj
      dsimp only at hs1 hpl
      subst hs1
      obtain ⟨hg1,hg2⟩:=hg j hj
      have h2:=hy a1 _ x hpl hg1
      rw [show (endsL (d + 1) k b).getD _ [] = (endsL d (k - 1) (b ++ [(i:Int)])).getD j [] from hg2] at h2
      refine Ty.bnd ?_
      refine Ty.intro env hr (by repeat (first | exact has00 | refine has01 ?_)) fun w1=>?_
      repeat' first|refine xbeg ?_|(refine cy h2 ?_;rintro ok _ ⟨a2,rfl,⟨rfl,h3⟩ | ⟨rfl,h3⟩⟩)|(refine wo ?_;first|refine oa ?_|refine ld ?_)|(refine gc ?_;first|refine ct ?_|refine cf ?_)|refine sq ?_|refine rg ?_|refine xc ?_|refine nl ?_|refine sk ?_|refine bk ?_|refine rt ?_|refine xb ?_
      ·exact yn ⟨(a2,false),rfl,.inl ⟨rfl,rfl,h3⟩⟩
      ·exact yr ⟨(a2,true),rfl,.inr ⟨rfl,rfl,h3⟩⟩
     ·rintro _ _ ⟨⟨a1,s⟩,rfl,⟨hs1,h3⟩ | ⟨hs1,h3⟩⟩
      ·dsimp only at hs1 h3
       subst hs1
       exact ⟨_,rfl,.ready,none,_,rfl,by decide,a1,rfl,.inl ⟨rfl,by rw [hlen];exact h3⟩⟩
      ·dsimp only at hs1 h3
       subst hs1
       exact ⟨_,rfl,.done,some .ret,_,rfl,by decide,a1,rfl,.inr ⟨rfl,h3⟩⟩
    ·rintro l2 rec Dm pend B' ⟨a1,rfl,⟨rfl,h3⟩ | ⟨rfl,h3⟩⟩
     ·show TX env _ _ _ _ _ _
      refine TX.im (dfrl_push (D:=Dm) (Ds:=Ds) fitA) ?_
      repeat' first|(refine wo ?_;first|(refine ao ?_;first|refine aw ?_)|refine oa ?_)|refine rg ?_|refine xc ?_|refine nl ?_|refine xb ?_
      exact lpD ⟨i + 1,a1,Dm :: Ds⟩ ⟨hlt,h3⟩
     ·show TC env _ _ _ _ _ _
      refine TC.im (dfrl_push (D:=Dm) (Ds:=Ds) fitA) ?_
      repeat' first|refine rt ?_
      exact m0 (Ds:=Dm :: Ds) ⟨a1,rfl,.inr h3⟩
   ·refine slii [(i:Int)] fun v1=>?_
    refine nl ?_
    refine te (fun w hw=>⟨lpt_at memA hw,lpt_at memA hw,lpt_at memA hw⟩) ?_
    refine t1 1 ?_
    refine ca (Clip_tr v b) ?_
    rintro _ _ ⟨rfl,rfl⟩
    refine nl ?_
    refine te (fun w hw=>⟨lpt_at memA hw,lpt_at memA hw,lpt_at memA hw⟩) ?_
    refine t1 4 ?_
    refine apc (v:=v) (l:=b) (news:=[(i:Int)]) (fun v2 hv2=>?_)
    refine nl ?_
    refine te (fun w hw=>⟨lpt_at memA hw,lpt_at memA hw,lpt_at memA hw⟩) ?_
    refine t1 9 ?_
    refine ca (hE v2 hv2) ?_
    rintro _ _ ⟨pd2,pb2,pk2,rfl,rfl⟩
    refine nl ?_
    refine te (fun w hw=>⟨lpt_at memA hw,lpt_at memA hw,lpt_at memA hw⟩) ?_
    refine t0 ?_
    repeat' first|refine xc ?_|refine bk ?_
    have hS:=@SeqL.run _ _ _ _ _ (ih pd2 pb2 pk2 v2 hv2)
    clear ih hE
    refine TC.range [lpt pd2 [I d] 3,lpt pb2 [v2] TLs,lpt pk2 [I ((k - 1:Nat):Int)] 3,vw v2 (Is (b ++ [(i:Int)]))] [pt q [yv l] TYl,J a] (fun l2 rec Dm pend B'=>∃ a',B' = [dfr Dm,pt q [yv l] TYl,J a']∧((pend = none∧pl a' ((List.range (i + 1)).flatMap fun i:Nat=>endsL d (k - 1) (b ++ [(i:Int)])).length)∨(pend = some .ret∧S a'))) ?_ ?_
    ·intro rec l2 Dm hr
     refine Tr.unb (hS (α:=α × Bool) l2 (fun p=>bnd [lrc l2 rec (bif p.2 then .done else .ready) (bif p.2 then some .ret else none),dfr Dm,pt q [yv l] TYl,J p.1]) (fun p j=>p.2 = false∧pl p.1 (((List.range i).flatMap fun i:Nat=>endsL d (k - 1) (b ++ [(i:Int)])).length + j)) (fun p=>p.2 = true∧S p.1) (a,false) ⟨rfl,ha⟩ (fun p=>bnd_nob (nb1 (nb1 (nb1 (nb1 nb0))))) ?_) ?_
     ·rintro ⟨a1,s⟩ j x ⟨hs1,hpl⟩ hj
      dsimp only at hs1 hpl
      subst hs1
      obtain ⟨hg1,hg2⟩:=hg j hj
      have h2:=hy a1 _ x hpl hg1
      rw [show (endsL (d + 1) k b).getD _ [] = (endsL d (k - 1) (b ++ [(i:Int)])).getD j [] from hg2] at h2
      refine Ty.bnd ?_
      refine Ty.intro env hr (by repeat (first | exact has00 | refine has01 ?_)) fun w1=>?_
      repeat' first|refine xbeg ?_|(refine cy h2 ?_;rintro ok _ ⟨a2,rfl,⟨rfl,h3⟩ | ⟨rfl,h3⟩⟩)|(refine wo ?_;first|refine oa ?_|refine ld ?_)|(refine gc ?_;first|refine ct ?_|refine cf ?_)|refine sq ?_|refine rg ?_|refine xc ?_|refine nl ?_|refine sk ?_|refine bk ?_|refine rt ?_|refine xb ?_
      ·exact yn ⟨(a2,false),rfl,.inl ⟨rfl,rfl,h3⟩⟩
      ·exact yr ⟨(a2,true),rfl,.inr ⟨rfl,rfl,h3⟩⟩
     ·rintro _ _ ⟨⟨a1,s⟩,rfl,⟨hs1,h3⟩ | ⟨hs1,h3⟩⟩
      ·dsimp only at hs1 h3
       subst hs1
       exact ⟨_,rfl,.ready,none,_,rfl,by decide,a1,rfl,.inl ⟨rfl,by rw [hlen];exact h3⟩⟩
      ·dsimp only at hs1 h3
       subst hs1
       exact ⟨_,rfl,.done,some .ret,_,rfl,by decide,a1,rfl,.inr ⟨rfl,h3⟩⟩
    ·rintro l2 rec Dm pend B' ⟨a1,rfl,⟨rfl,h3⟩ | ⟨rfl,h3⟩⟩
     ·show TX env _ _ _ _ _ _
      refine TX.im (dfrl_push (D:=Dm) (Ds:=Ds) fitA) ?_
      repeat' first|(refine wo ?_;first|(refine ao ?_;first|refine aw ?_)|refine oa ?_)|refine rg ?_|refine xc ?_|refine nl ?_|refine xb ?_
      exact lpD ⟨i + 1,a1,Dm :: Ds⟩ ⟨hlt,h3⟩
     ·show TC env _ _ _ _ _ _
      refine TC.im (dfrl_push (D:=Dm) (Ds:=Ds) fitA) ?_
      repeat' first|refine rt ?_
      exact m0 (Ds:=Dm :: Ds) ⟨a1,rfl,.inr h3⟩
  ·obtain rfl:i = k:=by omega
   repeat' first|(refine wo ?_;first|(refine ao ?_;first|refine oa ?_))|(refine gc ?_;first|(refine ci (fun hB=>?_) (fun hB=>?_) <;> try (exfalso;omega)))|refine sq ?_|refine rg ?_|refine xc ?_|refine nl ?_|refine xe ?_
   exact m0e ⟨a,rfl,.inl ha⟩
end Go.Art
namespace Go.Art
open Go Go.Proofs Go.RowKit
structure Cel (ps:List (Nat × Value)) (qs:List (Nat × List Value)):Prop where
 eq:ps.map (fun p=>(p.1,p.2.cells.toList)) = qs
theorem Cel.nil:Cel [] []:=⟨rfl⟩
theorem Cel.one {i:Nat} {v:Value} {ps:List (Nat × Value)} {qs:List (Nat × List Value)} (h:v.oneCell' = true) (k:Cel ps qs):Cel ((i,v) :: ps) ((i,[v]) :: qs):=⟨by
 rw [List.map_cons,k.eq,oneCell_cells h]⟩
theorem Cel.agg {i:Nat} {cs:List Value} {ps:List (Nat × Value)} {qs:List (Nat × List Value)} (k:Cel ps qs):Cel ((i,.agg cs.toArray) :: ps) ((i,cs) :: qs):=⟨by
 rw [List.map_cons,k.eq]
 rfl⟩
def setPartsC (pl:List (Nat × Nat)):List Value→List (Nat × List Value)→Option (List Value)
 | cs,[]=>some cs
 | cs,(i,us) :: r=>match pl[i]? with
  | some (off,sz)=>bif Nat.beq us.length sz && Nat.ble (off + sz) cs.length then setPartsC pl (cs.take off ++ us ++ cs.drop (off + sz)) r else none
  | none=>none
theorem setParts_C {pl:List (Nat × Nat)}:∀ {ps:List (Nat × Value)} {qs:List (Nat × List Value)} {cs cs':List Value},Cel ps qs→setPartsC pl cs qs = some cs'→setParts pl cs ps = some cs'
 | [],qs,cs,cs',h,k=>by
  obtain ⟨h⟩:=h
  subst h
  exact k
 | (i,v) :: ps,qs,cs,cs',h,k=>by
  obtain ⟨h⟩:=h
  subst h
  simp only [List.map_cons,setPartsC] at k
  simp only [setParts]
  cases hp:pl[i]? with
  | none=>rw [hp] at k;cases k
  | some q=>
   obtain ⟨off,sz⟩:=q
   rw [hp] at k
   simp only [Array.length_toList] at k ⊢
   cases hc:Nat.beq v.cells.size sz && Nat.ble (off + sz) cs.length with
   | false=>rw [hc] at k;cases k
   | true=>rw [hc] at k;exact setParts_C ⟨rfl⟩ k
section
variable {P:Program} {E:Env P} {n:Sh} {X:Cx} {s:List K} {fr:Fr} {A A':List Ch} {ops:Array Oper} {rest:List Oper} {d:Nat} {ty t:TypeId} {pos:String} {after:Array Edge}
theorem bdg {sz by_:Nat} {cs:List Value} {fl:List Field} {zs:List Value} {pl:List (Nat × Nat)} {parts:List (Nat × Operand)} {ps:List (Nat × Value)} (k:TO E n X s ops rest ((d,.agg cs.toArray) :: fr) A) (hv:evps fr parts = some ps:=by rfl)
  (ht:lk E.und t = some (.struct fl.toArray):=by rfl) (he:lk E.inf t = some (.agg zs.toArray,sz,by_):=by rfl) (hpl:places E.inf fl = some pl:=by rfl) (hs:setParts pl zs ps = some cs:=by rfl) (hd:Nat.blt d n.n = true:=by rfl) :
  TO E n X s ops (⟨some d,.build t parts.toArray,ty,pos,after,none⟩ :: rest) fr A:=TO.val (fun _ _=>R_build ht he hpl hv hs) k hd
theorem bdm {sz by_:Nat} {cs:List Value} {fl:List Field} {zs:List Value} {pl:List (Nat × Nat)} {parts:List (Nat × Operand)} {ps:List (Nat × Value)} {qs:List (Nat × List Value)} (k:TO E n X s ops rest ((d,.agg cs.toArray) :: fr) A) (hv:evps fr parts = some ps:=by rfl)
  (ht:lk E.und t = some (.struct fl.toArray):=by rfl) (he:lk E.inf t = some (.agg zs.toArray,sz,by_):=by rfl) (hpl:places E.inf fl = some pl:=by rfl) (hq:Cel ps qs:=by (repeat (first | exact Cel.nil | apply Cel.agg | (apply Cel.one;focus (first | rfl | assumption))));first | done | fail) (hs:setPartsC pl zs qs = some cs:=by rfl) (hd:Nat.blt d n.n = true:=by rfl) :
  TO E n X s ops (⟨some d,.build t parts.toArray,ty,pos,after,none⟩ :: rest) fr A:=bdg k hv ht he hpl (setParts_C hq hs) hd
theorem ldla {b j sz by_:Nat} {cs vs:List Value} {T:TypeId} {dt:TypeDesc} {z:Value} {x:Operand} (k:TO E n X s ops rest ((d,.agg vs.toArray) :: fr) A) (hx:ev fr x = some (.pointer (some ⟨b,j,none⟩)):=by rfl) (hm:lpt b cs T ∈ A:=by exact memA) (ht:lk E.und t = some dt:=by rfl) (hg:aggB dt = true:=by rfl) (hi:lk E.inf t = some (z,sz,by_):=by rfl)
  (hv:(cs.drop j).take sz = vs:=by rfl) (hl:vs.length = sz:=by rfl) (hd:Nat.blt d n.n = true:=by rfl):TO E n X s ops (⟨some d,.load t x,ty,pos,after,none⟩ :: rest) fr A:=TO.val (fun _ h=>R_loadA ht hg hi hx (h.h (lpt b cs T) hm) hv hl) k hd
end
end Go.Art
namespace Go.Art
open Go Go.Proofs Go.RowKit
def lvlL (tot:Int) (cut oth:List Int) (k c x:Nat):List (List Int):=endsL (alPick tot cut oth c x + 1).toNat k [(c:Int),(x:Int)]
def colL (tot:Int) (cut oth:List Int) (k c:Nat):List (List Int):=(List.range tot.toNat).flatMap fun x:Nat=>lvlL tot cut oth k c x
def allL (tot:Int) (cut oth:List Int) (k:Nat):List (List Int):=(List.range cut.length).flatMap fun c:Nat=>colL tot cut oth k c
theorem allL_get {tot:Int} {cut oth:List Int} {k c x j:Nat} (h1:c < cut.length) (h2:x < tot.toNat) (h3:j < (lvlL tot cut oth k c x).length) :
  ((List.range c).flatMap fun c:Nat=>colL tot cut oth k c).length + (((List.range x).flatMap fun x:Nat=>lvlL tot cut oth k c x).length + j) < (allL tot cut oth k).length ∧
  (allL tot cut oth k).getD (((List.range c).flatMap fun c:Nat=>colL tot cut oth k c).length + (((List.range x).flatMap fun x:Nat=>lvlL tot cut oth k c x).length + j)) [] = (lvlL tot cut oth k c x).getD j []:=by
 obtain ⟨a1,a2⟩:=fm_get (fun x:Nat=>lvlL tot cut oth k c x) h2 h3 []
 obtain ⟨b1,b2⟩:=fm_get (fun c:Nat=>colL tot cut oth k c) h1 (j:=((List.range x).flatMap fun x:Nat=>lvlL tot cut oth k c x).length + j) a1 []
 exact ⟨b1,b2.trans a2⟩
structure AlG (α:Type) where
 i:Nat
 a:α
 Ds:List Nat
attribute [local irreducible] Fit pt own ro vw mpc lpt vels rels mow lrc dfr
attribute [local irreducible] lmp lme mit velg relg bnd owl dfrl lvlL colL
theorem all_tr (tot k:Int) (cv ov:Value):Tr Tryz.prog 148 [.agg #[I tot,cv,ov],I k] [] [] fun u D=>∃ pa pk,u = .func (.func 201) #[] #[ptr pa,ptr pk]∧D = [pt pa [I tot,cv,ov] TAl,pt pk [I k] TLI]:=by
 refine Tr.enter env _ Tryz.func148 (by kernel_rfl) rfl Tryz.ntmps148 rfl (by repeat (first | exact has00 | refine has01 ?_)) fun w0=>?_
 repeat' first|refine bx fun b=>?_|(refine wo ?_;first|refine oa ?_)|refine sq ?_|refine rg ?_|refine xc ?_|refine nl ?_|refine rt ?_
 exact r1 ⟨_,_,rfl,rfl⟩
theorem all1_seq (tot:Int) (k:Nat) (cv ov:Value) (cut oth:List Int) (pa pk:Nat) (hc:cv.oneCell' = true) (ho:ov.oneCell' = true) (hE:alE tot cut oth = 0) (hk:cut.length ≤ k∧k ≤ 65536) :
  SeqL Tryz.prog 201 #[ptr pa,ptr pk] [lpt pa [I tot,cv,ov] TAl,lpt pk [I k] TLI,vw cv (Is cut),vw ov (Is oth)] (allL tot cut oth k):=by
 refine ⟨fun {α} l J pl S a0 h0 hnb hy=>?_,by repeat (first | exact has00 | refine has01 ?_)⟩
 haveI:∀ a,NoB (J a):=fun a=>⟨hnb a⟩
 have htb:=(alE_bnd hE).1
 refine Tr.enterM env _ Tryz.func201 (by kernel_rfl) rfl Tryz.ntmps201 rfl (by repeat (first | exact has00 | refine has01 ?_)) fun w0=>?_
 repeat' first|refine bx1 fun q=>?_|(refine wo ?_;first|refine oa ?_|refine ldl ?_|refine lnm ?_)|refine sq ?_|refine rg ?_|refine xc ?_|refine nl ?_|refine bk ?_
 refine TC.im (dfrl_nil _) ?_
 refine TC.loopD (ι:=AlG α) (fun g=>g.Ds) (fun g=>[(12,I g.i)]) (fun g=>[dfrl g.Ds,pt q [yv l] TYl,J g.a]) (fun g=>g.i ≤ cut.length∧pl g.a ((List.range g.i).flatMap fun c:Nat=>colL tot cut oth k c).length) (fun g=>cut.length - g.i) ⟨0,a0,[]⟩ [1,2,3,11] ⟨Nat.zero_le _,h0⟩ ?_
 rintro ⟨i,a,Ds⟩ ⟨hi,ha⟩
 dsimp only at hi ha ⊢
 by_cases hlt:i < cut.length
 rotate_left
 ·obtain rfl:i = cut.length:=by omega
  repeat' first|(refine wo ?_;first|(refine ao ?_;first|refine oa ?_))|(refine gc ?_;first|(refine ci (fun hB=>?_) (fun hB=>?_) <;> try (exfalso;omega)))|refine sq ?_|refine rg ?_|refine xc ?_|refine nl ?_|refine xe ?_
  exact m0e ⟨a,rfl,.inl ha⟩
 have hcl:((List.range (i + 1)).flatMap fun c:Nat=>colL tot cut oth k c).length = ((List.range i).flatMap fun c:Nat=>colL tot cut oth k c).length + ((List.range tot.toNat).flatMap fun x:Nat=>lvlL tot cut oth k i x).length:=by rw [fm_len];unfold colL;rfl
 have ha0:pl a (((List.range i).flatMap fun c:Nat=>colL tot cut oth k c).length + ((List.range 0).flatMap fun x:Nat=>lvlL tot cut oth k i x).length):=ha
 clear ha
 repeat' first|(refine wo ?_;first|(refine ao ?_;first|refine oa ?_)|refine oa ?_|refine ldl ?_)|(refine gc ?_;first|(refine ci (fun hB=>?_) (fun hB=>?_) <;> try (exfalso;omega)))|refine sq ?_|refine rg ?_|refine xc ?_|refine nl ?_|refine sk ?_|refine bk ?_
 refine TC.loopD (ι:=AlG α) (fun g=>g.Ds) (fun g=>[(17,I g.i)]) (fun g=>[dfrl g.Ds,pt q [yv l] TYl,J g.a]) (fun g=>g.i ≤ tot.toNat∧pl g.a (((List.range i).flatMap fun c:Nat=>colL tot cut oth k c).length + ((List.range g.i).flatMap fun x:Nat=>lvlL tot cut oth k i x).length)) (fun g=>tot.toNat - g.i) ⟨0,a,Ds⟩ [1,2,3,4,11,12,16] ⟨Nat.zero_le _,ha0⟩ ?_
 clear ha0
 rintro ⟨x,a1,Ds1⟩ ⟨hx,ha⟩
 dsimp only at hx ha ⊢
 by_cases hxt:x < tot.toNat
 rotate_left
 ·obtain rfl:x = tot.toNat:=by omega
  rw [← hcl] at ha
  repeat' first|(refine wo ?_;first|(refine ao ?_;first|refine aw ?_|refine oa ?_)|refine oa ?_)|(refine gc ?_;first|(refine ci (fun hB=>?_) (fun hB=>?_) <;> try (exfalso;omega)))|refine sq ?_|refine rg ?_|refine xc ?_|refine nl ?_|refine xe ?_|refine xb ?_
  exact lpD ⟨i + 1,a1,Ds1⟩ ⟨hlt,ha⟩
 have hP:=AlPick_tr tot i x cv ov cut oth hc ho hE (by omega) (by omega)
 have hin:=alPick_in hE (c:=i) (l:=x) (by omega)
 have hg:=fun j (hj:j < (lvlL tot cut oth k i x).length)=>allL_get (k:=k) hlt hxt hj
 have hlen:=fm_len (fun x:Nat=>lvlL tot cut oth k i x) x
 obtain ⟨d,hd⟩ : ∃ d:Nat,alPick tot cut oth i x + 1 = d:=⟨(alPick tot cut oth i x + 1).toNat,by omega⟩
 have hlv:lvlL tot cut oth k i x = endsL d k [(i:Int),(x:Int)]:=by unfold lvlL;rw [hd];rfl
 have ih:=fun pd pb pk v hv=>ends1_seq d k [(i:Int),(x:Int)] pd pb pk v (by omega) (by simp;omega) hv
 rw [← hlv] at ih
 have hEn:∀ v,v.oneCell' = true→Tr Tryz.prog 203 [v,I k,I (alPick tot cut oth i x + 1)] [] [] fun u D=>∃ pd pb pk,u = .func (.func 244) #[] #[ptr pd,ptr pb,ptr pk]∧D = [pt pb [v] TLs,pt pk [I k] 3,pt pd [I d] 3]:=fun v hv=>(ends_tr v k (alPick tot cut oth i x + 1) hv).mono fun u D ⟨pd,pb,pk,h1,h2⟩=>⟨pd,pb,pk,h1,by rw [h2,hd]⟩
 generalize alPick tot cut oth i x = at1 at *
 clear hE hlv
 repeat' first|(refine gca ?_;first|(refine ca hP ?_;rintro _ _ ⟨rfl,rfl⟩)|(refine ca (hEn v1 hv1) ?_;rintro _ _ ⟨pd2,pb2,pk2,rfl,rfl⟩))|refine ldla ?_|(refine slii [(i:Int),(x:Int)] fun v1=>?_;refine TO.one (v:=v1) (xs:=Is [(i:Int),(x:Int)]) fun hv1=>?_)|(refine wo ?_;first|(refine ao ?_;first|refine aw ?_|refine oa ?_)|refine oa ?_|refine ldl ?_)|(refine gc ?_;first|(refine ci (fun hB=>?_) (fun hB=>?_) <;> try (exfalso;omega)))|refine sq ?_|refine rg ?_|refine xc ?_|refine nl ?_|refine sk ?_|refine bk ?_
 have hS:=@SeqL.run _ _ _ _ _ (ih pd2 pb2 pk2 v1 hv1)
 clear ih hEn hP
 refine TC.range [lpt pd2 [I d] 3,lpt pb2 [v1] TLs,lpt pk2 [I k] 3,vw v1 (Is [(i:Int),(x:Int)])] [pt q [yv l] TYl,J a1] (fun l2 rec Dm pend B'=>∃ a',B' = [dfr Dm,pt q [yv l] TYl,J a']∧((pend = none∧pl a' (((List.range i).flatMap fun c:Nat=>colL tot cut oth k c).length + ((List.range (x + 1)).flatMap fun x:Nat=>lvlL tot cut oth k i x).length))∨(pend = some .ret∧S a'))) ?_ ?_
 ·intro rec l2 Dm hr
  refine Tr.unb (hS (α:=α × Bool) l2 (fun p=>bnd [lrc l2 rec (bif p.2 then .done else .ready) (bif p.2 then some .ret else none),dfr Dm,pt q [yv l] TYl,J p.1]) (fun p j=>p.2 = false∧pl p.1 (((List.range i).flatMap fun c:Nat=>colL tot cut oth k c).length + (((List.range x).flatMap fun x:Nat=>lvlL tot cut oth k i x).length + j))) (fun p=>p.2 = true∧S p.1) (a1,false) ⟨rfl,ha⟩ (fun p=>bnd_nob (nb1 (nb1 (nb1 (nb1 nb0))))) ?_) ?_
  ·rintro ⟨a1,s⟩ j y ⟨hs1,hpl⟩ hj
   dsimp only at hs1 hpl
   subst hs1
   obtain ⟨hg1,hg2⟩:=hg j hj
   have h2:=hy a1 _ y hpl hg1
   rw [hg2] at h2
   refine Ty.bnd ?_
   refine Ty.intro env hr (by repeat (first | exact has00 | refine has01 ?_)) fun w1=>?_
   repeat' first|refine xbeg ?_|(refine cy h2 ?_;rintro ok _ ⟨a2,rfl,⟨rfl,h3⟩ | ⟨rfl,h3⟩⟩)|(refine wo ?_;first|refine oa ?_|refine ld ?_)|(refine gc ?_;first|refine ct ?_|refine cf ?_)|refine sq ?_|refine rg ?_|refine xc ?_|refine nl ?_|refine sk ?_|refine bk ?_|refine rt ?_|refine xb ?_
   ·exact yn ⟨(a2,false),rfl,.inl ⟨rfl,rfl,h3⟩⟩
   ·exact yr ⟨(a2,true),rfl,.inr ⟨rfl,rfl,h3⟩⟩
  ·rintro _ _ ⟨⟨a1,s⟩,rfl,⟨hs1,h3⟩ | ⟨hs1,h3⟩⟩
   ·dsimp only at hs1 h3
    subst hs1
    exact ⟨_,rfl,.ready,none,_,rfl,by decide,a1,rfl,.inl ⟨rfl,by rw [hlen];exact h3⟩⟩
   ·dsimp only at hs1 h3
    subst hs1
    exact ⟨_,rfl,.done,some .ret,_,rfl,by decide,a1,rfl,.inr ⟨rfl,h3⟩⟩
 ·rintro l2 rec Dm pend B' ⟨a1,rfl,⟨rfl,h3⟩ | ⟨rfl,h3⟩⟩
  ·show TX env _ _ _ _ _ _
   refine TX.im (dfrl_push (D:=Dm) (Ds:=Ds1) fitA) ?_
   repeat' first|(refine wo ?_;first|(refine ao ?_;first|refine aw ?_)|refine oa ?_)|refine rg ?_|refine xc ?_|refine nl ?_|refine xb ?_
   exact lpD ⟨x + 1,a1,Dm :: Ds1⟩ ⟨hxt,h3⟩
  ·show TC env _ _ _ _ _ _
   refine TC.im (dfrl_push (D:=Dm) (Ds:=Ds1) fitA) ?_
   repeat' first|refine rt ?_
   exact m0 (Ds:=Dm :: Ds1) ⟨a1,rfl,.inr h3⟩
end Go.Art
namespace Go.Art
def nv:List Nat→Nat
 | []=>0
 | x :: r=>x + 18446744073709551616 * nv r
def dg (n:Nat):List Nat:=if h:n = 0 then [] else n % 18446744073709551616 :: dg (n / 18446744073709551616)
termination_by n
decreasing_by omega
def Dg (l:List Nat):Prop:=∀ x ∈ l,x < 18446744073709551616
theorem dg_zero:dg 0 = []:=by rw [dg];rfl
theorem dg_pos {n:Nat} (h:n ≠ 0):dg n = n % 18446744073709551616 :: dg (n / 18446744073709551616):=by rw [dg];simp [h]
theorem nv_dg (n:Nat):nv (dg n) = n:=by
 induction n using Nat.strongRecOn with
 | _ n ih=>
  by_cases h:n = 0
  ·subst h;rw [dg_zero];rfl
  ·rw [dg_pos h,nv,ih _ (by omega)];omega
theorem Dg_dg (n:Nat):Dg (dg n):=by
 induction n using Nat.strongRecOn with
 | _ n ih=>
  by_cases h:n = 0
  ·subst h;rw [dg_zero];exact fun x hx=>nomatch hx
  ·rw [dg_pos h];intro x hx
   rcases List.mem_cons.1 hx with rfl | hx
   ·exact Nat.mod_lt _ (by decide)
   ·exact ih _ (by omega) x hx
theorem Dg.nil:Dg []:=fun _ h=>nomatch h
theorem Dg.cons {x:Nat} {l:List Nat} (h:x < 18446744073709551616) (k:Dg l):Dg (x :: l):=fun y hy=>by rcases List.mem_cons.1 hy with rfl | hy;exact h;exact k y hy
theorem Dg.tail {x:Nat} {l:List Nat} (h:Dg (x :: l)):Dg l:=fun y hy=>h y (List.mem_cons_of_mem _ hy)
theorem Dg.head {x:Nat} {l:List Nat} (h:Dg (x :: l)):x < 18446744073709551616:=h x List.mem_cons_self
theorem Dg.app {a b:List Nat} (h:Dg a) (k:Dg b):Dg (a ++ b):=fun x hx=>by rcases List.mem_append.1 hx with h1 | h1;exact h x h1;exact k x h1
theorem Dg.one {x:Nat} (h:x < 18446744073709551616):Dg [x]:=Dg.cons h Dg.nil
theorem Dg.take {l:List Nat} (h:Dg l) (i:Nat):Dg (l.take i):=fun x hx=>h x (List.mem_of_mem_take hx)
theorem Dg.drop {l:List Nat} (h:Dg l) (i:Nat):Dg (l.drop i):=fun x hx=>h x (List.mem_of_mem_drop hx)
theorem Dg.sub {l:List Nat} (h:Dg l) (i j:Nat):Dg ((l.take j).drop i):=(h.take j).drop i
theorem Dg.set {l:List Nat} (h:Dg l) {i x:Nat} (hx:x < 18446744073709551616):Dg (l.set i x):=fun y hy=>by
 rcases List.mem_or_eq_of_mem_set hy with h1 | rfl
 ·exact h y h1
 ·exact hx
theorem Dg.rep (n:Nat):Dg (List.replicate n 0):=fun x hx=>by rw [List.eq_of_mem_replicate hx];decide
theorem Dg.getD {l:List Nat} (h:Dg l) (i:Nat):l.getD i 0 < 18446744073709551616:=by
 rw [List.getD_eq_getElem?_getD]
 cases hx:l[i]? with
 | none=>simp
 | some x=>exact h x (List.mem_of_getElem? hx)
theorem nv_app (a b:List Nat):nv (a ++ b) = nv a + 18446744073709551616 ^ a.length * nv b:=by
 induction a with
 | nil=>simp [nv]
 | cons x r ih=>rw [List.cons_append,nv,nv,ih,List.length_cons,Nat.pow_succ,Nat.mul_add,Nat.mul_assoc,Nat.mul_left_comm,Nat.add_assoc]
theorem nv_snoc (a:List Nat) (x:Nat):nv (a ++ [x]) = nv a + 18446744073709551616 ^ a.length * x:=by rw [nv_app];simp [nv]
theorem nv_lt {l:List Nat} (h:Dg l):nv l < 18446744073709551616 ^ l.length:=by
 induction l with
 | nil=>simp [nv]
 | cons x r ih=>
  have h1:=ih h.tail
  have h2:=h.head
  rw [nv,List.length_cons,Nat.pow_succ]
  omega
theorem nv_rep (n:Nat):nv (List.replicate n 0) = 0:=by
 induction n with
 | zero=>rfl
 | succ n ih=>rw [List.replicate_succ,nv,ih]
theorem nv_split (l:List Nat) (i:Nat):nv l = nv (l.take i) + 18446744073709551616 ^ (min i l.length) * nv (l.drop i):=by
 conv=>lhs;rw [← List.take_append_drop i l]
 rw [nv_app,List.length_take]
theorem nv_step (l:List Nat) (i:Nat):nv (l.drop i) = l.getD i 0 + 18446744073709551616 * nv (l.drop (i + 1)):=by
 by_cases h:i < l.length
 ·rw [List.drop_eq_getElem_cons h,nv,List.getD_eq_getElem?_getD,List.getElem?_eq_getElem h];rfl
 ·rw [List.drop_eq_nil_of_le (by omega),List.drop_eq_nil_of_le (by omega)]
  simp [nv,List.getD_eq_getElem?_getD,h]
theorem nv_take_succ (l:List Nat) (i:Nat) (h:i < l.length):nv (l.take (i + 1)) = nv (l.take i) + 18446744073709551616 ^ i * l.getD i 0:=by
 rw [List.take_succ_eq_append_getElem h,nv_snoc,List.length_take,Nat.min_eq_left (by omega),List.getD_eq_getElem?_getD,List.getElem?_eq_getElem h];rfl
def Tm (l:List Nat):Prop:=∀ a x,l = a ++ [x]→x ≠ 0
theorem Tm.nil:Tm []:=fun a x h=>by simp at h
theorem nv_zero {l:List Nat} (h:nv l = 0):∀ x ∈ l,x = 0:=by
 induction l with
 | nil=>exact fun _ h=>nomatch h
 | cons y r ih=>
  rw [nv] at h
  intro x hx
  rcases List.mem_cons.1 hx with rfl | hx
  ·omega
  ·exact ih (by omega) x hx
theorem Tm.tail {x:Nat} {l:List Nat} (h:Tm (x :: l)):Tm l:=fun a y e=>h (x :: a) y (by rw [e];rfl)
theorem Tm.pos {x:Nat} {l:List Nat} (h:Tm (x :: l)):nv (x :: l) ≠ 0:=by
 intro h0
 obtain ⟨a,y,e⟩ : ∃ a y,x :: l = a ++ [y]:=⟨(x :: l).dropLast,(x :: l).getLast (by simp),(List.dropLast_concat_getLast (by simp)).symm⟩
 exact h a y e (nv_zero h0 y (by rw [e];simp))
theorem dg_nv {l:List Nat} (h:Dg l) (t:Tm l):dg (nv l) = l:=by
 induction l with
 | nil=>exact dg_zero
 | cons x r ih=>
  rw [dg_pos t.pos,nv]
  have h1:=h.head
  rw [show (x + 18446744073709551616 * nv r) % 18446744073709551616 = x by omega,show (x + 18446744073709551616 * nv r) / 18446744073709551616 = nv r by omega,ih h.tail t.tail]
theorem Tm_dg (n:Nat):Tm (dg n):=by
 induction n using Nat.strongRecOn with
 | _ n ih=>
  by_cases h:n = 0
  ·subst h;rw [dg_zero];exact Tm.nil
  ·rw [dg_pos h];intro a x e
   cases a with
   | nil=>
    simp only [List.nil_append,List.cons.injEq] at e
    have h2:n / 18446744073709551616 = 0:=by rw [← nv_dg (n / 18446744073709551616),e.2];rfl
    omega
   | cons y a=>
    simp only [List.cons_append,List.cons.injEq] at e
    exact ih _ (by omega) a x e.2
theorem dg_nil {n:Nat}:dg n = [] ↔ n = 0:=⟨fun h=>by rw [← nv_dg n,h];rfl,fun h=>by rw [h,dg_zero]⟩
theorem dg_top {l:List Nat} {i:Nat} (h:Dg l) (h0:nv (l.drop i) = 0):nv (l.take i) = nv l:=by
 have:=nv_split l i;rw [h0] at this;omega
theorem Tm_of {l:List Nat} (h:l = []∨l.getD (l.length - 1) 0 ≠ 0):Tm l:=by
 intro a x e
 rcases h with rfl | h
 ·simp at e
 ·subst e
  simpa [List.getD_eq_getElem?_getD] using h
theorem Tm.top {l:List Nat} (h:Tm l) (hl:0 < l.length):l.getD (l.length - 1) 0 ≠ 0:=by
 have e:=(List.dropLast_concat_getLast (l:=l) (by rintro rfl;simp at hl)).symm
 have:=h _ _ e
 rw [List.getLast_eq_getElem] at this
 rwa [List.getD_eq_getElem?_getD,List.getElem?_eq_getElem (by omega)]
theorem dg_len (n m:Nat):(dg n).length ≤ m ↔ n < 18446744073709551616 ^ m:=by
 constructor
 ·intro h
  have h1:=nv_lt (Dg_dg n)
  rw [nv_dg] at h1
  exact Nat.lt_of_lt_of_le h1 (Nat.pow_le_pow_right (by decide) h)
 ·induction m generalizing n with
  | zero=>intro h;simp at h;subst h;rw [dg_zero];exact Nat.le_refl _
  | succ m ih=>
   intro h
   by_cases h0:n = 0
   ·subst h0;rw [dg_zero];exact Nat.zero_le _
   ·rw [dg_pos h0,List.length_cons]
    have:=ih (n / 18446744073709551616) (by rw [Nat.pow_succ] at h;exact Nat.div_lt_of_lt_mul (by rw [Nat.mul_comm];exact h))
    omega
theorem dg_one {n:Nat} (h:n < 18446744073709551616) (h0:n ≠ 0):dg n = [n]:=by
 rw [dg_pos h0,Nat.mod_eq_of_lt h,Nat.div_eq_of_lt h,dg_zero]
theorem nv_low {l:List Nat} (h:Dg l) (i:Nat):nv (l.take i) < 18446744073709551616 ^ i:=by
 have h1:=nv_lt (h.take i)
 refine Nat.lt_of_lt_of_le h1 (Nat.pow_le_pow_right (by decide) ?_)
 rw [List.length_take];omega
theorem nv_cut (l:List Nat) (i:Nat):nv l = nv (l.take i) + 18446744073709551616 ^ i * nv (l.drop i):=by
 by_cases h:i ≤ l.length
 ·have:=nv_split l i;rwa [Nat.min_eq_left h] at this
 ·rw [List.drop_eq_nil_of_le (by omega),List.take_of_length_le (by omega)];simp [nv]
theorem nv_lt_of {a b:List Nat} (ha:Dg a) (i:Nat) (h:nv (a.drop i) < nv (b.drop i)):nv a < nv b:=by
 rw [nv_cut a i,nv_cut b i]
 have h1:=nv_low ha i
 have h2:18446744073709551616 ^ i * nv (a.drop i) + 18446744073709551616 ^ i ≤ 18446744073709551616 ^ i * nv (b.drop i):=by
  rw [← Nat.mul_succ];exact Nat.mul_le_mul_left _ h
 omega
theorem nv_set (l:List Nat) (i x:Nat) (h:i < l.length):nv (l.set i x) + 18446744073709551616 ^ i * l.getD i 0 = nv l + 18446744073709551616 ^ i * x:=by
 rw [nv_cut (l.set i x) i,nv_cut l i,nv_step (l.set i x) i,nv_step l i]
 have e1:(l.set i x).take i = l.take i:=by rw [List.take_set,List.set_eq_of_length_le (by rw [List.length_take];omega)]
 have e2:(l.set i x).drop (i + 1) = l.drop (i + 1):=by rw [List.drop_set,if_pos (by omega)]
 have e3:(l.set i x).getD i 0 = x:=by simp [List.getD_eq_getElem?_getD,h]
 rw [e1,e2,e3]
 simp only [Nat.mul_add]
 omega
structure Hf (n1 n0 u u1 q r:Nat):Prop where
 n1a:2147483648 ≤ n1
 n1b:n1 < 4294967296
 n0b:n0 < 4294967296
 u1b:u1 < 4294967296
 ub:u < n1 * 4294967296 + n0
 eq:r + q * n1 = u
 q1:(u * 4294967296 + u1) / (n1 * 4294967296 + n0) ≤ q
 q2:q ≤ 4294967297
 r2:r < 4294967296
theorem Hf.first {n1 n0 u u1:Nat} (n1a:2147483648 ≤ n1) (n1b:n1 < 4294967296) (n0b:n0 < 4294967296) (u1b:u1 < 4294967296) (ub:u < n1 * 4294967296 + n0):Hf n1 n0 u u1 (u / n1) (u % n1):=by
 have h0:0 < n1:=by omega
 refine ⟨n1a,n1b,n0b,u1b,ub,by rw [Nat.mul_comm];exact Nat.mod_add_div u n1,?_,?_,by have:=Nat.mod_lt u h0;omega⟩
 ·rw [Nat.le_div_iff_mul_le h0]
  have h1:(u * 4294967296 + u1) / (n1 * 4294967296 + n0) ≤ (u * 4294967296 + u1) / (n1 * 4294967296):=Nat.div_le_div_left (by omega) (by omega)
  have h2:(u * 4294967296 + u1) / (n1 * 4294967296) = u / n1:=by
   have h3:(u * 4294967296 + u1) / 4294967296 = u:=by omega
   have h4:=Nat.div_div_eq_div_mul (u * 4294967296 + u1) 4294967296 n1
   rw [h3] at h4
   rw [Nat.mul_comm n1];exact h4.symm
  rw [h2] at h1
  exact Nat.le_trans (Nat.mul_le_mul_right _ h1) (Nat.div_mul_le_self u n1)
 ·have:u / n1 < 4294967298:=by
   rw [Nat.div_lt_iff_lt_mul h0]
   omega
  omega
variable {n1 n0 u u1 q r:Nat}
theorem Hf.mulb (h:Hf n1 n0 u u1 q r):q * n0 < 18446744073709551616:=by
 have h1:q * n0 ≤ 4294967297 * 4294967295:=Nat.mul_le_mul h.q2 (by have:=h.n0b;omega)
 omega
theorem Hf.goal (h:Hf n1 n0 u u1 q r):q * n0 ≤ 4294967296 * r + u1 ↔ q * (n1 * 4294967296 + n0) ≤ u * 4294967296 + u1:=by
 have h1:=h.eq
 rw [Nat.mul_add,← Nat.mul_assoc]
 omega
theorem Hf.less (h:Hf n1 n0 u u1 q r) (hc:¬ (q < 4294967296∧q * n0 ≤ 4294967296 * r + u1)):1 ≤ q∧(u * 4294967296 + u1) / (n1 * 4294967296 + n0) ≤ q - 1∧q - 1 ≤ 4294967296∧(r + n1) + (q - 1) * n1 = u:=by
 have h1:=h.n1a
 have hlt:(u * 4294967296 + u1) / (n1 * 4294967296 + n0) < q:=by
  rw [Nat.div_lt_iff_lt_mul (by omega)]
  by_cases h2:q < 4294967296
  ·have h3:¬ q * (n1 * 4294967296 + n0) ≤ u * 4294967296 + u1:=fun h4=>hc ⟨h2,h.goal.2 h4⟩
   omega
  ·have h3:4294967296 * (n1 * 4294967296 + n0) ≤ q * (n1 * 4294967296 + n0):=Nat.mul_le_mul_right _ (by omega)
   have:=h.ub;have:=h.u1b
   omega
 have hq:1 ≤ q:=Nat.lt_of_le_of_lt (Nat.zero_le _) hlt
 refine ⟨hq,Nat.le_sub_one_of_lt hlt,by have:=h.q2;omega,?_⟩
 have h5:=h.eq
 obtain ⟨m,rfl⟩ : ∃ m,q = m + 1:=⟨q - 1,by omega⟩
 rw [Nat.add_mul] at h5
 simp only [Nat.add_sub_cancel]
 omega
theorem Hf.next (h:Hf n1 n0 u u1 q r) (hc:¬ (q < 4294967296∧q * n0 ≤ 4294967296 * r + u1)) (hr:r + n1 < 4294967296):Hf n1 n0 u u1 (q - 1) (r + n1):=by
 obtain ⟨h1,h2,h3,h4⟩:=h.less hc
 exact ⟨h.n1a,h.n1b,h.n0b,h.u1b,h.ub,h4,h2,by omega,hr⟩
theorem Hf.done (h:Hf n1 n0 u u1 q r) (hc:q < 4294967296∧q * n0 ≤ 4294967296 * r + u1):q = (u * 4294967296 + u1) / (n1 * 4294967296 + n0):=by
 have h1:=h.goal.1 hc.2
 have:=h.n1a
 exact Nat.le_antisymm ((Nat.le_div_iff_mul_le (by omega)).2 h1) h.q1
theorem Hf.brk (h:Hf n1 n0 u u1 q r) (hc:¬ (q < 4294967296∧q * n0 ≤ 4294967296 * r + u1)) (hr:¬ r + n1 < 4294967296):q - 1 = (u * 4294967296 + u1) / (n1 * 4294967296 + n0):=by
 obtain ⟨h1,h2,h3,h4⟩:=h.less hc
 have:=h.n1a
 refine Nat.le_antisymm ((Nat.le_div_iff_mul_le (by omega)).2 ?_) h2
 have h5:(q - 1) * n0 ≤ 4294967296 * 4294967295:=Nat.mul_le_mul h3 (by have:=h.n0b;omega)
 rw [Nat.mul_add,← Nat.mul_assoc]
 omega
theorem Hf.qlt (u1b:u1 < 4294967296) (ub:u < n1 * 4294967296 + n0):(u * 4294967296 + u1) / (n1 * 4294967296 + n0) < 4294967296:=by
 rw [Nat.div_lt_iff_lt_mul (by omega)]
 omega
theorem div_one {V a u0:Nat} (hV:0 < V):(a * 4294967296 + u0) / V = a / V * 4294967296 + (a % V * 4294967296 + u0) / V∧(a * 4294967296 + u0) % V = (a % V * 4294967296 + u0) % V:=by
 have e:a * 4294967296 + u0 = V * (a / V * 4294967296) + (a % V * 4294967296 + u0):=by
  have h1:=Nat.div_add_mod a V
  rw [← Nat.mul_assoc,← Nat.add_assoc,← Nat.add_mul,h1]
 rw [e]
 exact ⟨Nat.mul_add_div hV _ _,Nat.mul_add_mod _ _ _⟩
theorem div_up {a y p:Nat} (hp:0 < p):a * p / (y * p) = a / y∧a * p % (y * p) = a % y * p:=⟨Nat.mul_div_mul_right _ _ hp,Nat.mul_mod_mul_right _ _ _⟩
end Go.Art
namespace Go.Art
open Go Go.Proofs
def renMul:Shelf.Ren:=
{
 f:=fun x=>
  match x with
  | 264=>287
  | n=>n,
 t:=fun x=>
  match x with
  | 53=>145
  | 46=>230
  | n=>n,
 g:=fun x=>
  have n:=x;
  n }
theorem laysMul:Lays.n264 Tryz.prog renMul:=
{mixed:=Eq.refl true,f264:=Eq.trans Tryz.func287 (congrArg some (Eq.refl (Body.n264 renMul))),
 t46:=Tryz.underlying230,a46:=Tryz.isAgg230,z46:=Tryz.sizeOf230,v46:=Tryz.zeroValue230,
 t53:=Tryz.underlying145,a53:=Tryz.isAgg145,z53:=Tryz.sizeOf145,v53:=Tryz.zeroValue145 }
open Go Go.Proofs
def renLen:Shelf.Ren:=
{
 f:=fun x=>
  match x with
  | 129=>186
  | n=>n,
 t:=fun x=>
  match x with
  | 53=>145
  | 3=>3
  | 4=>4
  | 46=>230
  | 5=>5
  | 9=>9
  | n=>n,
 g:=fun x=>
  have n:=x;
  n }
theorem laysLen:Lays.n129 Tryz.prog renLen:=
{mixed:=Eq.refl true,f129:=Eq.trans Tryz.func186 (congrArg some (Eq.refl (Body.n129 renLen))),
 t3:=Tryz.underlying3,a3:=Tryz.isAgg3,z3:=Tryz.sizeOf3,v3:=Tryz.zeroValue3,t4:=Tryz.underlying4,
 a4:=Tryz.isAgg4,z4:=Tryz.sizeOf4,v4:=Tryz.zeroValue4,t5:=Tryz.underlying5,a5:=Tryz.isAgg5,
 z5:=Tryz.sizeOf5,v5:=Tryz.zeroValue5,t9:=Tryz.underlying9,a9:=Tryz.isAgg9,z9:=Tryz.sizeOf9,
 v9:=Tryz.zeroValue9,t46:=Tryz.underlying230,a46:=Tryz.isAgg230,z46:=Tryz.sizeOf230,
 v46:=Tryz.zeroValue230,t53:=Tryz.underlying145,a53:=Tryz.isAgg145,z53:=Tryz.sizeOf145,
 v53:=Tryz.zeroValue145 }
open Go Go.Proofs
def renLz:Shelf.Ren:=
{
 f:=fun x=>
  match x with
  | 134=>252
  | 129=>186
  | n=>n,
 t:=fun x=>
  match x with
  | 53=>145
  | 3=>3
  | 4=>4
  | 46=>230
  | 5=>5
  | 9=>9
  | n=>n,
 g:=fun x=>
  have n:=x;
  n }
theorem laysLz:Lays.n134 Tryz.prog renLz:=
{mixed:=Eq.refl true,f129:=Eq.trans Tryz.func186 (congrArg some (Eq.refl (Body.n129 renLz))),
 f134:=Eq.trans Tryz.func252 (congrArg some (Eq.refl (Body.n134 renLz))),t3:=Tryz.underlying3,
 a3:=Tryz.isAgg3,z3:=Tryz.sizeOf3,v3:=Tryz.zeroValue3,t4:=Tryz.underlying4,a4:=Tryz.isAgg4,
 z4:=Tryz.sizeOf4,v4:=Tryz.zeroValue4,t5:=Tryz.underlying5,a5:=Tryz.isAgg5,z5:=Tryz.sizeOf5,
 v5:=Tryz.zeroValue5,t9:=Tryz.underlying9,a9:=Tryz.isAgg9,z9:=Tryz.sizeOf9,v9:=Tryz.zeroValue9,
 t46:=Tryz.underlying230,a46:=Tryz.isAgg230,z46:=Tryz.sizeOf230,v46:=Tryz.zeroValue230,
 t53:=Tryz.underlying145,a53:=Tryz.isAgg145,z53:=Tryz.sizeOf145,v53:=Tryz.zeroValue145 }
open Go Go.Proofs Go.RowKit
abbrev Un (n:Nat):Value:=.int .u64 (n:Int)
abbrev Us (l:List Nat):List Value:=l.map Un
theorem Us_len (l:List Nat):(Us l).length = l.length:=List.length_map ..
theorem Us_get (l:List Nat) (i:Nat) (h:i < l.length):(Us l)[i]? = some (Un (l.getD i 0)):=by simp [List.getD_eq_getElem?_getD,h]
theorem Us_set (l:List Nat) (i:Nat) (c:Nat):Us (l.set i c) = (Us l).set i (Un c):=by simp [List.map_set]
theorem Us_one (l:List Nat):∀ c ∈ Us l,c.oneCell' = true:=fun c hc=>by obtain ⟨x,_,rfl⟩:=List.mem_map.1 hc;rfl
theorem Us_app (l m:List Nat):Us (l ++ m) = Us l ++ Us m:=List.map_append ..
theorem Us_rep (n:Nat) (x:Nat):List.replicate n (Un x) = Us (List.replicate n x):=by simp
theorem Us_sub (l:List Nat) (lo hi:Nat):((Us l).take hi).drop lo = Us ((l.take hi).drop lo):=by simp [List.map_take,List.map_drop]
theorem Us_take (l:List Nat) (i:Nat):(Us l).take i = Us (l.take i):=by simp [List.map_take]
theorem Us_drop (l:List Nat) (i:Nat):(Us l).drop i = Us (l.drop i):=by simp [List.map_drop]
section
variable {P:Program} {E:Env P} {n:Sh} {X:Cx} {s:List K} {fr:Fr} {A A':List Ch} {ops:Array Oper} {rest:List Oper} {d:Nat} {ty t t':TypeId} {pos:String} {after:Array Edge} {x y:Operand} {w:World} {a b c j by_:Nat} {z v u:Value} {el:TypeId} {dt:TypeDesc} {l:List Nat} {c0:Code}
theorem ev_lit (m:Nat):ev fr (.const (.int .u64 (@OfNat.ofNat Int m instOfNat))) = some (Un (@OfNat.ofNat Nat m (instOfNatNat m))):=rfl
theorem wrapN (m:Int) (k:Nat) (h:m % 18446744073709551616 = (k:Int)):(Value.int .u64 (IntKind.u64.wrap m)) = Un k:=by rw [Go.IntKind.wrap_u64,h]
theorem R_nadd (hx:ev fr x = some (Un a)) (hy:ev fr y = some (Un b)):OpV P n fr (.binOp .add t x y t') ty w (Un ((a + b) % 18446744073709551616)) w:=R_bin hx hy (by
 show Result.ok (Value.int .u64 (IntKind.u64.wrap ((a:Int) + (b:Int)))) w = _
 rw [wrapN _ ((a + b) % 18446744073709551616) (by omega)])
theorem R_nsub (hx:ev fr x = some (Un a)) (hy:ev fr y = some (Un b)) (h:b < 18446744073709551616):OpV P n fr (.binOp .sub t x y t') ty w (Un ((a + 18446744073709551616 - b) % 18446744073709551616)) w:=R_bin hx hy (by
 show Result.ok (Value.int .u64 (IntKind.u64.wrap ((a:Int) - (b:Int)))) w = _
 rw [wrapN _ ((a + 18446744073709551616 - b) % 18446744073709551616) (by omega)])
theorem R_nmul (hx:ev fr x = some (Un a)) (hy:ev fr y = some (Un b)):OpV P n fr (.binOp .mul t x y t') ty w (Un (a * b % 18446744073709551616)) w:=R_bin hx hy (by
 show Result.ok (Value.int .u64 (IntKind.u64.wrap ((a:Int) * (b:Int)))) w = _
 rw [wrapN _ (a * b % 18446744073709551616) (by rw [← Int.natCast_mul];omega)])
theorem bv64 {k:Nat} (h:k < 18446744073709551616):(BitVec.ofInt 64 (k:Int)).toNat = k:=by
 rw [BitVec.ofInt_natCast,BitVec.toNat_ofNat];exact Nat.mod_eq_of_lt (by omega)
theorem R_nand (hx:ev fr x = some (Un a)) (hy:ev fr y = some (Un b)) (ha:a < 18446744073709551616) (hb:b < 18446744073709551616):OpV P n fr (.binOp .and t x y t') ty w (Un (a &&& b)) w:=R_bin hx hy (by
 show Result.ok (Value.int .u64 (IntKind.u64.wrap ((BitVec.ofInt 64 (a:Int) &&& BitVec.ofInt 64 (b:Int)).toNat:Int))) w = _
 have hx:a &&& b < 2 ^ 64:=Nat.and_lt_two_pow _ (by omega)
 rw [BitVec.toNat_and,bv64 ha,bv64 hb,wrapN _ (a &&& b) (by omega)])
theorem R_nor (hx:ev fr x = some (Un a)) (hy:ev fr y = some (Un b)) (ha:a < 18446744073709551616) (hb:b < 18446744073709551616):OpV P n fr (.binOp .or t x y t') ty w (Un (a ||| b)) w:=R_bin hx hy (by
 show Result.ok (Value.int .u64 (IntKind.u64.wrap ((BitVec.ofInt 64 (a:Int) ||| BitVec.ofInt 64 (b:Int)).toNat:Int))) w = _
 have hx:a ||| b < 2 ^ 64:=Nat.or_lt_two_pow (by omega) (by omega)
 rw [BitVec.toNat_or,bv64 ha,bv64 hb,wrapN _ (a ||| b) (by omega)])
theorem R_nshl {k':IntKind} {c:Int} (hx:ev fr x = some (Un a)) (hy:ev fr y = some (.int k' c)) (hc:0 ≤ c):OpV P n fr (.binOp .shl t x y t') ty w (Un (a * 2 ^ (min c.toNat 64) % 18446744073709551616)) w:=⟨fun act ha _ _ _ _=>by
 have hg:(eqGuard .shl t x y (Un a) (.int k' c)).run P w = .ok () w:=rfl
 have h1:¬ c < 0:=by omega
 simp only [execOp,ha.ev hx,ha.ev hy]
 simp only [hg,Sem.run_bind,Result.andThen_ok]
 show (Result.andThen ((binOp .shl t (Un a) (.int k' c)).run P w) _) = _
 simp only [binOp,Op.shift,h1,if_false]
 show Result.ok (Next.value (.int .u64 (IntKind.u64.wrap ((a:Int) * 2 ^ (min c.toNat 64))))) w = _
 rw [wrapN _ (a * 2 ^ (min c.toNat 64) % 18446744073709551616) (by
  have e:(a:Int) * 2 ^ (min c.toNat 64) = ((a * 2 ^ (min c.toNat 64):Nat):Int):=by rw [Int.natCast_mul,Int.natCast_pow];rfl
  rw [e];omega)]⟩
theorem R_nshr {k':IntKind} {c:Int} (hx:ev fr x = some (Un a)) (hy:ev fr y = some (.int k' c)) (hc:0 ≤ c):OpV P n fr (.binOp .shr t x y t') ty w (Un (a / 2 ^ (min c.toNat 64))) w:=⟨fun act ha _ _ _ _=>by
 have hg:(eqGuard .shr t x y (Un a) (.int k' c)).run P w = .ok () w:=rfl
 have h1:¬ c < 0:=by omega
 have h3:(a:Int).fdiv (2 ^ (min c.toNat 64)) = ((a / 2 ^ (min c.toNat 64):Nat):Int):=by
  rw [Int.fdiv_eq_ediv_of_nonneg _ (Int.le_of_lt (Int.pow_pos (by decide))),Int.natCast_ediv,Int.natCast_pow];rfl
 simp only [execOp,ha.ev hx,ha.ev hy]
 simp only [hg,Sem.run_bind,Result.andThen_ok]
 show (Result.andThen ((binOp .shr t (Un a) (.int k' c)).run P w) _) = _
 simp only [binOp,Op.shift,h1,if_false]
 show Result.ok (Next.value (.int .u64 ((a:Int).fdiv (2 ^ (min c.toNat 64))))) w = _
 rw [h3]⟩
theorem R_nquo (hx:ev fr x = some (Un a)) (hy:ev fr y = some (Un b)) (h:b ≠ 0) (ha:a < 18446744073709551616):OpV P n fr (.binOp .quo t x y t') ty w (Un (a / b)) w:=by
 have h1:=R_quo (P:=P) (n:=n) (w:=w) (t:=t) (t':=t') (ty:=ty) hx hy (by omega)
 have h2:a / b ≤ a:=Nat.div_le_self _ _
 rw [Int.tdiv_eq_ediv_of_nonneg (by omega),← Int.natCast_ediv,wrapN _ (a / b) (by generalize a / b = q at h2 ⊢;omega)] at h1
 exact h1
theorem R_nrem (hx:ev fr x = some (Un a)) (hy:ev fr y = some (Un b)) (h:b ≠ 0):OpV P n fr (.binOp .rem t x y t') ty w (Un (a % b)) w:=by
 have h1:=R_rem (P:=P) (n:=n) (w:=w) (t:=t) (t':=t') (ty:=ty) hx hy (by omega)
 rw [Int.tmod_eq_emod_of_nonneg (by omega),← Int.natCast_emod] at h1
 exact h1
/-! sums, with and without a carry out of the word -/
theorem nad (k:TO E n X s ops rest ((d,Un (a + b)) :: fr) A) (hx:ev fr x = some (Un a):=by first | with_reducible exact ev_lit _ | rfl) (hy:ev fr y = some (Un b):=by first | with_reducible exact ev_lit _ | rfl) (hb:a + b < 18446744073709551616:=by omega) (hd:Nat.blt d n.n = true:=by rfl):TO E n X s ops (⟨some d,.binOp .add t x y t',ty,pos,after,none⟩ :: rest) fr A:=
 TO.val (fun _ _=>by have:=R_nadd (P:=P) (n:=n) (w:=‹World›) (t:=t) (t':=t') (ty:=ty) hx hy;rwa [Nat.mod_eq_of_lt hb] at this) k hd
theorem nsb (k:TO E n X s ops rest ((d,Un (a - b)) :: fr) A) (hx:ev fr x = some (Un a):=by first | with_reducible exact ev_lit _ | rfl) (hy:ev fr y = some (Un b):=by first | with_reducible exact ev_lit _ | rfl) (hb:b ≤ a∧a < 18446744073709551616:=by omega) (hd:Nat.blt d n.n = true:=by rfl):TO E n X s ops (⟨some d,.binOp .sub t x y t',ty,pos,after,none⟩ :: rest) fr A:=
 TO.val (fun _ _=>by have:=R_nsub (P:=P) (n:=n) (w:=‹World›) (t:=t) (t':=t') (ty:=ty) hx hy (by omega);rwa [show (a + 18446744073709551616 - b) % 18446744073709551616 = a - b by omega] at this) k hd
theorem nsbm (k:TO E n X s ops rest ((d,Un ((a + 18446744073709551616 - b) % 18446744073709551616)) :: fr) A) (hx:ev fr x = some (Un a):=by first | with_reducible exact ev_lit _ | rfl) (hy:ev fr y = some (Un b):=by first | with_reducible exact ev_lit _ | rfl) (hb:b < 18446744073709551616:=by omega) (hd:Nat.blt d n.n = true:=by rfl):TO E n X s ops (⟨some d,.binOp .sub t x y t',ty,pos,after,none⟩ :: rest) fr A:=TO.val (fun _ _=>R_nsub hx hy hb) k hd
theorem nml (k:TO E n X s ops rest ((d,Un (a * b)) :: fr) A) (hx:ev fr x = some (Un a):=by first | with_reducible exact ev_lit _ | rfl) (hy:ev fr y = some (Un b):=by first | with_reducible exact ev_lit _ | rfl) (hb:a * b < 18446744073709551616:=by first | assumption | omega) (hd:Nat.blt d n.n = true:=by rfl):TO E n X s ops (⟨some d,.binOp .mul t x y t',ty,pos,after,none⟩ :: rest) fr A:=
 TO.val (fun _ _=>by have:=R_nmul (P:=P) (n:=n) (w:=‹World›) (t:=t) (t':=t') (ty:=ty) hx hy;rwa [Nat.mod_eq_of_lt hb] at this) k hd
theorem nmlm (k:TO E n X s ops rest ((d,Un (a * b % 18446744073709551616)) :: fr) A) (hx:ev fr x = some (Un a):=by first | with_reducible exact ev_lit _ | rfl) (hy:ev fr y = some (Un b):=by first | with_reducible exact ev_lit _ | rfl) (hd:Nat.blt d n.n = true:=by rfl):TO E n X s ops (⟨some d,.binOp .mul t x y t',ty,pos,after,none⟩ :: rest) fr A:=TO.val (fun _ _=>R_nmul hx hy) k hd
theorem nmk (k:TO E n X s ops rest ((d,Un (a % 4294967296)) :: fr) A) (hx:ev fr x = some (Un a):=by first | with_reducible exact ev_lit _ | rfl) (hy:ev fr y = some (Un 4294967295):=by rfl) (ha:a < 18446744073709551616:=by omega) (hd:Nat.blt d n.n = true:=by rfl):TO E n X s ops (⟨some d,.binOp .and t x y t',ty,pos,after,none⟩ :: rest) fr A:=
 TO.val (fun _ _=>by have:=R_nand (P:=P) (n:=n) (w:=‹World›) (t:=t) (t':=t') (ty:=ty) hx hy ha (by decide);rwa [show a &&& 4294967295 = a % 4294967296 from Nat.and_two_pow_sub_one_eq_mod a 32] at this) k hd
theorem nor (k:TO E n X s ops rest ((d,Un (a ||| b)) :: fr) A) (hx:ev fr x = some (Un a):=by first | with_reducible exact ev_lit _ | rfl) (hy:ev fr y = some (Un b):=by first | with_reducible exact ev_lit _ | rfl) (ha:a < 18446744073709551616:=by omega) (hb:b < 18446744073709551616:=by omega) (hd:Nat.blt d n.n = true:=by rfl):TO E n X s ops (⟨some d,.binOp .or t x y t',ty,pos,after,none⟩ :: rest) fr A:=TO.val (fun _ _=>R_nor hx hy ha hb) k hd
theorem nsl {k':IntKind} {c:Int} (k:TO E n X s ops rest ((d,Un (a * 2 ^ (min c.toNat 64) % 18446744073709551616)) :: fr) A) (hx:ev fr x = some (Un a):=by first | with_reducible exact ev_lit _ | rfl) (hy:ev fr y = some (.int k' c):=by rfl) (hc:0 ≤ c:=by omega) (hd:Nat.blt d n.n = true:=by rfl):TO E n X s ops (⟨some d,.binOp .shl t x y t',ty,pos,after,none⟩ :: rest) fr A:=TO.val (fun _ _=>R_nshl hx hy hc) k hd
theorem nsr {k':IntKind} {c:Int} (k:TO E n X s ops rest ((d,Un (a / 2 ^ (min c.toNat 64))) :: fr) A) (hx:ev fr x = some (Un a):=by first | with_reducible exact ev_lit _ | rfl) (hy:ev fr y = some (.int k' c):=by rfl) (hc:0 ≤ c:=by omega) (hd:Nat.blt d n.n = true:=by rfl):TO E n X s ops (⟨some d,.binOp .shr t x y t',ty,pos,after,none⟩ :: rest) fr A:=TO.val (fun _ _=>R_nshr hx hy hc) k hd
theorem nqu (k:TO E n X s ops rest ((d,Un (a / b)) :: fr) A) (hx:ev fr x = some (Un a):=by first | with_reducible exact ev_lit _ | rfl) (hy:ev fr y = some (Un b):=by first | with_reducible exact ev_lit _ | rfl) (h:b ≠ 0:=by omega) (ha:a < 18446744073709551616:=by omega) (hd:Nat.blt d n.n = true:=by rfl):TO E n X s ops (⟨some d,.binOp .quo t x y t',ty,pos,after,none⟩ :: rest) fr A:=TO.val (fun _ _=>R_nquo hx hy h ha) k hd
theorem ntu {k0:IntKind} {m:Int} (k:TO E n X s ops rest ((d,Un m.toNat) :: fr) A) (hx:ev fr x = some (.int k0 m):=by rfl) (hs:(lk E.und t).isSome = true:=by rfl) (ht:lk E.und t' = some (.int .u64):=by rfl) (hb:0 ≤ m∧m < 18446744073709551616:=by omega) (hd:Nat.blt d n.n = true:=by rfl):TO E n X s ops (⟨some d,.convert t t' x,ty,pos,after,none⟩ :: rest) fr A:=
 TO.val (fun _ _=>by have:=R_conv (P:=P) (n:=n) (w:=‹World›) (ty:=ty) ht hs hx;rwa [wrapN m m.toNat (by omega)] at this) k hd
theorem qnqu (k:TQ E n X s ops rest ((d,Un (a / b)) :: fr) A) (hx:ev fr x = some (Un a):=by first | with_reducible exact ev_lit _ | rfl) (hy:ev fr y = some (Un b):=by first | with_reducible exact ev_lit _ | rfl) (h:b ≠ 0:=by omega) (ha:a < 18446744073709551616:=by omega) (hd:Nat.blt d n.n = true:=by rfl):TQ E n X s ops (⟨some d,.binOp .quo t x y t',ty,pos,after,none⟩ :: rest) fr A:=TQ.val (fun _ _=>R_nquo hx hy h ha) k hd
theorem qnrm (k:TQ E n X s ops rest ((d,Un (a % b)) :: fr) A) (hx:ev fr x = some (Un a):=by first | with_reducible exact ev_lit _ | rfl) (hy:ev fr y = some (Un b):=by first | with_reducible exact ev_lit _ | rfl) (h:b ≠ 0:=by omega) (hd:Nat.blt d n.n = true:=by rfl):TQ E n X s ops (⟨some d,.binOp .rem t x y t',ty,pos,after,none⟩ :: rest) fr A:=TQ.val (fun _ _=>R_nrem hx hy h) k hd
theorem qnsl {k':IntKind} {c:Int} (k:TQ E n X s ops rest ((d,Un (a * 2 ^ (min c.toNat 64) % 18446744073709551616)) :: fr) A) (hx:ev fr x = some (Un a):=by first | with_reducible exact ev_lit _ | rfl) (hy:ev fr y = some (.int k' c):=by rfl) (hc:0 ≤ c:=by omega) (hd:Nat.blt d n.n = true:=by rfl):TQ E n X s ops (⟨some d,.binOp .shl t x y t',ty,pos,after,none⟩ :: rest) fr A:=TQ.val (fun _ _=>R_nshl hx hy hc) k hd
theorem qnsr {k':IntKind} {c:Int} (k:TQ E n X s ops rest ((d,Un (a / 2 ^ (min c.toNat 64))) :: fr) A) (hx:ev fr x = some (Un a):=by first | with_reducible exact ev_lit _ | rfl) (hy:ev fr y = some (.int k' c):=by rfl) (hc:0 ≤ c:=by omega) (hd:Nat.blt d n.n = true:=by rfl):TQ E n X s ops (⟨some d,.binOp .shr t x y t',ty,pos,after,none⟩ :: rest) fr A:=TQ.val (fun _ _=>R_nshr hx hy hc) k hd
/-! digits in slices -/
theorem lu (k:TO E n X s ops rest ((d,Un (l.getD j 0)) :: fr) A) (hx:ev fr x = some (.pointer (some (addrAt v j))):=by rfl) (hh:Has A (vw v (Us l)):=by exact hasA) (hj:j < l.length:=by omega)
  (ht:lk E.und t = some dt:=by rfl) (hg:aggB dt = false:=by rfl) (hd:Nat.blt d n.n = true:=by rfl):TO E n X s ops (⟨some d,.load t x,ty,pos,after,none⟩ :: rest) fr A:=le k hx hh (Us_get l j hj) ht hg hd
theorem lue (he:l.getD j 0 = a) (k:TO E n X s ops rest ((d,Un a) :: fr) A) (hx:ev fr x = some (.pointer (some (addrAt v j))):=by rfl) (hh:Has A (vw v (Us l)):=by exact hasA) (hj:j < l.length:=by omega)
  (ht:lk E.und t = some dt:=by rfl) (hg:aggB dt = false:=by rfl) (hd:Nat.blt d n.n = true:=by rfl):TO E n X s ops (⟨some d,.load t x,ty,pos,after,none⟩ :: rest) fr A:=lu (l:=l) (by rw [he];exact k) hx hh hj ht hg hd
theorem qlu (k:TQ E n X s ops rest ((d,Un (l.getD j 0)) :: fr) A) (hx:ev fr x = some (.pointer (some (addrAt v j))):=by rfl) (hh:Has A (vw v (Us l)):=by exact hasA) (hj:j < l.length:=by omega)
  (ht:lk E.und t = some dt:=by rfl) (hg:aggB dt = false:=by rfl) (hd:Nat.blt d n.n = true:=by rfl):TQ E n X s ops (⟨some d,.load t x,ty,pos,after,none⟩ :: rest) fr A:=qle k hx hh (Us_get l j hj) ht hg hd
theorem sou (k:TO E n X s ops rest fr (own el v (Us (l.set j a)) :: A')) (hx:ev fr x = some (.pointer (some (addrAt v j))):=by rfl) (hm:Tk (own el v (Us l)) A A':=by exact tkA) (hy:ev fr y = some (Un a):=by first | with_reducible exact ev_lit _ | rfl)
  (hj:j < l.length:=by omega) (ht:lk E.inf t = some (z,1,by_):=by rfl):TO E n X s ops (⟨none,.store t x y,ty,pos,after,none⟩ :: rest) fr A:=so k hx hm hy (by rw [Us_len];exact hj) (Us_set l j a) rfl ht
theorem apu {news:List Nat} {e:TypeId} (k:∀ v',TO E n X s ops rest ((d,v') :: fr) (own e v' (Us (l ++ news)) :: A')) (hx:ev fr x = some v:=by rfl) (hy:ev fr y = some u:=by rfl) (hm:Tk (own e v (Us l)) A A':=by exact tkA) (hu:Has A' (vw u (Us news)):=by exact hasA)
  (hl:l.length + news.length ≤ 17592186044416:=by first | omega | (simp only [List.length_append,List.length_cons,List.length_nil];omega)) (ht:lk E.und t = some (.slice e):=by rfl) (he:lk E.inf e = some (z,1,by_):=by rfl) (hz:z.cells.size = 1:=by rfl) (hb:by_ ≤ 8:=by decide)
  (hd:Nat.blt d n.n = true:=by rfl):TO E n X s ops (⟨some d,.call ⟨.builtin .append,#[x,y],#[t,t]⟩,ty,pos,after,none⟩ :: rest) fr A:=
 ap (fun v'=>by have:=k v';rwa [Us_app] at this) hx hy hm hu (Us_one news) ht he hz (by rw [Us_len,Us_len];have:=Nat.mul_le_mul hl hb;omega) (by rw [Us_len,Us_len];omega) hd
theorem mku {k1:IntKind} {m:Int} {e:TypeId} (k:∀ v',TO E n X s ops rest ((d,v') :: fr) (own e v' (Us (List.replicate m.toNat 0)) :: A)) (hx:ev fr x = some (.int k1 m):=by rfl) (hy:ev fr y = some (.int k1 m):=by rfl) (ht:lk E.und t = some (.slice e):=by rfl)
  (he:lk E.inf e = some (Un 0,1,by_):=by rfl) (h0:0 ≤ m:=by omega) (hby:by_ * m.toNat ≤ 281474976710656:=by omega) (h63:m ≤ 9223372036854775807:=by omega) (hd:Nat.blt d n.n = true:=by rfl) :
  TO E n X s ops (⟨some d,.makeSlice t x y,ty,pos,after,none⟩ :: rest) fr A:=mk (fun v'=>by have:=k v';rwa [← Us_rep] at this) hx hy ht he rfl h0 hby h63 hd
theorem slu {m:Nat} {parts:List (Nat × Operand)} {e:TypeId} (l:List Nat) (k:∀ v',v'.oneCell' = true→TO E n X s ops rest ((d,v') :: fr) (own e v' (Us l) :: A)) (hp:parts = idxP 0 (parts.map (·.2)):=by rfl) (hv:evs fr (parts.map (·.2)) = some (Us l):=by rfl)
  (hk:l.length = m:=by rfl) (hk0:Nat.blt 0 m = true:=by rfl) (hkm:Nat.ble m 16777216 = true:=by rfl) (ht:lk E.und t = some (.slice e):=by rfl) (he:lk E.inf e = some (z,1,by_):=by rfl) (hd:Nat.blt d n.n = true:=by rfl) :
  TO E n X s ops (⟨some d,.buildSlice t m parts.toArray,ty,pos,after,none⟩ :: rest) fr A:=sli (fun v=>TO.one (v:=v) (xs:=Us l) (fun h=>k v h) hasA) hp hv (Us_one l) (by rw [Us_len];exact hk) hk0 hkm ht he hd
theorem TC.lenu (k:l.length ≤ 9223372036854775807→TC E n X s c0 fr A) (hh:Has A (vw v (Us l)):=by exact hasA):TC E n X s c0 fr A:=TC.fact (vw_len hh) fun h=>k (by rwa [Us_len] at h)
theorem R_cx {f:FuncId} {xs:List Operand} {ats:Array TypeId} {vs:List Value} (hf:∀ w,(callFunc f vs.toArray).run P w = .ok (.value v) w) (hv:evs fr xs = some vs):OpV P n fr (.call ⟨.value (.func f),xs.toArray,ats⟩) ty w v w:=⟨fun act ha _ _ _ _=>by
 have h1:=hf w
 have h2:(Array.map act.eval xs.toArray) = vs.toArray:=by simp [ha.evs hv]
 simp only [execOp,resolve,h2]
 show (Sem.run P ((Deferred.ofValue (.func (.func f) #[] #[]) vs.toArray).bind fun d=>invoke d.target d.args) w) = _
 simp only [Deferred.ofValue]
 simp [invoke,h1,Sem.bind,bind,pure]⟩
theorem cx {f:FuncId} {xs:List Operand} {ats:Array TypeId} {vs:List Value} (hf:∀ w,(callFunc f vs.toArray).run P w = .ok (.value v) w) (k:TO E n X s ops rest ((d,v) :: fr) A) (hv:evs fr xs = some vs:=by rfl) (hd:Nat.blt d n.n = true:=by rfl):TO E n X s ops (⟨some d,.call ⟨.value (.func f),xs.toArray,ats⟩,ty,pos,after,none⟩ :: rest) fr A:=
 TO.val (fun _ _=>R_cx hf hv) k hd
end
/-! .. with the outcome named -/
section
variable {P:Program} {E:Env P} {n:Sh} {X:Cx} {s:List K} {fr:Fr} {A:List Ch} {ops:Array Oper} {rest:List Oper} {d:Nat} {ty t t':TypeId} {pos:String} {after:Array Edge} {x y:Operand} {a b r:Nat} {k':IntKind} {c:Int} {o:Op} {v u:Value}
theorem nsbe (he:(a + 18446744073709551616 - b) % 18446744073709551616 = r) (k:TO E n X s ops rest ((d,Un r) :: fr) A) (hx:ev fr x = some (Un a):=by first | with_reducible exact ev_lit _ | rfl) (hy:ev fr y = some (Un b):=by first | with_reducible exact ev_lit _ | rfl) (hb:b < 18446744073709551616:=by omega) (hd:Nat.blt d n.n = true:=by rfl):TO E n X s ops (⟨some d,.binOp .sub t x y t',ty,pos,after,none⟩ :: rest) fr A:=nsbm (by rw [he];exact k) hx hy hb hd
theorem nmle (he:a * b % 18446744073709551616 = r) (k:TO E n X s ops rest ((d,Un r) :: fr) A) (hx:ev fr x = some (Un a):=by first | with_reducible exact ev_lit _ | rfl) (hy:ev fr y = some (Un b):=by first | with_reducible exact ev_lit _ | rfl) (hd:Nat.blt d n.n = true:=by rfl):TO E n X s ops (⟨some d,.binOp .mul t x y t',ty,pos,after,none⟩ :: rest) fr A:=nmlm (by rw [he];exact k) hx hy hd
theorem nore (he:a ||| b = r) (k:TO E n X s ops rest ((d,Un r) :: fr) A) (hx:ev fr x = some (Un a):=by first | with_reducible exact ev_lit _ | rfl) (hy:ev fr y = some (Un b):=by first | with_reducible exact ev_lit _ | rfl) (ha:a < 18446744073709551616:=by omega) (hb:b < 18446744073709551616:=by omega) (hd:Nat.blt d n.n = true:=by rfl):TO E n X s ops (⟨some d,.binOp .or t x y t',ty,pos,after,none⟩ :: rest) fr A:=nor (by rw [he];exact k) hx hy ha hb hd
theorem nsle (he:a * 2 ^ (min c.toNat 64) % 18446744073709551616 = r) (k:TO E n X s ops rest ((d,Un r) :: fr) A) (hx:ev fr x = some (Un a):=by first | with_reducible exact ev_lit _ | rfl) (hy:ev fr y = some (.int k' c):=by rfl) (hc:0 ≤ c:=by omega) (hd:Nat.blt d n.n = true:=by rfl):TO E n X s ops (⟨some d,.binOp .shl t x y t',ty,pos,after,none⟩ :: rest) fr A:=nsl (by rw [he];exact k) hx hy hc hd
theorem nsre (he:a / 2 ^ (min c.toNat 64) = r) (k:TO E n X s ops rest ((d,Un r) :: fr) A) (hx:ev fr x = some (Un a):=by first | with_reducible exact ev_lit _ | rfl) (hy:ev fr y = some (.int k' c):=by rfl) (hc:0 ≤ c:=by omega) (hd:Nat.blt d n.n = true:=by rfl):TO E n X s ops (⟨some d,.binOp .shr t x y t',ty,pos,after,none⟩ :: rest) fr A:=nsr (by rw [he];exact k) hx hy hc hd
theorem nmke (he:a % 4294967296 = r) (k:TO E n X s ops rest ((d,Un r) :: fr) A) (hx:ev fr x = some (Un a):=by first | with_reducible exact ev_lit _ | rfl) (hy:ev fr y = some (Un 4294967295):=by rfl) (ha:a < 18446744073709551616:=by omega) (hd:Nat.blt d n.n = true:=by rfl):TO E n X s ops (⟨some d,.binOp .and t x y t',ty,pos,after,none⟩ :: rest) fr A:=nmk (by rw [he];exact k) hx hy ha hd
theorem nque (he:a / b = r) (k:TO E n X s ops rest ((d,Un r) :: fr) A) (hx:ev fr x = some (Un a):=by first | with_reducible exact ev_lit _ | rfl) (hy:ev fr y = some (Un b):=by first | with_reducible exact ev_lit _ | rfl) (h:b ≠ 0:=by omega) (ha:a < 18446744073709551616:=by omega) (hd:Nat.blt d n.n = true:=by rfl):TO E n X s ops (⟨some d,.binOp .quo t x y t',ty,pos,after,none⟩ :: rest) fr A:=nqu (by rw [he];exact k) hx hy h ha hd
end
theorem or_add {a b k:Nat} (hb:b < 2 ^ k):2 ^ k * a ||| b = 2 ^ k * a + b:=(Nat.two_pow_add_eq_or_of_lt hb a).symm
/-! gates: words alone -/
section
variable {P:Program} {E:Env P} {n:Sh} {X:Cx} {s:List K} {fr:Fr} {A:List Ch} {ops:Array Oper} {rest:List Oper} {d:Nat} {ty t':TypeId} {pos:String} {after:Array Edge} {x y:Operand} {op:BinOp}
theorem nao (h:TO E n X s ops (⟨some d,.binOp op 145 x y t',ty,pos,after,none⟩ :: rest) fr A):TO E n X s ops (⟨some d,.binOp op 145 x y t',ty,pos,after,none⟩ :: rest) fr A:=h
theorem naou (h:TO E n X s ops (⟨some d,.binOp op 230 x y t',ty,pos,after,none⟩ :: rest) fr A):TO E n X s ops (⟨some d,.binOp op 230 x y t',ty,pos,after,none⟩ :: rest) fr A:=h
theorem qnao (h:TQ E n X s ops (⟨some d,.binOp op 145 x y t',ty,pos,after,none⟩ :: rest) fr A):TQ E n X s ops (⟨some d,.binOp op 145 x y t',ty,pos,after,none⟩ :: rest) fr A:=h
end
/-! the library's functions of bits -/
def add64 (a b c:Nat):Value:=.tuple #[Un ((a + b + c) % 18446744073709551616),Un ((a + b + c) / 18446744073709551616)]
def sub64 (a b c:Nat):Value:=.tuple #[Un ((a + 18446744073709551616 - b - c) % 18446744073709551616),Un (if a < b + c then 1 else 0)]
theorem call_add64 (a b c:Nat) (hc:c ≤ 1) (w:World):(callFunc 274 #[Un a,Un b,Un c]).run Tryz.prog w = .ok (.value (add64 a b c)) w:=by
 rw [run_callFunc_extern Tryz.func274 (by kernel_rfl) (by kernel_rfl) (by kernel_rfl) (e:=add64Entry) (by kernel_rfl),run_add64 a b c (by omega) (by omega) (by omega) (by omega)]
 simp only [Result.andThen,add64]
 congr 5 <;> omega
theorem call_sub64 (a b c:Nat) (hc:c ≤ 1) (w:World):(callFunc 276 #[Un a,Un b,Un c]).run Tryz.prog w = .ok (.value (sub64 a b c)) w:=by
 rw [run_callFunc_extern Tryz.func276 (by kernel_rfl) (by kernel_rfl) (by kernel_rfl) (e:=sub64Entry) (by kernel_rfl),run_sub64 a b c hc]
 rfl
theorem Tr.of_calls {P:Program} {f:FuncId} {args:List Value} {v:Value} (hc:Callable P f) (h:∀ w,Calls P f args.toArray w fun e w'=>e = .returned v∧w' = w):Tr P f args [] [] fun u D=>u = v∧D = []:=
 ⟨fun w _=>⟨hc,(h w).mono fun e w' ⟨he,hw⟩=>⟨v,he,by subst hw;exact ⟨[],⟨rfl,rfl⟩,Sat.nil _,Mv.refl _ _,fun _ h=>nomatch h⟩⟩⟩,fun _ h=>nomatch h⟩
def mul64 (a b:Nat):Value:=.tuple #[Un (a * b / 18446744073709551616),Un (a * b % 18446744073709551616)]
theorem Mul64_tr (a b:Nat) (ha:a < 18446744073709551616) (hb:b < 18446744073709551616):Tr Tryz.prog 287 [Un a,Un b] [] [] fun v D=>v = mul64 a b∧D = []:=
 Tr.of_calls ⟨_,Tryz.func287,rfl,rfl⟩ fun w=>Any.bits_Mul64 laysMul a b ha hb w
theorem Len64_tr (a:Nat) (ha:a < 18446744073709551616):Tr Tryz.prog 186 [Un a] [] [] fun v D=>v = I (Lib.bitLen a)∧D = []:=
 Tr.of_calls ⟨_,Tryz.func186,rfl,rfl⟩ fun w=>by have:=Any.bits_Len64 laysLen a w (by omega) (by omega);rwa [Int.toNat_natCast] at this
theorem LZ64_tr (a:Nat) (ha:a < 18446744073709551616):Tr Tryz.prog 252 [Un a] [] [] fun v D=>v = I (64 - (Lib.bitLen a:Int))∧D = []:=
 Tr.of_calls ⟨_,Tryz.func252,rfl,rfl⟩ fun w=>by have:=Any.bits_LeadingZeros64 laysLz a w (by omega) (by omega);rwa [Int.toNat_natCast] at this
section
variable {E:Env Tryz.prog} {n:Sh} {X:Cx} {s:List K} {fr:Fr} {A:List Ch} {ops:Array Oper} {rest:List Oper} {d:Nat} {ty:TypeId} {pos:String} {after:Array Edge} {xs:List Operand} {ats:Array TypeId} {a b c:Nat}
theorem cadd (hc:c ≤ 1) (k:TO E n X s ops rest ((d,add64 a b c) :: fr) A) (hv:evs fr xs = some [Un a,Un b,Un c]:=by rfl) (hd:Nat.blt d n.n = true:=by rfl):TO E n X s ops (⟨some d,.call ⟨.value (.func 274),xs.toArray,ats⟩,ty,pos,after,none⟩ :: rest) fr A:=cx (call_add64 a b c hc) k hv hd
theorem csub (hc:c ≤ 1) (k:TO E n X s ops rest ((d,sub64 a b c) :: fr) A) (hv:evs fr xs = some [Un a,Un b,Un c]:=by rfl) (hd:Nat.blt d n.n = true:=by rfl):TO E n X s ops (⟨some d,.call ⟨.value (.func 276),xs.toArray,ats⟩,ty,pos,after,none⟩ :: rest) fr A:=cx (call_sub64 a b c hc) k hv hd
end
end Go.Art
namespace Go.Art
open Go Go.Proofs Go.RowKit
abbrev TN:TypeId:=31
abbrev T64:TypeId:=145
theorem Addr_add0 (a:Addr):a.add 0 = a:=by unfold Addr.add;simp
theorem slSub_all {w:World} {v:Value} {xs:List Value} (h:Sl w v xs):slSub v 0 xs.length = v:=by
 obtain ⟨a,c,rfl,_⟩:=h
 simp only [slSub,Nat.sub_zero]
 cases a with
 | none=>simp
 | some a=>simp [Addr_add0]
theorem slSub_sub (v:Value) (m k:Nat):slSub (slSub v 0 m) 0 k = slSub v 0 k:=by
 cases v with
 | slice a l c=>
  simp only [slSub,Nat.sub_zero]
  cases a with
  | none=>simp
  | some a=>simp [Addr_add0]
 | _=>rfl
theorem has_subu {F:List Ch} {v:Value} {l:List Nat} (h:Has F (vw v (Us l))) {lo hi:Nat} (h1:lo ≤ hi) (h2:hi ≤ l.length):Has F (vw (slSub v lo hi) (Us ((l.take hi).drop lo))):=by
 rw [← Us_sub];exact has_sub h h1 (by simpa using h2)
theorem has_take {F:List Ch} {v:Value} {l:List Nat} (h:Has F (vw v (Us l))) {k:Nat} (h2:k ≤ l.length):Has F (vw (slSub v 0 k) (Us (l.take k))):=has_subu h (Nat.zero_le _) h2
theorem has_drop {F:List Ch} {v:Value} {l:List Nat} (h:Has F (vw v (Us l))) {k:Nat} (h2:k ≤ l.length):Has F (vw (slSub v k l.length) (Us (l.drop k))):=by
 have:=has_subu h h2 (Nat.le_refl _);rwa [List.take_length] at this
theorem im_take (e:TypeId) (v:Value) (l:List Nat) {k:Nat} (h2:k ≤ l.length):Im1 (own e v (Us l)) (own e (slSub v 0 k) (Us (l.take k))):=by
 have:=im_sub e v (Us l) (lo:=0) (hi:=k) (Nat.zero_le _) (by simpa using h2)
 rwa [Us_sub] at this
theorem Has.mono {F G:List Ch} {c:Ch} (h:Has F c) (i:Im G F):Has G c:=⟨fun w hw=>h.P w (i.sat w hw),h.wr,h.rd,fun b hb=>i.ft b (h.ft b hb)⟩
attribute [local irreducible] Fit pt own ro vw mpc lpt vels rels mow lrc dfr
theorem trimmed_tr (v:Value) (l:List Nat):Tr Tryz.prog 185 [v] [vw v (Us l)] [] fun u D=>(∃ k,k ≤ l.length∧u = slSub v 0 k∧nv (l.drop k) = 0∧Tm (l.take k))∧D = []:=by
 refine Tr.enter env _ Tryz.func185 (by kernel_rfl) rfl Tryz.ntmps185 rfl (by repeat (first | exact has00 | refine has01 ?_)) fun w0=>?_
 refine TC.fact (p:=slSub v 0 l.length = v) (fun w hw=>by have:=slSub_all (vw_sl (hw.h (vw v (Us l)) (List.Mem.head _)));rwa [Us_len] at this) fun hv=>?_
 refine TC.lenu (v:=v) (l:=l) fun hlen=>?_
 repeat' first|(refine wo ?_;first|refine oa ?_)|refine sq ?_|refine rg ?_|refine xc ?_|refine nl ?_|refine bk ?_
 refine TC.loop (ι:=Nat × Value) (fun i=>[(0,i.2)]) (fun _=>[]) (fun i=>i.1 ≤ l.length∧i.2 = slSub v 0 i.1∧nv (l.drop i.1) = 0) (fun i=>i.1) (l.length,v) [] ⟨Nat.le_refl _,hv.symm,by simp [nv]⟩ ?_
 rintro ⟨k,u⟩ ⟨h1,h2,h3⟩
 dsimp only at h1 h2 h3 ⊢
 obtain ⟨m,hm⟩ : ∃ m,m = l.take k:=⟨_,rfl⟩
 have hu:Has [vw v (Us l)] (vw u (Us m)):=by rw [h2,hm];exact has_take (has_vw (List.Mem.head _)) h1
 have hkl:m.length = k:=by rw [hm];simp;omega
 have hge:((m.length:Int) - 1).toNat = k - 1:=by omega
 have hT:m.length = 0∨m.getD (((m.length:Int) - 1).toNat) 0 ≠ 0→Tm (l.take k):=fun h=>by
  rw [← hm];refine Tm_of (h.imp List.eq_nil_of_length_eq_zero fun h=>?_)
  rwa [hge,← hkl] at h
 have hZ:0 < k→m.getD (((m.length:Int) - 1).toNat) 0 = 0→nv (l.drop (k - 1)) = 0:=fun h0 h=>by
  have:=nv_step l (k - 1)
  rw [show k - 1 + 1 = k by omega,h3,Nat.mul_zero,Nat.add_zero] at this
  refine this.trans (Eq.trans ?_ h)
  rw [hge,hm,List.getD_eq_getElem?_getD,List.getD_eq_getElem?_getD,List.getElem?_take,if_pos (by omega)]
 have hN:∀ m,slSub u 0 m = slSub v 0 m:=fun m=>by rw [h2,slSub_sub]
 refine TC.im (B:=[vw v (Us l)]) (Im.refl _) ?_
 repeat' first|(refine wo ?_;first|(refine ao ?_;first|refine aw ?_|refine oa ?_)|refine lu ?_|refine oa ?_|refine lnm ?_|refine ixm ?_|refine schm ?_|refine gy ?_|refine gn ?_|(refine gsi (fun hB=>?_) (fun hB=>?_) <;> try (exfalso;omega)))|(refine gc ?_;first|refine cf ?_|(refine ci (fun hB=>?_) (fun hB=>?_) <;> try (exfalso;omega)))|refine sq ?_|refine rg ?_|refine xc ?_|refine nl ?_|refine sk ?_|refine bk ?_|refine xe ?_|refine rt ?_|refine xb ?_
 ·exact lp (k - 1,slSub u 0 ((m.length:Int) - 1).toNat) ⟨by dsimp only;omega,by dsimp only;rw [hN,hge],hZ (by omega) (by omega)⟩
 ·exact r1 ⟨⟨k,h1,h2,h3,hT (.inr (by omega))⟩,rfl⟩
 ·exact r1 ⟨⟨k,h1,h2,h3,hT (.inl (by omega))⟩,rfl⟩
theorem digit_tr (v:Value) (l:List Nat) (i:Int) (hi:0 ≤ i):Tr Tryz.prog 251 [v,I i] [vw v (Us l)] [] fun u D=>u = Un (l.getD i.toNat 0)∧D = []:=by
 have h0:¬ i < l.length→l.getD i.toNat 0 = 0:=fun h=>by rw [List.getD_eq_getElem?_getD,List.getElem?_eq_none (by omega)];rfl
 refine Tr.enter env _ Tryz.func251 (by kernel_rfl) rfl Tryz.ntmps251 rfl (by repeat (first | exact has00 | refine has01 ?_)) fun w0=>?_
 refine TC.lenu (v:=v) (l:=l) fun hlen=>?_
 repeat' first|(refine wo ?_;first|(refine ao ?_;first|refine oa ?_)|refine lu ?_|refine oa ?_|refine lnm ?_|refine ixm ?_)|(refine gc ?_;first|(refine ci (fun hB=>?_) (fun hB=>?_) <;> try (exfalso;omega)))|refine sq ?_|refine rg ?_|refine xc ?_|refine nl ?_|refine sk ?_|refine rt ?_
 ·exact r1 ⟨rfl,rfl⟩
 ·exact r1 ⟨by rw [h0 (by omega)],rfl⟩
theorem NClone_tr (v:Value) (l:List Nat) (hl:l.length ≤ 17592186044416):Tr Tryz.prog 187 [v] [vw v (Us l)] [] fun u D=>u.oneCell' = true∧D = [own T64 u (Us l)]:=by
 refine Tr.enter env _ Tryz.func187 (by kernel_rfl) rfl Tryz.ntmps187 rfl (by repeat (first | exact has00 | refine has01 ?_)) fun w0=>?_
 refine TC.slf (v:=v) (xs:=Us l) fun a c hv hn=>?_
 cases a with
 | none=>
  have hl0:l = []:=by have:=hn rfl;simpa using this
  subst hl0 hv
  repeat' first|(refine wo ?_;first|(refine ao ?_;first|refine isl ?_)|refine oa ?_)|(refine gc ?_;first|refine ct ?_)|refine sq ?_|refine rg ?_|refine xc ?_|refine nl ?_|refine rt ?_
  refine TX.im (own_nil T64 _) ?_
  exact r1 ⟨rfl,rfl⟩
 | some a=>
  subst hv
  repeat' first|(refine sl0 fun o=>?_)|(refine apu (l:=[]) (news:=l) (fun o=>?_);refine TO.one (v:=o) (xs:=Us ([] ++ l)) fun ho=>?_)|(refine wo ?_;first|(refine ao ?_;first|refine isl ?_)|refine oa ?_)|(refine gc ?_;first|refine cf ?_)|refine sq ?_|refine rg ?_|refine xc ?_|refine nl ?_|refine sk ?_|refine rt ?_
  exact r1 ⟨ho,rfl⟩
theorem NClip_tr (v:Value) (l:List Nat):Tr Tryz.prog 275 [v] [] [own T64 v (Us l)] fun u D=>u.oneCell' = true∧D = [own T64 u (Us l)]:=by
 have hl:=Us_len l
 refine Tr.enter env _ Tryz.func275 (by kernel_rfl) rfl Tryz.ntmps275 rfl (by repeat (first | exact has00 | refine has01 ?_)) fun w0=>?_
 repeat' first|(refine ln (xs:=Us l) ?_)|refine clpo (xs:=Us l) ?_|(refine wo ?_;first|refine oa ?_)|refine sq ?_|refine rg ?_|refine xc ?_|refine nl ?_|refine rt ?_
 refine TX.one (v:=clipV v (Us l).length) (xs:=Us l) fun ho=>?_
 exact r1 ⟨ho,rfl⟩
theorem Trim_tr (v:Value) (l:List Nat) (hd:Dg l) (hl:l.length ≤ 17592186044416):Tr Tryz.prog 132 [v] [vw v (Us l)] [] fun u D=>u.oneCell' = true∧D = [own T64 u (Us (dg (nv l)))]:=by
 refine Tr.enter env _ Tryz.func132 (by kernel_rfl) rfl Tryz.ntmps132 rfl (by repeat (first | exact has00 | refine has01 ?_)) fun w0=>?_
 repeat' first|(refine gca ?_;first|(refine ca (trimmed_tr v l) ?_;rintro _ _ ⟨⟨k,h1,rfl,h2,h3⟩,rfl⟩;have hk:dg (nv l) = l.take k:=(by rw [← dg_top hd h2,dg_nv (hd.take k) h3]);rw [hk];have hh:Has [vw v (Us l)] (vw (slSub v 0 k) (Us (l.take k))):=has_take (has_vw (List.Mem.head _)) h1;refine TO.im (B:=[vw v (Us l)]) (Im.refl _) ?_)|(refine ca (NClone_tr (slSub v 0 k) (l.take k) (by rw [List.length_take];omega)) ?_;rintro o _ ⟨ho,rfl⟩))|(refine wo ?_;first|refine oa ?_)|refine sq ?_|refine rg ?_|refine xc ?_|refine nl ?_|refine rt ?_
 exact r1 ⟨ho,rfl⟩
theorem Check_tr (v:Value) (l:List Nat):Tr Tryz.prog 153 [v] [vw v (Us l)] [] fun u D=>u = I (if 0 < l.length∧l.getD (l.length - 1) 0 = 0 then 6 else 0)∧D = []:=by
 have hge:((l.length:Int) - 1).toNat = l.length - 1:=by omega
 rw [← hge]
 refine Tr.enter env _ Tryz.func153 (by kernel_rfl) rfl Tryz.ntmps153 rfl (by repeat (first | exact has00 | refine has01 ?_)) fun w0=>?_
 refine TC.lenu (v:=v) (l:=l) fun hlen=>?_
 repeat' first|(refine wo ?_;first|(refine ao ?_;first|refine aw ?_|refine oa ?_)|refine lu ?_|refine oa ?_|refine lnm ?_|refine ixm ?_|refine gy ?_|refine gn ?_|(refine gsi (fun hB=>?_) (fun hB=>?_) <;> try (exfalso;omega)))|(refine gc ?_;first|refine cf ?_|(refine ci (fun hB=>?_) (fun hB=>?_) <;> try (exfalso;omega)))|refine sq ?_|refine rg ?_|refine xc ?_|refine nl ?_|refine sk ?_|refine rt ?_
 ·exact r1 ⟨by rw [if_pos (by omega)],rfl⟩
 ·exact r1 ⟨by rw [if_neg (by omega)],rfl⟩
 ·exact r1 ⟨by rw [if_neg (by omega)],rfl⟩
theorem Of_tr (x:Nat) (hx:x < 18446744073709551616):Tr Tryz.prog 129 [Un x] [] [] fun u D=>u.oneCell' = true∧D = [own T64 u (Us (dg x))]:=by
 have e:nv [x] = x:=by simp [nv]
 refine Tr.enter env _ Tryz.func129 (by kernel_rfl) rfl Tryz.ntmps129 rfl (by repeat (first | exact has00 | refine has01 ?_)) fun w0=>?_
 repeat' first|(refine gca ?_;first|(refine ca (Trim_tr o [x] (Dg.one hx) (by simp)) ?_;rw [e];rintro o2 _ ⟨ho2,rfl⟩))|(refine slu [x] fun o ho=>?_)|(refine wo ?_;first|refine oa ?_)|refine sq ?_|refine rg ?_|refine xc ?_|refine nl ?_|refine rt ?_
 exact r1 ⟨ho2,rfl⟩
end Go.Art
namespace Go.Art
open Go Go.Proofs Go.RowKit
section
variable {P:Program} {E:Env P} {n:Sh} {X:Cx} {s:List K} {fr:Fr} {A A':List Ch} {ops:Array Oper} {rest:List Oper} {d:Nat} {ty t t' el:TypeId} {pos:String} {after:Array Edge} {z v u:Value} {x y:Operand} {b j k sz by_:Nat} {w:World} {p q:Int}
end
end Go.Art
namespace Go.Art
open Go Go.Proofs Go.RowKit
section
variable {P:Program} {E:Env P} {n:Sh} {X:Cx} {s:List K} {fr:Fr} {A A':List Ch} {ops:Array Oper} {rest:List Oper} {d:Nat} {ty t t':TypeId} {pos:String} {after:Array Edge} {x y:Operand} {v u z:Value} {by_:Nat} {xs:List Value} {w:World}
theorem R_copy0 {e:TypeId} {o o2:Option Addr} {m c c2:Nat} (ht:lk E.und t = some (.slice e)) (he:lk E.inf e = some (z,1,by_)) (hx:ev fr x = some (.slice o m c)) (hy:ev fr y = some (.slice o2 0 c2)) :
  OpV P n fr (.call ⟨.builtin .copy,#[x,y],#[t,t']⟩) ty w (I 0) w:=⟨fun a ha _ _ _ _=>by
 obtain ⟨inf,hi,_,hsz,_⟩:=E.info he
 have hl:∀ b:Addr,(loadCells b 0).run P w = .ok #[] w:=fun b=>run_loadCells_list (P:=P) w b [] (by intro j v h;cases h)
 simp only [execOp,resolve]
 simp only [List.map_toArray,List.map_cons,List.map_nil,ha.ev hx,ha.ev hy]
 cases o <;> cases o2 <;> simp [invoke,builtin,Builtin.copy_,run_underlying (P:=P) (E.un ht),Builtin.lenOf,Builtin.firstCells,sizeOf,typeInfo,hi,hsz,hl,storeCells,goInt]⟩
end
end Go.Art
namespace Go.Art
open Go Go.Proofs Go.RowKit
theorem zeroCells1 (z:Value) (q:Nat):Builtin.zeroCells #[z] q = (List.replicate q z).toArray:=by
 apply Array.ext'
 simp only [Builtin.zeroCells,List.size_toArray,List.length_singleton,Nat.mul_one,Nat.mod_one,Array.toList_map,Array.toList_range]
 rw [show (fun i:Nat=>(#[z]:Array Value)[0]!) = fun _=>z from rfl,List.map_const',List.length_range]
theorem own_write {w:World} {e:TypeId} {g o cap k:Nat} {cur:Array Value} {xs cs:List Value} (hb:w.heap[g]? = some (.cells cur e (0,0))) (h2:xs.length ≤ cap) (h3:cap ≤ maxLen) (h4:o + cap ≤ cur.size) (h5:(cur.toList.drop o).take xs.length = xs) (hk:k + cs.length ≤ xs.length) :
  OwnO (w.setRow g (cur.toList.take (o + k) ++ cs ++ cur.toList.drop (o + k + cs.length)).toArray) e (.slice (some ⟨g,o,none⟩) xs.length cap) (xs.take k ++ cs ++ xs.drop (k + cs.length)):=by
 have hl:(xs.take k ++ cs ++ xs.drop (k + cs.length)).length = xs.length:=by simp;omega
 refine .inr ⟨g,o,cap,_,by rw [hl],setRow_heap w g cur _ e _ hb,by rw [hl];exact h2,h3,by simp;omega,?_⟩
 rw [hl]
 have hx':xs = (cur.toList.drop o).take xs.length:=h5.symm
 have hcl:cur.toList.length = cur.size:=by simp
 refine List.ext_getElem? fun i=>?_
 have hgx:∀ m,m < xs.length→xs[m]? = cur.toList[o + m]?:=fun m hm=>by
  conv=>lhs;rw [hx']
  rw [List.getElem?_take,if_pos hm,List.getElem?_drop]
 by_cases hi':i < xs.length
 ·rw [List.getElem?_take,if_pos hi',List.getElem?_drop]
  simp only [List.getElem?_append,List.getElem?_take,List.getElem?_drop,List.length_append,List.length_take]
  rw [show min (o + k) cur.toList.length = o + k by omega,show min k xs.length = k by omega]
  by_cases c1:i < k
  ·rw [if_pos (by omega),if_pos (by omega),if_pos (by omega),if_pos (by omega),if_pos (by omega),if_pos c1,hgx i hi']
  ·by_cases c2:i < k + cs.length
   ·rw [if_pos (by omega),if_neg (by omega),if_pos (by omega),if_neg (by omega)]
    congr 1;omega
   ·rw [if_neg (by omega),if_neg (by omega),hgx _ (by omega)]
    congr 1;omega
 ·rw [List.getElem?_eq_none (by simp;omega),List.getElem?_eq_none (by simp;omega)]
section
variable {P:Program} {E:Env P} {n:Sh} {X:Cx} {s:List K} {fr:Fr} {A A':List Ch} {ops:Array Oper} {rest:List Oper} {d:Nat} {ty t t':TypeId} {pos:String} {after:Array Edge} {x y:Operand} {w:World} {v u z:Value} {by_ lo hi:Nat} {xs cs:List Value} {e:TypeId}
theorem apz {m:Int} {k1:IntKind} (k:∀ v',v'.oneCell' = true→(∃ b c,v' = .slice (some ⟨b,0,none⟩) m.toNat c∧m.toNat ≤ c)→TO E n X s ops rest ((d,v') :: fr) (own e v' (List.replicate m.toNat z) :: A)) (hx:ev fr x = some (.slice none 0 0):=by rfl) (hy:ev fr y = some (.int k1 m):=by rfl) (hm:0 < m∧m ≤ 17592186044416:=by omega)
  (ht:lk E.und t = some (.slice e):=by rfl) {kn:IntKind} (htn:lk E.und t' = some (.int kn):=by rfl) (he:lk E.inf e = some (z,1,by_):=by rfl) (hz:z.cells = #[z]:=by rfl) (hby:by_ ≤ 8:=by decide) (hd:Nat.blt d n.n = true:=by rfl) :
  TO E n X s ops (⟨some d,.call ⟨.builtin .append,#[x,y],#[t,t']⟩,ty,pos,after,none⟩ :: rest) fr A:=⟨fun w hw=>by
 obtain ⟨inf,hi,hiz,his,hib⟩:=E.info he
 obtain ⟨j,rfl⟩ : ∃ j:Nat,m = j:=⟨m.toNat,by omega⟩
 rw [Int.toNat_natCast] at k
 have hr:=Lib.run_append_nil_zeros (P:=P) w t t' ty e inf z k1 kn (E.un ht) (E.un htn) hi hiz j (by omega) (by rw [his];decide) (by omega) (by rw [hib];have:=Nat.mul_le_mul (show j ≤ 17592186044416 by omega) hby;omega)
 have hge:=grownCap_ge w j 0 e
 have hzc:∀ q,Builtin.zeroCells z.cells q = (List.replicate q z).toArray:=fun q=>by rw [hz];exact zeroCells1 z q
 refine SO_v hd (w':=w.drew.alloc (.cells (Builtin.zeroCells z.cells j ++ Builtin.zeroCells z.cells (grownCap w j 0 e - j)) e)) (v:=.slice (some ⟨w.heap.size,0,none⟩) j (grownCap w j 0 e)) ⟨fun a ha' _ _ _ _=>?_⟩ ((k _ rfl ⟨_,_,rfl,hge⟩).run _ (hw.new (((Upd.drew w).trans (Upd.alloc w.drew _)).weak (by simp)) ?_ ?_ (fun _ h=>h)))
 ·simp only [execOp,resolve]
  simp [ha'.ev hx,ha'.ev hy,invoke,builtin,hr]
 ·refine .inr ⟨w.heap.size,0,grownCap w j 0 e,_,by simp,heap_alloc_new w.drew _,by simpa using hge,grownCap_le_maxLen w j 0 e (by unfold maxLen;omega),?_,?_⟩
  ·rw [hzc,hzc];simp;omega
  ·rw [hzc,hzc];simp
 ·rintro b (h1 | h1 | h1)
  ·have h1':some w.heap.size = some b:=h1
   injection h1' with h1'
   rw [← h1'];exact Nat.le_refl _
  ·exact h1.elim
  ·exact h1.elim⟩
theorem capr {a0:Option Addr} {m c:Nat} (k:TO E n X s ops rest ((d,I c) :: fr) A) (hx:ev fr x = some (.slice a0 m c):=by rfl) (ht:lk E.und t = some (.slice e):=by rfl) (hd:Nat.blt d n.n = true:=by rfl):TO E n X s ops (⟨some d,.call ⟨.builtin .cap,#[x],#[t]⟩,ty,pos,after,none⟩ :: rest) fr A:=TO.val (fun w _=>⟨fun a ha _ _ _ _=>by
 simp only [execOp,resolve]
 simp [ha.ev hx,invoke,builtin,Builtin.cap_,run_underlying (P:=P) (E.un ht) w,goInt]⟩) k hd
theorem R_resl {m:Nat} {a0:Addr} {c:Nat} {hi:Int} {k2:IntKind} (ht:lk E.und t = some (.slice e)) (he:lk E.inf e = some (z,1,by_)) (hx:ev fr x = some (.slice (some a0) m c)) (hh:ev fr y = some (.int k2 hi)) (h0:0 ≤ hi) (hc:hi.toNat ≤ c) :
  OpV P n fr (.slice t x none (some y) none) ty w (.slice (some a0) hi.toNat c) w:=⟨fun a ha _ _ _ _=>by
 obtain ⟨inf,hi',_,hsz,_⟩:=E.info he
 obtain ⟨q,rfl⟩ : ∃ q:Nat,hi = q:=⟨hi.toNat,by omega⟩
 rw [Int.toNat_natCast] at hc
 have b1:∀ (cd:BoundsCode),(Instr.sliceBound (.int k2 (q:Int)) c cd).run P w = .ok q w:=fun cd=>by
  have:(0:Int) ≤ (q:Int)∧(q:Int) ≤ (c:Int):=by omega
  simp [Instr.sliceBound,asIntOf,this]
 simp only [execOp,ha.ev hx]
 simp only [Option.map,ha.ev hh]
 have e0:a0.add 0 = a0:=Addr_add0 a0
 simp [Instr.sliceAt,Instr.slice,run_underlying (P:=P) (E.un ht) w,Instr.sliceBounds,sizeOf,typeInfo,hi',hsz,b1,e0]⟩
theorem resl {m:Nat} {a0:Addr} {c:Nat} {hi:Int} {k2:IntKind} (k:TO E n X s ops rest ((d,.slice (some a0) hi.toNat c) :: fr) A) (hc:hi.toNat ≤ c) (hx:ev fr x = some (.slice (some a0) m c):=by rfl) (hh:ev fr y = some (.int k2 hi):=by rfl) (h0:0 ≤ hi:=by omega) (ht:lk E.und t = some (.slice e):=by rfl) (he:lk E.inf e = some (z,1,by_):=by rfl) (hd:Nat.blt d n.n = true:=by rfl) :
  TO E n X s ops (⟨some d,.slice t x none (some y) none,ty,pos,after,none⟩ :: rest) fr A:=TO.val (fun w _=>R_resl ht he hx hh h0 hc) k hd
theorem capz (k:TO E n X s ops rest ((d,I 0) :: fr) A) (hx:ev fr x = some (.slice none 0 0):=by rfl) (ht:lk E.und t = some (.slice e):=by rfl) (hd:Nat.blt d n.n = true:=by rfl):TO E n X s ops (⟨some d,.call ⟨.builtin .cap,#[x],#[t]⟩,ty,pos,after,none⟩ :: rest) fr A:=capr (c:=0) k hx ht hd
theorem lnz (k:TO E n X s ops rest ((d,I 0) :: fr) A) (hx:ev fr x = some (.slice none 0 0):=by rfl) (ht:lk E.und t = some (.slice e):=by rfl) (hd:Nat.blt d n.n = true:=by rfl):TO E n X s ops (⟨some d,.call ⟨.builtin .len,#[x],#[t]⟩,ty,pos,after,none⟩ :: rest) fr A:=ln (xs:=[]) k hx has_nil ht hd
theorem slnz {k2:IntKind} (k:TO E n X s ops rest ((d,nS) :: fr) A) (hx:ev fr x = some (.slice none 0 0):=by rfl) (hh:ev fr y = some (.int k2 0):=by rfl) (ht:lk E.und t = some (.slice e):=by rfl) (he:lk E.inf e = some (z,1,by_):=by rfl) (hd:Nat.blt d n.n = true:=by rfl) :
  TO E n X s ops (⟨some d,.slice t x none (some y) none,ty,pos,after,none⟩ :: rest) fr A:=sch (v:=nS) (xs:=[]) (hi:=0) k hx hh has_nil ⟨Int.le_refl _,Int.le_refl _⟩ ht he hd
theorem piece {g o n' cap:Nat} (hlt:lo < n') (hc:n' ≤ cap):slSub (.slice (some ⟨g,o,none⟩) n' cap) lo hi = .slice (some ⟨g,o + lo,none⟩) (hi - lo) (cap - lo):=by
 simp only [slSub]
 rw [if_neg (by omega)]
 simp [Addr.add_lit]
theorem clr {a:Value} (k:TO E n X s ops rest fr (own e a (xs.take lo ++ List.replicate (hi - lo) z ++ xs.drop hi) :: A')) (hx:ev fr x = some (slSub a lo hi)) (hm:Tk (own e a xs) A A':=by exact tkA) (hlo:lo ≤ hi:=by omega) (hhi:hi ≤ xs.length:=by omega)
  (ht:lk E.und t = some (.slice e):=by rfl) (he:lk E.inf e = some (z,1,by_):=by rfl) (hz:z.cells = #[z]:=by rfl) (hz1:z.oneCell' = true:=by rfl):TO E n X s ops (⟨none,.call ⟨.builtin .clear,#[x],#[t]⟩,ty,pos,after,none⟩ :: rest) fr A:=⟨fun w hw=>by
 have h2:=hw.im hm
 have h3:OwnO w e a xs:=h2.mem (List.Mem.head _)
 obtain ⟨inf,hi',hiz,hsz,_⟩:=E.info he
 have hzc:∀ q,Builtin.zeroCells z.cells q = (List.replicate q z).toArray:=fun q=>by rw [hz];exact zeroCells1 z q
 rcases h3 with ⟨rfl,rfl⟩ | ⟨g,o,cap,cur,rfl,hb,g2,g3,g4,g5⟩
 ·obtain rfl:hi = 0:=by simpa using hhi
  obtain rfl:lo = 0:=by omega
  refine SO_n (w':=w) (v:=.tuple #[]) ⟨fun a ha' _ _ _ _=>?_⟩ ((k.run w (by simpa using h2)))
  simp only [execOp,resolve]
  simp [ha'.ev hx,invoke,builtin,Builtin.clear_,run_underlying (P:=P) (E.un ht) w,slSub]
 ·by_cases hlt:lo < hi
  ·rw [piece (n':=xs.length) (by omega) g2] at hx
   have hst:=run_storeCells_at P g (o + lo) e (List.replicate (hi - lo) z) 0 cur w hb (by simp;omega) (fun c hc=>by rw [List.eq_of_mem_replicate hc];exact hz1)
   simp only [Nat.add_zero,List.length_replicate] at hst
   have hne:hi - lo ≠ 0:=by omega
   refine SO_n (w':=w.setRow g (cur.toList.take (o + lo) ++ List.replicate (hi - lo) z ++ cur.toList.drop (o + lo + (hi - lo))).toArray) (v:=.tuple #[]) ⟨fun a ha' _ _ _ _=>?_⟩ (k.run _ (h2.set (by simpa [Value.ownBlock] using Upd.setRow w g _) (fun b hb=>.inl (by simp at hb;subst hb;rfl)) ?_ ?_ (fun _ h=>h)))
   ·simp only [execOp,resolve]
    obtain ⟨q,hq⟩ : ∃ q,hi - lo = q + 1:=⟨hi - lo - 1,by omega⟩
    rw [hq] at hst
    simp [ha'.ev hx,invoke,builtin,Builtin.clear_,run_underlying (P:=P) (E.un ht) w,hq,zeroValue,typeInfo,hi',hiz,hzc,hst]
   ·have:=own_write (w:=w) (k:=lo) (cs:=List.replicate (hi - lo) z) hb g2 g3 g4 g5 (by simp;omega)
    simp only [List.length_replicate] at this
    rw [show lo + (hi - lo) = hi by omega] at this
    have hl:(xs.take lo ++ List.replicate (hi - lo) z ++ xs.drop hi).length = xs.length:=by simp;omega
    show OwnO _ _ _ _
    exact this
   ·rintro b (hb' | hb' | hb')
    ·exact .inl hb'
    ·exact hb'.elim
    ·exact hb'.elim
  ·obtain rfl:lo = hi:=by omega
   rw [Nat.sub_self,List.replicate_zero,List.append_nil,List.take_append_drop] at k
   obtain ⟨a',c',hsl⟩ : ∃ a' c',slSub (Value.slice (some ⟨g,o,none⟩) xs.length cap) lo lo = .slice a' 0 c':=by
    simp only [slSub,Nat.sub_self];exact ⟨_,_,rfl⟩
   rw [hsl] at hx
   refine SO_n (w':=w) (v:=.tuple #[]) ⟨fun a ha' _ _ _ _=>?_⟩ (k.run w h2)
   simp only [execOp,resolve]
   cases a' <;> simp [ha'.ev hx,invoke,builtin,Builtin.clear_,run_underlying (P:=P) (E.un ht) w]⟩
theorem cps {a:Value} (kk:TO E n X s ops rest ((d,I cs.length) :: fr) (own e a (xs.take lo ++ cs ++ xs.drop (lo + cs.length)) :: A')) (hx:ev fr x = some (slSub a lo hi)) (hy:ev fr y = some u:=by rfl) (hm:Tk (own e a xs) A A':=by exact tkA) (hu:Has A' (vw u cs):=by exact hasA) (hlo:lo < hi:=by omega) (hhi:hi ≤ xs.length:=by omega) (hcs:lo + cs.length ≤ hi:=by omega)
  (h1:∀ c ∈ cs,c.oneCell' = true) (ht:lk E.und t = some (.slice e):=by rfl) (he:lk E.inf e = some (z,1,by_):=by rfl) (hd:Nat.blt d n.n = true:=by rfl) :
  TO E n X s ops (⟨some d,.call ⟨.builtin .copy,#[x,y],#[t,t']⟩,ty,pos,after,none⟩ :: rest) fr A:=⟨fun w hw=>by
 have h2:=hw.im hm
 have h3:OwnO w e a xs:=h2.mem (List.Mem.head _)
 have h4:Sl w u cs:=has_sl (Sat.cons.1 h2.sat).2.2 hu
 obtain ⟨inf,hi',_,hsz,_⟩:=E.info he
 obtain ⟨o2,c2,rfl,p1,p2,p3⟩:=h4
 rcases h3 with ⟨_,rfl⟩ | ⟨g,o,cap,cur,rfl,hb,g2,g3,g4,g5⟩
 ·simp only [List.length_nil] at hhi;omega
 ·rw [piece (n':=xs.length) (by omega) g2] at hx
  by_cases h0:cs = []
  ·subst h0
   refine (TO.val (fun _ _=>R_copy0 ht he hx hy) (A:=A) ⟨fun w' hw'=>kk.run w' (by simpa using hw'.im hm)⟩ hd).run w hw
  ·have hlen:0 < cs.length:=List.length_pos_iff.2 h0
   obtain ⟨ad,rfl,_⟩:=p3 0 _ (List.getElem?_eq_getElem hlen)
   have hrun:=run_copy_row (P:=P) w t t' ty e g (o + lo) (hi - lo) (cap - lo) ad cs.length c2 cur e cs (E.un ht) (by rw [hi'];simp [hsz]) hb (by simp only [Nat.min_def];split <;> omega) (fun j u hj=>by obtain ⟨ad2,e3,h5⟩:=p3 j u hj;cases e3;exact h5) (by omega) h1
   refine SO_v hd (w':=w.setRow g (cur.toList.take (o + lo) ++ cs ++ cur.toList.drop (o + lo + cs.length)).toArray) (v:=I cs.length) ⟨fun a ha' _ _ _ _=>?_⟩ (kk.run _ (h2.set (by simpa [Value.ownBlock] using Upd.setRow w g _) (fun b hb=>.inl (by simp at hb;subst hb;rfl)) ?_ ?_ (fun _ h=>h)))
   ·simp only [execOp,resolve]
    simp [ha'.ev hx,ha'.ev hy,invoke,builtin,hrun,goInt]
   ·exact own_write (w:=w) hb g2 g3 g4 g5 (by omega)
   ·rintro b (hb' | hb' | hb')
    ·exact .inl hb'
    ·exact hb'.elim
    ·exact hb'.elim⟩
end
attribute [local irreducible] Fit pt own ro vw mpc lpt vels rels mow lrc dfr
end Go.Art
namespace Go.Art
open Go Go.Proofs Go.RowKit
attribute [local irreducible] Fit pt own ro vw mpc lpt vels rels mow lrc dfr
theorem Grow0_tr:Tr Tryz.prog 292 [nS,I 0] [] [] fun u D=>u = nS∧D = []:=by
 refine Tr.enter env _ Tryz.func292 (by kernel_rfl) rfl Tryz.ntmps292 rfl (by repeat (first | exact has00 | refine has01 ?_)) fun w0=>?_
 repeat' first|refine capz ?_|refine lnz ?_|(refine wo ?_;first|(refine ao ?_;first|refine aw ?_|refine oa ?_)|refine oa ?_)|(refine gc ?_;first|refine cf ?_)|refine sq ?_|refine rg ?_|refine xc ?_|refine nl ?_|refine sk ?_|refine rt ?_
 exact r1 ⟨rfl,rfl⟩
theorem GrowP_tr (n:Int) (hn:0 < n∧n ≤ 17592186044416):Tr Tryz.prog 292 [nS,I n] [] [] fun u D=>∃ b c,n.toNat ≤ c∧u = .slice (some ⟨b,0,none⟩) 0 c∧D = [own T64 (.slice (some ⟨b,0,none⟩) n.toNat c) (Us (List.replicate n.toNat 0))]:=by
 refine Tr.enter env _ Tryz.func292 (by kernel_rfl) rfl Tryz.ntmps292 rfl (by repeat (first | exact has00 | refine has01 ?_)) fun w0=>?_
 repeat' first|refine capz ?_|refine lnz ?_|refine slnz ?_|(refine aw ?_;rw [show (0:Int) - 0 = 0 from rfl])|(refine aw ?_;rw [show n - 0 = n from Int.sub_zero n])|(refine apz (z:=Un 0) fun v' ho hf=>?_;obtain ⟨b,c,hv,hc⟩:=hf;subst hv;rw [Us_rep])|refine resl (hi:=0) ?_ (Nat.zero_le _)|(refine wo ?_;first|(refine ao ?_;first|refine oa ?_)|refine oa ?_)|(refine gc ?_;first|(refine ci (fun hB=>?_) (fun hB=>?_) <;> try (exfalso;omega)))|refine sq ?_|refine rg ?_|refine xc ?_|refine nl ?_|refine sk ?_|refine rt ?_
 exact r1 ⟨b,c,hc,rfl,rfl⟩
theorem room_tr (n:Int) (hn:0 ≤ n∧n ≤ 17592186044416):Tr Tryz.prog 273 [I n] [] [] fun u D=>u.oneCell' = true∧D = [own T64 u (Us (List.replicate n.toNat 0))]:=by
 by_cases h0:n = 0
 ·subst h0
  refine Tr.enter env _ Tryz.func273 (by kernel_rfl) rfl Tryz.ntmps273 rfl (by repeat (first | exact has00 | refine has01 ?_)) fun w0=>?_
  repeat' first|(refine gca ?_;first|(refine ca Grow0_tr ?_;rintro _ _ ⟨rfl,rfl⟩))|refine slnz ?_|(refine TO.im (own_nil T64 _) ?_;refine clr (a:=nS) (lo:=0) (hi:=0) (z:=Un 0) ?_ rfl)|(refine wo ?_;first|refine oa ?_)|refine sq ?_|refine rg ?_|refine xc ?_|refine nl ?_|refine rt ?_
  exact r1 ⟨rfl,rfl⟩
 ·refine Tr.enter env _ Tryz.func273 (by kernel_rfl) rfl Tryz.ntmps273 rfl (by repeat (first | exact has00 | refine has01 ?_)) fun w0=>?_
  repeat' first|(refine gca ?_;first|(refine ca (GrowP_tr n (by omega)) ?_;rintro _ _ ⟨b,c,hc,rfl,rfl⟩))|refine resl ?_ hc|(refine clr (a:=.slice (some ⟨b,0,none⟩) n.toNat c) (lo:=0) (hi:=n.toNat) (z:=Un 0) ?_ (by rw [show slSub (.slice (some ⟨b,0,none⟩) n.toNat c) 0 n.toNat = .slice (some ⟨b,0,none⟩) n.toNat c by simp only [slSub,Nat.sub_zero];split <;> simp [Addr_add0]];rfl) (hhi:=by simp);rw [show (Us (List.replicate n.toNat 0)).take 0 ++ List.replicate (n.toNat - 0) (Un 0) ++ (Us (List.replicate n.toNat 0)).drop n.toNat = Us (List.replicate n.toNat 0) by simp])|(refine wo ?_;first|refine oa ?_)|refine sq ?_|refine rg ?_|refine xc ?_|refine nl ?_|refine rt ?_
  exact r1 ⟨rfl,rfl⟩
end Go.Art
namespace Go.Art
open Go Go.Proofs Go.RowKit
section
variable {P:Program} {E:Env P} {n:Sh} {X:Cx} {s:List K} {fr:Fr} {A A':List Ch} {ops:Array Oper} {rest:List Oper} {d:Nat} {ty t t':TypeId} {pos:String} {after:Array Edge} {x y:Operand} {w:World} {p q:Int}
theorem mxx (k:TO E n X s ops rest ((d,I (max p q)) :: fr) A) (hx:ev fr x = some (I p):=by rfl) (hy:ev fr y = some (I q):=by rfl) (hd:Nat.blt d n.n = true:=by rfl):TO E n X s ops (⟨some d,.call ⟨.builtin .max,#[x,y],#[t,t']⟩,ty,pos,after,none⟩ :: rest) fr A:=TO.val (fun w _=>⟨fun a ha _ _ _ _=>by
 have e:(if q > p then q else p) = max p q:=by split <;> omega
 simp only [execOp,resolve]
 simp [ha.ev hx,ha.ev hy,invoke,builtin,Builtin.max_,Builtin.max2,← e]⟩) k hd
theorem mnn (k:TO E n X s ops rest ((d,I (min p q)) :: fr) A) (hx:ev fr x = some (I p):=by rfl) (hy:ev fr y = some (I q):=by rfl) (hd:Nat.blt d n.n = true:=by rfl):TO E n X s ops (⟨some d,.call ⟨.builtin .min,#[x,y],#[t,t']⟩,ty,pos,after,none⟩ :: rest) fr A:=TO.val (fun w _=>⟨fun a ha _ _ _ _=>by
 have e:(if q < p then q else p) = min p q:=by split <;> omega
 simp only [execOp,resolve]
 simp [ha.ev hx,ha.ev hy,invoke,builtin,Builtin.min_,Builtin.min2,← e]⟩) k hd
end
section
variable {P:Program} {E:Env P} {n:Sh} {X:Cx} {s:List K} {fr:Fr} {A A' D G:List Ch}
theorem mc1 {w0:World} {A0:List Ch} {cl:List Value} {T ct:TypeId} {dt:TypeDesc} {R':Value→List Ch→Prop} {fn:Func} {t1 nn Dm b:Nat} {v1:Value} (h:R' v1 D) (hr:fn.results = #[.cell t1 ct]:=by rfl) (ht:lk E.und ct = some dt:=by rfl) (hg:aggB dt = false:=by rfl)
  (hv:get fr t1 = some (ptr b):=by rfl) (hm:Tk (dfr Dm) A A':=by exact tkA) (hc:pt b (v1 :: cl) T ∈ A':=by exact memA) (hf:Fit A' D G:=by exact fitA) (nb:∀ c ∈ D,∀ b,¬ c.bd b:=by (repeat (first | exact nb0 | refine nb1 ?_));first | done | fail) :
  TX E ⟨nn,[mark Dm],none⟩ ⟨bodyPostM (FF none) 0 P fn (RetP (PR w0 A0 R')),w0,A0⟩ [] .ret fr A:=⟨fun w hw=>
 SX_retM rfl ((hw.im hm).mem (List.Mem.head _)) fun a ha w' hU=>⟨v1,res_c (E:=E) ha hr ht hg hv (by
  have h1:=hw.im hm
  have h2:St ⟨bodyPostM (FF none) 0 P fn (RetP (PR w0 A0 R')),w0,A0⟩ A' w':=h1.step (A:=[dfr Dm]) (B:=[]) (F:=A') (Mv.upd hU (fun b hb=>.inl (wrs_one.2 (List.mem_singleton.1 hb))) (fun b hb=>absurd hb wrs_nil) (fun b hb=>absurd hb rds_nil)) (Sat.nil _) (by simp)
  exact blk_cell (h2.mem hc) rfl),PR.mkM h hw hm hf nb hU⟩⟩
end
def cmpN (a b:Nat):Int:=if a < b then -1 else if b < a then 1 else 0
theorem cmpN_eq {a b:Nat}:cmpN a b = 0 ↔ a = b:=by unfold cmpN;split <;> (try split) <;> omega
theorem cmpN_lt {a b:Nat}:cmpN a b < 0 ↔ a < b:=by unfold cmpN;split <;> (try split) <;> omega
attribute [local irreducible] Fit pt own ro vw mpc lpt vels rels mow lrc dfr
theorem down_tr (v1 v2:Value) (h1:v1.oneCell' = true) (h2:v2.oneCell' = true):Tr Tryz.prog 207 [v1,v2] [] [] fun u D=>∃ c1 c2,u = .func (.func 250) #[] #[ptr c1,ptr c2]∧D = [pt c1 [v1] TN,pt c2 [v2] TN]:=by
 refine Tr.enter env _ Tryz.func207 (by kernel_rfl) rfl Tryz.ntmps207 rfl (by repeat (first | exact has00 | refine has01 ?_)) fun w0=>?_
 repeat' first|refine bx1 fun b=>?_|(refine wo ?_;first|refine oa ?_)|refine sq ?_|refine rg ?_|refine xc ?_|refine nl ?_|refine rt ?_
 exact r1 ⟨_,_,rfl,rfl⟩
abbrev TRi:TypeId:=3
def cmpL (l r Dm:Nat) (rec:Loop) (a b:Nat):List Ch:=if a = b then [lrc l rec .ready none,dfr Dm,pt r [I 0] TRi] else [lrc l rec .done (some .ret),dfr Dm,pt r [I (cmpN a b)] TRi]
theorem down1_tr (l Dm c1 c2 r:Nat) (rec:Loop) (v1 v2:Value) (a b:List Nat) (ha:Dg a) (hb:Dg b)
  (hE:∀ x y,x = y→Ty Tryz.prog l [Un x,Un y] [] [lrc l rec .ready none,dfr Dm,pt r [I 0] TRi] fun ok B=>ok = true∧B = [lrc l rec .ready none,dfr Dm,pt r [I 0] TRi])
  (hN:∀ x y,x ≠ y→Ty Tryz.prog l [Un x,Un y] [] [lrc l rec .ready none,dfr Dm,pt r [I 0] TRi] fun ok B=>ok = false∧B = [lrc l rec .done (some .ret),dfr Dm,pt r [I (cmpN x y)] TRi]) :
  Tr Tryz.prog 250 [yv l,ptr c1,ptr c2] [lpt c1 [v1] TN,lpt c2 [v2] TN,vw v1 (Us a),vw v2 (Us b)] [lrc l rec .ready none,dfr Dm,pt r [I 0] TRi] fun _ B=>B = cmpL l r Dm rec (nv a) (nv b):=by
 refine Tr.enter env _ Tryz.func250 (by kernel_rfl) rfl Tryz.ntmps250 rfl (by repeat (first | exact has00 | refine has01 ?_)) fun w0=>?_
 refine TC.lenu (v:=v1) (l:=a) fun hla=>?_
 refine TC.lenu (v:=v2) (l:=b) fun hlb=>?_
 repeat' first|refine mxx ?_|(refine wo ?_;first|(refine ao ?_;first|refine aw ?_)|refine oa ?_|refine ldl ?_|refine lnm ?_)|refine sq ?_|refine rg ?_|refine xc ?_|refine nl ?_|refine bk ?_
 refine TC.loop (ι:=Int) (fun k=>[(4,I k)]) (fun _=>[lrc l rec .ready none,dfr Dm,pt r [I 0] TRi]) (fun k=>-1 ≤ k∧k ≤ 9223372036854775807∧nv (a.drop (k + 1).toNat) = nv (b.drop (k + 1).toNat)) (fun k=>(k + 1).toNat) (max (a.length:Int) b.length - 1) [0,1,2] ⟨by omega,by omega,?_⟩ ?_
 ·rw [List.drop_eq_nil_of_le (by omega),List.drop_eq_nil_of_le (by omega)]
 ·rintro k ⟨hk1,hk2,hI⟩
  by_cases hk:0 ≤ k
  ·obtain ⟨j,rfl⟩ : ∃ j:Nat,k = j:=⟨k.toNat,by omega⟩
   have hk0:(j:Int).toNat = j:=Int.toNat_natCast j
   rw [show ((j:Int) + 1).toNat = j + 1 by omega] at hI
   have s1:=nv_step a j
   have s2:=nv_step b j
   rw [hI] at s1
   have hx:=ha.getD j
   have hy:=hb.getD j
   by_cases he:a.getD j 0 = b.getD j 0
   ·have hY:=hE _ _ he
    repeat' first|refine rs (fun w=>w.heap[c1]? = some (.cells [v1].toArray TN (0,0))∧w.heap[c2]? = some (.cells [v2].toArray TN (0,0))) ?_ (fun w hw=>⟨lpt_at memA hw,lpt_at memA hw⟩)|(refine wo ?_;first|(refine ao ?_;first|refine oa ?_)|refine oa ?_)|(refine gc ?_;first|refine ct ?_)|refine sq ?_|refine rg ?_|refine xc ?_|refine nl ?_|refine sk ?_|refine bk ?_
    refine tka 0 ?_
    refine tkl 1 (cs:=[v1]) (fun w h=>h.1) ?_
    refine tka 2 ?_
    refine tkl 4 (cs:=[v2]) (fun w h=>h.2) ?_
    refine tka 5 ?_
    refine t1 3 ?_
    refine ca (digit_tr v1 a _ (by omega)) ?_
    rw [hk0]
    rintro _ _ ⟨rfl,rfl⟩
    refine nl ?_
    refine te (fun w hw=>⟨lpt_at memA hw,lpt_at memA hw⟩) ?_
    refine t1 6 ?_
    refine ca (digit_tr v2 b _ (by omega)) ?_
    rw [hk0]
    rintro _ _ ⟨rfl,rfl⟩
    refine nl ?_
    refine te (fun w hw=>⟨lpt_at memA hw,lpt_at memA hw⟩) ?_
    refine t1 7 ?_
    refine cy hY ?_
    rintro _ _ ⟨rfl,rfl⟩
    refine nl ?_
    refine te (fun w hw=>⟨lpt_at memA hw,lpt_at memA hw⟩) ?_
    refine t1 8 ?_
    refine oa ?_
    refine nl ?_
    refine te (fun w hw=>⟨lpt_at memA hw,lpt_at memA hw⟩) ?_
    refine t0 ?_
    refine xc ?_
    repeat' first|(refine wo ?_;first|(refine ao ?_;first|refine aw ?_)|refine oa ?_)|(refine gc ?_;first|refine cf ?_)|refine rg ?_|refine xc ?_|refine nl ?_|refine sk ?_|refine xb ?_
    exact lp ((j:Int) - 1) ⟨by omega,by omega,by rw [show ((j:Int) - 1 + 1).toNat = j by omega,s1,s2,he]⟩
   ·have hY:=hN _ _ he
    have hc:∀ x y,x ≠ y→nv a ≠ nv b∧cmpN (nv a) (nv b) = cmpN x y∨¬ (x = a.getD j 0∧y = b.getD j 0):=by
     intro x y hxy
     by_cases hh:x = a.getD j 0∧y = b.getD j 0
     ·obtain ⟨rfl,rfl⟩:=hh
      rcases Nat.lt_or_gt_of_ne hxy with h | h
      ·have:=nv_lt_of (b:=b) ha j (by omega)
       exact .inl ⟨by omega,by unfold cmpN;rw [if_pos this,if_pos h]⟩
      ·have:=nv_lt_of (b:=a) hb j (by omega)
       exact .inl ⟨by omega,by unfold cmpN;rw [if_neg (by omega),if_pos this,if_neg (by omega),if_pos h]⟩
     ·exact .inr hh
    have hc2:=(hc _ _ he).resolve_right (fun h=>h ⟨rfl,rfl⟩)
    repeat' first|refine rs (fun w=>w.heap[c1]? = some (.cells [v1].toArray TN (0,0))∧w.heap[c2]? = some (.cells [v2].toArray TN (0,0))) ?_ (fun w hw=>⟨lpt_at memA hw,lpt_at memA hw⟩)|(refine wo ?_;first|(refine ao ?_;first|refine oa ?_)|refine oa ?_)|(refine gc ?_;first|refine ct ?_)|refine sq ?_|refine rg ?_|refine xc ?_|refine nl ?_|refine sk ?_|refine bk ?_
    refine tka 0 ?_
    refine tkl 1 (cs:=[v1]) (fun w h=>h.1) ?_
    refine tka 2 ?_
    refine tkl 4 (cs:=[v2]) (fun w h=>h.2) ?_
    refine tka 5 ?_
    refine t1 3 ?_
    refine ca (digit_tr v1 a _ (by omega)) ?_
    rw [hk0]
    rintro _ _ ⟨rfl,rfl⟩
    refine nl ?_
    refine te (fun w hw=>⟨lpt_at memA hw,lpt_at memA hw⟩) ?_
    refine t1 6 ?_
    refine ca (digit_tr v2 b _ (by omega)) ?_
    rw [hk0]
    rintro _ _ ⟨rfl,rfl⟩
    refine nl ?_
    refine te (fun w hw=>⟨lpt_at memA hw,lpt_at memA hw⟩) ?_
    refine t1 7 ?_
    refine cy hY ?_
    rintro _ _ ⟨rfl,rfl⟩
    refine nl ?_
    refine te (fun w hw=>⟨lpt_at memA hw,lpt_at memA hw⟩) ?_
    refine t1 8 ?_
    refine oa ?_
    refine nl ?_
    refine te (fun w hw=>⟨lpt_at memA hw,lpt_at memA hw⟩) ?_
    refine t0 ?_
    refine xc ?_
    repeat' first|(refine gc ?_;first|refine ct ?_)|refine rt ?_
    exact r0 (by rw [cmpL,if_neg hc2.1,hc2.2])
  ·repeat' first|(refine wo ?_;first|(refine ao ?_;first|refine oa ?_)|refine oa ?_)|(refine gc ?_;first|(refine ci (fun hB=>?_) (fun hB=>?_) <;> try (exfalso;omega)))|refine sq ?_|refine rg ?_|refine xc ?_|refine nl ?_|refine xe ?_
   exact e0 (D:=[lrc l rec .ready none,dfr Dm,pt r [I 0] TRi]) (by rw [show (k + 1).toNat = 0 by omega,List.drop_zero,List.drop_zero] at hI;rw [cmpL,if_pos hI])
theorem Cmp_tr (v1 v2:Value) (a b:List Nat) (ha:Dg a) (hb:Dg b):Tr Tryz.prog 154 [v1,v2] [vw v1 (Us a),vw v2 (Us b)] [] fun u D=>u = I (cmpN (nv a) (nv b))∧D = []:=by
 refine Tr.enterM env _ Tryz.func154 (by kernel_rfl) rfl Tryz.ntmps154 rfl (by repeat (first | exact has00 | refine has01 ?_)) fun w0=>?_
 refine TC.one (v:=v1) (xs:=Us a) fun h1=>?_
 refine TC.one (v:=v2) (xs:=Us b) fun h2=>?_
 repeat' first|(refine gca ?_;first|(refine ca (down_tr v1 v2 h1 h2) ?_;rintro _ _ ⟨c1,c2,rfl,rfl⟩))|refine al fun r=>?_|(refine wo ?_;first|refine oa ?_)|refine sq ?_|refine rg ?_|refine xc ?_|refine nl ?_|refine bk ?_
 refine TC.range [lpt c1 [v1] TN,lpt c2 [v2] TN,vw v1 (Us a),vw v2 (Us b)] [pt r [I 0] TRi]
  (fun l rec Dm pend B'=>if nv a = nv b then pend = none∧B' = [dfr Dm,pt r [I 0] TRi] else pend = some .ret∧B' = [dfr Dm,pt r [I (cmpN (nv a) (nv b))] TRi]) ?_ ?_
 ·intro rec l Dm hr
  refine (down1_tr l Dm c1 c2 r rec v1 v2 a b ha hb ?_ ?_).mono ?_
  ·rintro x _ rfl
   refine Ty.intro env hr has00 fun w1=>?_
   repeat' first|refine xbeg ?_|(refine wo ?_;first|(refine ao ?_;first|refine oa ?_)|refine oa ?_)|(refine gc ?_;first|(refine ci (fun hB=>?_) (fun hB=>?_) <;> try (exfalso;omega)))|refine sq ?_|refine rg ?_|refine xc ?_|refine nl ?_|refine sk ?_|refine bk ?_|refine xb ?_
   exact yn ⟨rfl,rfl⟩
  ·intro x y hxy
   by_cases h:x < y
   ·have hc:cmpN x y = -1:=by rw [cmpN,if_pos h]
    rw [hc]
    refine Ty.intro env hr has00 fun w1=>?_
    repeat' first|refine xbeg ?_|(refine wo ?_;first|(refine ao ?_;first|refine oa ?_)|refine oa ?_|refine sr ?_)|(refine gc ?_;first|(refine ci (fun hB=>?_) (fun hB=>?_) <;> try (exfalso;omega)))|refine sq ?_|refine rg ?_|refine xc ?_|refine nl ?_|refine bk ?_|refine rt ?_
    exact yr ⟨rfl,rfl⟩
   ·have hc:cmpN x y = 1:=by rw [cmpN,if_neg h,if_pos (by omega)]
    rw [hc]
    refine Ty.intro env hr has00 fun w1=>?_
    repeat' first|refine xbeg ?_|(refine wo ?_;first|(refine ao ?_;first|refine oa ?_)|refine oa ?_|refine sr ?_)|(refine gc ?_;first|(refine ci (fun hB=>?_) (fun hB=>?_) <;> try (exfalso;omega)))|refine sq ?_|refine rg ?_|refine xc ?_|refine nl ?_|refine bk ?_|refine rt ?_
    exact yr ⟨rfl,rfl⟩
  ·rintro v B rfl
   unfold cmpL
   by_cases h:nv a = nv b
   ·rw [if_pos h];exact ⟨_,_,_,rfl,by decide,by rw [if_pos h];exact ⟨rfl,rfl⟩⟩
   ·rw [if_neg h];exact ⟨_,_,_,rfl,by decide,by rw [if_neg h];exact ⟨rfl,rfl⟩⟩
 ·intro l rec Dm pend B' h
  by_cases hc:nv a = nv b
  ·rw [if_pos hc] at h
   obtain ⟨rfl,rfl⟩:=h
   show TX env _ _ _ _ _ _
   repeat' first|(refine wo ?_;first|refine sr ?_)|refine sq ?_|refine rg ?_|refine xc ?_|refine nl ?_|refine rt ?_|refine xb ?_
   exact mc1 (b:=r) (cl:=[]) (T:=TRi) (v1:=I 0) ⟨by rw [cmpN_eq.2 hc],rfl⟩
  ·rw [if_neg hc] at h
   obtain ⟨rfl,rfl⟩:=h
   show TC env _ _ _ _ _ _
   repeat' first|refine rt ?_
   exact mc1 (b:=r) (cl:=[]) (T:=TRi) ⟨rfl,rfl⟩
end Go.Art
namespace Go.Art
open Go Go.Proofs Go.RowKit
theorem getD_over {l:List Nat} {i:Nat} (h:l.length ≤ i):l.getD i 0 = 0:=by rw [List.getD_eq_getElem?_getD,List.getElem?_eq_none h];rfl
theorem nv_take_s (l:List Nat) (i:Nat):nv (l.take (i + 1)) = nv (l.take i) + 18446744073709551616 ^ i * l.getD i 0:=by
 by_cases h:i < l.length
 ·exact nv_take_succ l i h
 ·rw [getD_over (by omega),List.take_of_length_le (by omega),List.take_of_length_le (by omega)];simp
theorem nv_take_all {l:List Nat} {i:Nat} (h:l.length ≤ i):nv (l.take i) = nv l:=by rw [List.take_of_length_le h]
theorem getD_setN (l:List Nat) (i x:Nat) (h:i < l.length):(l.set i x).getD i 0 = x:=by simp [List.getD_eq_getElem?_getD,h]
theorem take_setN (l:List Nat) (i x:Nat):(l.set i x).take i = l.take i:=by rw [List.take_set,List.set_eq_of_length_le (by rw [List.length_take];omega)]
theorem nv_set_take (l:List Nat) (i x:Nat) (h:i < l.length):nv ((l.set i x).take (i + 1)) = nv (l.take i) + 18446744073709551616 ^ i * x:=by rw [nv_take_s,take_setN,getD_setN l i x h]
theorem add_step {p L M N x y c d e:Nat} (h:L + c * p = M + N) (hd:d + 18446744073709551616 * e = x + y + c):L + p * d + e * (p * 18446744073709551616) = M + p * x + (N + p * y):=by
 have:=congrArg (p * ·) hd
 simp only [Nat.mul_add] at this
 rw [show e * (p * 18446744073709551616) = p * (18446744073709551616 * e) by ac_rfl]
 rw [Nat.mul_comm c] at h
 omega
theorem sub_step {p L M N x y c d e:Nat} (h:L + N = M + c * p) (hd:d + y + c = x + e * 18446744073709551616):L + p * d + (N + p * y) = M + p * x + e * (p * 18446744073709551616):=by
 have:=congrArg (p * ·) hd
 simp only [Nat.mul_add] at this
 rw [show e * (p * 18446744073709551616) = p * (e * 18446744073709551616) by ac_rfl]
 rw [Nat.mul_comm c] at h
 omega
attribute [local irreducible] Fit pt own ro vw mpc lpt vels rels mow lrc dfr
theorem trim_own (v:Value) (l:List Nat) (hd:Dg l) {k:Nat} (h1:k ≤ l.length) (h2:nv (l.drop k) = 0) (h3:Tm (l.take k)) (A:List Ch):Im (own T64 v (Us l) :: A) (own T64 (slSub v 0 k) (Us (dg (nv l))) :: A):=by
 have hk:dg (nv l) = l.take k:=by rw [← dg_top hd h2,dg_nv (hd.take k) h3]
 rw [hk]
 exact Im1.im (im_take T64 v l h1) A
theorem digitN_tr (v:Value) (l:List Nat) (i:Nat):Tr Tryz.prog 251 [v,I i] [vw v (Us l)] [] fun u D=>u = Un (l.getD i 0)∧D = []:=digit_tr v l i (Int.natCast_nonneg i)
theorem NAdd_tr (v1 v2:Value) (a b:List Nat) (ha:Dg a) (hb:Dg b) (hla:a.length ≤ 1099511627776) (hlb:b.length ≤ 1099511627776):Tr Tryz.prog 229 [v1,v2] [vw v1 (Us a),vw v2 (Us b)] [] fun u D=>u.oneCell' = true∧D = [own T64 u (Us (dg (nv a + nv b)))]:=by
 obtain ⟨m,hm⟩ : ∃ m:Nat,max (a.length:Int) b.length + 1 = m:=⟨max a.length b.length + 1,by omega⟩
 refine Tr.enter env _ Tryz.func229 (by kernel_rfl) rfl Tryz.ntmps229 rfl (by repeat (first | exact has00 | refine has01 ?_)) fun w0=>?_
 repeat' first|(refine gca ?_;first|(refine ca (room_tr m (by omega)) ?_;rintro o _ ⟨ho,rfl⟩))|refine mxx ?_|(refine aw ?_;rw [hm])|(refine wo ?_;first|refine oa ?_|refine lnm ?_)|refine sq ?_|refine rg ?_|refine xc ?_|refine nl ?_|refine bk ?_
 rw [Int.toNat_natCast]
 refine TC.loop (ι:=Nat × Nat × List Nat) (fun k=>[(6,I k.1),(7,Un k.2.1)]) (fun k=>[own T64 o (Us k.2.2)]) (fun k=>k.2.2.length = m∧k.1 ≤ m∧k.2.1 ≤ 1∧Dg k.2.2∧nv (k.2.2.take k.1) + k.2.1 * 18446744073709551616 ^ k.1 = nv (a.take k.1) + nv (b.take k.1)) (fun k=>m - k.1) (0,0,List.replicate m 0) [0,1,5] ⟨by simp,by simp,by simp,Dg.rep _,by simp [nv]⟩ ?_
 rintro ⟨i,c,ys⟩ ⟨h1,h2,hc,hd,hI⟩
 dsimp only at h1 h2 hc hd hI ⊢
 have hk0:(i:Int).toNat = i:=Int.toNat_natCast i
 by_cases hi:i < m
 ·have hx:=ha.getD i
  have hy:=hb.getD i
  have hs:=add_step (p:=18446744073709551616 ^ i) (d:=(a.getD i 0 + b.getD i 0 + c) % 18446744073709551616) (e:=(a.getD i 0 + b.getD i 0 + c) / 18446744073709551616) hI (Nat.mod_add_div _ _)
  have hdl:(a.getD i 0 + b.getD i 0 + c) % 18446744073709551616 < 18446744073709551616:=Nat.mod_lt _ (by decide)
  have hel:(a.getD i 0 + b.getD i 0 + c) / 18446744073709551616 ≤ 1:=by omega
  repeat' first|(refine gca ?_;first|(refine ca (digitN_tr v1 a i) ?_;rintro _ _ ⟨rfl,rfl⟩)|(refine ca (digitN_tr v2 b i) ?_;rintro _ _ ⟨rfl,rfl⟩))|refine cadd hc ?_|(refine wo ?_;first|(refine ao ?_;first|refine aw ?_|refine oa ?_)|refine sou ?_|refine oa ?_|refine lnm ?_|refine ixmn ?_)|(refine gc ?_;first|(refine ci (fun hB=>?_) (fun hB=>?_) <;> try (exfalso;omega)))|refine sq ?_|refine rg ?_|refine xc ?_|refine nl ?_|refine sk ?_|refine bk ?_|refine xb ?_
  exact lp (i + 1,(a.getD i 0 + b.getD i 0 + c) / 18446744073709551616,ys.set i ((a.getD i 0 + b.getD i 0 + c) % 18446744073709551616)) ⟨by dsimp only;rw [List.length_set];exact h1,by dsimp only;omega,hel,hd.set hdl,by dsimp only;rw [nv_set_take _ _ _ (by omega),nv_take_s,nv_take_s,Nat.pow_succ];exact hs⟩
 ·obtain rfl:i = m:=by omega
  have hn:nv ys = nv a + nv b:=by
   rw [nv_take_all (by omega),nv_take_all (by omega),nv_take_all (by omega)] at hI
   have b1:=nv_lt ha
   have b2:=nv_lt hb
   have b3:18446744073709551616 ^ a.length ≤ 18446744073709551616 ^ (i - 1):=Nat.pow_le_pow_right (by decide) (by omega)
   have b4:18446744073709551616 ^ b.length ≤ 18446744073709551616 ^ (i - 1):=Nat.pow_le_pow_right (by decide) (by omega)
   have b5:18446744073709551616 ^ i = 18446744073709551616 ^ (i - 1) * 18446744073709551616:=by rw [← Nat.pow_succ];congr 1;omega
   rcases Nat.eq_zero_or_pos c with rfl | hp
   ·omega
   ·obtain rfl:c = 1:=by omega
    rw [b5] at hI
    omega
  rw [← hn]
  repeat' first|(refine gca ?_;first|(refine ca (trimmed_tr o ys) ?_;rintro _ _ ⟨⟨k,g1,rfl,g2,g3⟩,rfl⟩;refine TO.im (trim_own o ys hd g1 g2 g3 _) ?_)|(refine ca (NClip_tr _ _) ?_;rintro u _ ⟨hu,rfl⟩))|(refine wo ?_;first|(refine ao ?_;first|refine oa ?_)|refine oa ?_|refine lnm ?_)|(refine gc ?_;first|(refine ci (fun hB=>?_) (fun hB=>?_) <;> try (exfalso;omega)))|refine sq ?_|refine rg ?_|refine xc ?_|refine nl ?_|refine xe ?_|refine rt ?_
  exact r1 ⟨hu,rfl⟩
theorem NSub_tr (v1 v2:Value) (a b:List Nat) (ha:Dg a) (hb:Dg b) (hla:a.length ≤ 1099511627776) (hlb:b.length ≤ 1099511627776) (hle:nv b ≤ nv a):Tr Tryz.prog 230 [v1,v2] [vw v1 (Us a),vw v2 (Us b)] [] fun u D=>∃ o,u = tup2 o (I 0)∧o.oneCell' = true∧D = [own T64 o (Us (dg (nv a - nv b)))]:=by
 have hcm:¬ cmpN (nv a) (nv b) < 0:=by rw [cmpN_lt];omega
 refine Tr.enter env _ Tryz.func230 (by kernel_rfl) rfl Tryz.ntmps230 rfl (by repeat (first | exact has00 | refine has01 ?_)) fun w0=>?_
 repeat' first|(refine gca ?_;first|(refine ca (Cmp_tr v1 v2 a b ha hb) ?_;rintro _ _ ⟨rfl,rfl⟩)|(refine ca (room_tr (a.length:Int) (by omega)) ?_;rintro o _ ⟨ho,rfl⟩))|(refine wo ?_;first|(refine ao ?_;first|refine oa ?_)|refine oa ?_|refine lnm ?_)|(refine gc ?_;first|(refine ci (fun hB=>?_) (fun hB=>?_) <;> try (exfalso;omega)))|refine sq ?_|refine rg ?_|refine xc ?_|refine nl ?_|refine sk ?_|refine bk ?_
 rw [Int.toNat_natCast]
 refine TC.loop (ι:=Nat × Nat × List Nat) (fun k=>[(7,I k.1),(8,Un k.2.1)]) (fun k=>[own T64 o (Us k.2.2)]) (fun k=>k.2.2.length = a.length∧k.1 ≤ a.length∧k.2.1 ≤ 1∧Dg k.2.2∧nv (k.2.2.take k.1) + nv (b.take k.1) = nv (a.take k.1) + k.2.1 * 18446744073709551616 ^ k.1) (fun k=>a.length - k.1) (0,0,List.replicate a.length 0) [0,1,6] ⟨by simp,by simp,by simp,Dg.rep _,by simp [nv]⟩ ?_
 rintro ⟨i,c,ys⟩ ⟨h1,h2,hc,hd,hI⟩
 dsimp only at h1 h2 hc hd hI ⊢
 by_cases hi:i < a.length
 ·have hx:=ha.getD i
  have hy:=hb.getD i
  have hs:=sub_step (p:=18446744073709551616 ^ i) (d:=(a.getD i 0 + 18446744073709551616 - b.getD i 0 - c) % 18446744073709551616) (x:=a.getD i 0) (y:=b.getD i 0) (e:=if a.getD i 0 < b.getD i 0 + c then 1 else 0) hI (by split <;> omega)
  have hdl:(a.getD i 0 + 18446744073709551616 - b.getD i 0 - c) % 18446744073709551616 < 18446744073709551616:=Nat.mod_lt _ (by decide)
  have hel:(if a.getD i 0 < b.getD i 0 + c then 1 else 0) ≤ 1:=by split <;> omega
  repeat' first|refine rs (fun w=>Sl w v1 (Us a)) ?_ (fun w hw=>vw_sl (hw.h (vw v1 (Us a)) memA))|(refine wo ?_;first|(refine ao ?_;first|refine oa ?_)|refine oa ?_|refine lnm ?_)|(refine gc ?_;first|(refine ci (fun hB=>?_) (fun hB=>?_) <;> try (exfalso;omega)))|refine sq ?_|refine rg ?_|refine xc ?_|refine nl ?_|refine sk ?_|refine bk ?_
  refine tka 0 ?_
  refine tka 1 ?_
  refine tka 2 ?_
  refine tka 3 ?_
  refine tk 4 (v:=.pointer (some (addrAt v1 i))) (fun w h=>R_idx (E:=env) (i:=(i:Int)) rfl rfl rfl rfl h ⟨Int.natCast_nonneg i,by rw [Us_len];omega⟩) ?_
  refine tk 5 (v:=Un (a.getD i 0)) (fun w h=>R_load (E:=env) rfl rfl rfl (h.cell (Us_get a i hi))) ?_
  refine tka 6 ?_
  refine tka 7 ?_
  refine tka 9 ?_
  refine t1 8 ?_
  refine ca (digitN_tr v2 b i) ?_
  rintro _ _ ⟨rfl,rfl⟩
  refine nl ?_
  refine te (fun w hw=>vw_sl (hw.h (vw v1 (Us a)) memA)) ?_
  refine t1 10 ?_
  refine csub hc ?_
  refine nl ?_
  refine te (fun w hw=>vw_sl (hw.h (vw v1 (Us a)) memA)) ?_
  refine tka 11 ?_
  refine tka 12 ?_
  refine tka 13 ?_
  refine t1 14 ?_
  refine ixmn ?_
  refine nl ?_
  refine te (fun w hw=>vw_sl (hw.h (vw v1 (Us a)) memA)) ?_
  refine t1 15 ?_
  refine sou ?_
  refine nl ?_
  refine te (fun w hw=>vw_sl (hw.h (vw v1 (Us a)) memA)) ?_
  refine tka 16 ?_
  refine t0 ?_
  repeat' first|(refine wo ?_;first|(refine ao ?_;first|refine aw ?_)|refine oa ?_)|refine rg ?_|refine xc ?_|refine nl ?_|refine xb ?_
  exact lp (i + 1,(if a.getD i 0 < b.getD i 0 + c then 1 else 0),ys.set i ((a.getD i 0 + 18446744073709551616 - b.getD i 0 - c) % 18446744073709551616)) ⟨by dsimp only;rw [List.length_set];exact h1,by dsimp only;omega,hel,hd.set hdl,by dsimp only;rw [nv_set_take _ _ _ (by omega),nv_take_s,nv_take_s,Nat.pow_succ];exact hs⟩
 ·obtain rfl:i = a.length:=by omega
  have hn:nv ys = nv a - nv b:=by
   rw [nv_take_all (by omega),nv_take_all (Nat.le_refl _)] at hI
   have b1:=nv_lt ha
   have b2:=nv_lt hd
   have b3:=nv_cut b a.length
   rw [h1] at b2
   rcases Nat.eq_zero_or_pos (nv (b.drop a.length)) with h0 | hp
   ·rw [h0] at b3
    rcases Nat.eq_zero_or_pos c with rfl | hp
    ·omega
    ·obtain rfl:c = 1:=by omega
     omega
   ·have:=Nat.mul_le_mul_left (18446744073709551616 ^ a.length) hp
    omega
  rw [← hn]
  repeat' first|(refine gca ?_;first|(refine ca (trimmed_tr o ys) ?_;rintro _ _ ⟨⟨k,g1,rfl,g2,g3⟩,rfl⟩;refine TO.im (trim_own o ys hd g1 g2 g3 _) ?_)|(refine ca (NClip_tr _ _) ?_;rintro u _ ⟨hu,rfl⟩))|(refine wo ?_;first|(refine ao ?_;first|refine oa ?_)|refine oa ?_|refine lnm ?_)|(refine gc ?_;first|(refine ci (fun hB=>?_) (fun hB=>?_) <;> try (exfalso;omega)))|refine sq ?_|refine rg ?_|refine xc ?_|refine nl ?_|refine xe ?_|refine rt ?_
  exact r2 ⟨u,rfl,hu,rfl⟩
theorem NSub0_tr (v1 v2:Value) (a b:List Nat) (ha:Dg a) (hb:Dg b) (hlt:nv a < nv b):Tr Tryz.prog 230 [v1,v2] [vw v1 (Us a),vw v2 (Us b)] [] fun u D=>u = tup2 nS (I 3)∧D = []:=by
 have hcm:cmpN (nv a) (nv b) < 0:=cmpN_lt.2 hlt
 refine Tr.enter env _ Tryz.func230 (by kernel_rfl) rfl Tryz.ntmps230 rfl (by repeat (first | exact has00 | refine has01 ?_)) fun w0=>?_
 repeat' first|(refine gca ?_;first|(refine ca (Cmp_tr v1 v2 a b ha hb) ?_;rintro _ _ ⟨rfl,rfl⟩))|(refine wo ?_;first|(refine ao ?_;first|refine oa ?_)|refine oa ?_)|(refine gc ?_;first|(refine ci (fun hB=>?_) (fun hB=>?_) <;> try (exfalso;omega)))|refine sq ?_|refine rg ?_|refine xc ?_|refine nl ?_|refine rt ?_
 exact r2 ⟨rfl,rfl⟩
end Go.Art
namespace Go.Art
open Go Go.Proofs Go.RowKit
theorem bitLen_bounds (y:Nat) (h:y < 18446744073709551616) (h0:y ≠ 0):1 ≤ Lib.bitLen y∧2 ^ (Lib.bitLen y - 1) ≤ y∧y < 2 ^ Lib.bitLen y:=Lib.bitLenAux_bounds 64 y (by omega) h0
theorem bitLen_le64 (y:Nat) (h:y < 18446744073709551616):Lib.bitLen y ≤ 64:=Lib.bitLen_le y 64 (Nat.le_refl _) h
theorem lz_ex (y:Nat) (h:y < 18446744073709551616) (h0:y ≠ 0):∃ s:Nat,s ≤ 63∧64 - (Lib.bitLen y:Int) = (s:Int)∧9223372036854775808 ≤ y * 2 ^ s∧y * 2 ^ s < 18446744073709551616:=by
 obtain ⟨h1,h2,h3⟩:=bitLen_bounds y h h0
 have h4:=bitLen_le64 y h
 refine ⟨64 - Lib.bitLen y,by omega,by omega,?_,?_⟩
 ·have e:2 ^ (Lib.bitLen y - 1) * 2 ^ (64 - Lib.bitLen y) = 9223372036854775808:=by
   rw [← Nat.pow_add,show Lib.bitLen y - 1 + (64 - Lib.bitLen y) = 63 by omega]
  rw [← e];exact Nat.mul_le_mul_right _ h2
 ·have e:2 ^ Lib.bitLen y * 2 ^ (64 - Lib.bitLen y) = 18446744073709551616:=by
   rw [← Nat.pow_add,show Lib.bitLen y + (64 - Lib.bitLen y) = 64 by omega]
  rw [← e];exact Nat.mul_lt_mul_of_pos_right h3 (Nat.pow_pos (by decide))
theorem pow_split {s:Nat} (hs:s ≤ 64):2 ^ (64 - s) * 2 ^ s = 18446744073709551616:=by rw [← Nat.pow_add,show 64 - s + s = 64 by omega]
theorem d64 {h l y s:Nat} (hs:s ≤ 63) (hl:l < 18446744073709551616) (hh:h < y) (hy:y * 2 ^ s < 18446744073709551616) :
  h * 2 ^ s < 18446744073709551616∧l / 2 ^ (64 - s) < 2 ^ s∧h * 2 ^ s + l / 2 ^ (64 - s) < y * 2 ^ s∧(h * 18446744073709551616 + l) * 2 ^ s = (h * 2 ^ s + l / 2 ^ (64 - s)) * 18446744073709551616 + l * 2 ^ s % 18446744073709551616:=by
 have hp:0 < 2 ^ s:=Nat.pow_pos (by decide)
 have hsp:=pow_split (s:=s) (by omega)
 have h1:h * 2 ^ s < y * 2 ^ s:=Nat.mul_lt_mul_of_pos_right hh hp
 have h2:l / 2 ^ (64 - s) < 2 ^ s:=Nat.div_lt_of_lt_mul (by rw [hsp];exact hl)
 have h3:(h + 1) * 2 ^ s ≤ y * 2 ^ s:=Nat.mul_le_mul_right _ hh
 have h4:l * 2 ^ s / 18446744073709551616 = l / 2 ^ (64 - s):=by rw [← hsp];exact Nat.mul_div_mul_right _ _ hp
 have h5:=Nat.div_add_mod (l * 2 ^ s) 18446744073709551616
 rw [h4] at h5
 generalize l / 2 ^ (64 - s) = q at *
 generalize l * 2 ^ s % 18446744073709551616 = r at *
 rw [Nat.add_mul] at h3
 refine ⟨by omega,h2,by omega,?_⟩
 rw [Nat.add_mul,← h5,Nat.add_mul,Nat.mul_right_comm];omega
def div64 (h l y:Nat):Value:=.tuple #[Un ((h * 18446744073709551616 + l) / y),Un ((h * 18446744073709551616 + l) % y)]
attribute [local irreducible] Fit pt own ro vw mpc lpt vels rels mow lrc dfr
theorem Div64_low (l y:Nat) (hl:l < 18446744073709551616) (hy:y < 18446744073709551616) (hh:0 < y):Tr Tryz.prog 239 [Un 0,Un l,Un y] [] [] fun v D=>v = .tuple #[Un (l / y),Un (l % y)]∧D = []:=by
 refine Tr.enter env _ Tryz.func239 (by kernel_rfl) rfl Tryz.ntmps239 rfl (by repeat (first | exact has00 | refine has01 ?_)) fun w0=>?_
 repeat' first|(refine wo ?_;first|(refine ao ?_;first|refine oa ?_)|refine oa ?_)|(refine gc ?_;first|refine ct ?_|(refine ci (fun hB=>?_) (fun hB=>?_) <;> try (exfalso;omega)))|refine sq ?_|refine rg ?_|refine xc ?_|refine nl ?_|refine sk ?_|refine rt ?_|refine rq ?_|refine nq ?_|(refine wq ?_;first|(refine qao ?_;first|(refine qnao ?_;first|refine qnqu ?_|refine qnrm ?_))|refine qa ?_)
 exact r2 ⟨rfl,rfl⟩
set_option maxHeartbeats 4000000 in
set_option maxRecDepth 10000 in
theorem Div64_walk (h l y s V H L U w1 n1 n0 u1 u0 q0 r0 m0 Q1 a1 U2 p0 t0 r2' m2 m3 Q2 a2 U3 R:Nat) (h0:h ≠ 0) (hs:s ≤ 63) (hl:l < 18446744073709551616) (hy:y < 18446744073709551616) (hh:h < y) (hse:64 - (Lib.bitLen y:Int) = (s:Int))
  (eV:y * 2 ^ (min (Int.toNat (s:Int)) 64) % 18446744073709551616 = V) (eN1:V / 2 ^ (min (Int.toNat 32) 64) = n1) (eN0:V % 4294967296 = n0) (eH:h * 2 ^ (min (Int.toNat (s:Int)) 64) % 18446744073709551616 = H) (eL:l / 2 ^ (min (Int.toNat ((64 - s:Nat):Int)) 64) = L) (eU:H ||| L = U)
  (eW:l * 2 ^ (min (Int.toNat (s:Int)) 64) % 18446744073709551616 = w1) (eU1:w1 / 2 ^ (min (Int.toNat 32) 64) = u1) (eU0:w1 % 4294967296 = u0) (bV:V < 18446744073709551616) (bH:H < 18446744073709551616) (bL:L < 18446744073709551616) (bU:U < 18446744073709551616) (bW:w1 < 18446744073709551616)
  (eQ:U / n1 = q0) (eM:q0 * n1 % 18446744073709551616 = m0) (bM:m0 < 18446744073709551616) (eR:(U + 18446744073709551616 - m0) % 18446744073709551616 = r0) (f1:Hf n1 n0 U u1 q0 r0)
  (d1:∀ q r,Hf n1 n0 U u1 q r→(q < 4294967296∧q * n0 ≤ 4294967296 * r + u1)→q = Q1) (b1:∀ q r,Hf n1 n0 U u1 q r→¬ (q < 4294967296∧q * n0 ≤ 4294967296 * r + u1)→¬ r + n1 < 4294967296→q - 1 = Q1)
  (bQ1:Q1 < 4294967296) (eA:U * 4294967296 % 18446744073709551616 = a1) (eA2:Q1 * V % 18446744073709551616 = m2) (bM2:m2 < 18446744073709551616) (eU2:(a1 + u1 + 18446744073709551616 - m2) % 18446744073709551616 = U2) (bU2:U2 < 18446744073709551616)
  (eP:U2 / n1 = p0) (eT:p0 * n1 % 18446744073709551616 = t0) (bT:t0 < 18446744073709551616) (eS:(U2 + 18446744073709551616 - t0) % 18446744073709551616 = r2') (f2:Hf n1 n0 U2 u0 p0 r2')
  (d2:∀ q r,Hf n1 n0 U2 u0 q r→(q < 4294967296∧q * n0 ≤ 4294967296 * r + u0)→q = Q2) (b2:∀ q r,Hf n1 n0 U2 u0 q r→¬ (q < 4294967296∧q * n0 ≤ 4294967296 * r + u0)→¬ r + n1 < 4294967296→q - 1 = Q2)
  (bQ2:Q2 < 4294967296) (eB:U2 * 4294967296 % 18446744073709551616 = a2) (eB2:Q2 * V % 18446744073709551616 = m3) (bM3:m3 < 18446744073709551616) (eU3:(a2 + u0 + 18446744073709551616 - m3) % 18446744073709551616 = U3) (eR3:U3 / 2 ^ (min (Int.toNat (s:Int)) 64) = R) :
  Tr Tryz.prog 239 [Un h,Un l,Un y] [] [] fun v D=>v = .tuple #[Un (Q1 * 4294967296 + Q2),Un R]∧D = []:=by
 have n1a:=f1.n1a
 have n1b:=f1.n1b
 have n0b:=f1.n0b
 have u1b:=f1.u1b
 have u0b:=f2.u1b
 refine Tr.enter env _ Tryz.func239 (by kernel_rfl) rfl Tryz.ntmps239 rfl (by repeat (first | exact has00 | refine has01 ?_)) fun w0=>?_
 repeat' first|(refine gca ?_;first|(refine ca (LZ64_tr y hy) ?_;rintro _ _ ⟨rfl,rfl⟩;rw [hse]))|(refine ao ?_;first | refine nsle eV ?_ | refine nsre eN1 ?_ | refine nmke eN0 ?_ | refine nsle eH ?_ | refine nsre eL ?_ | refine nore eU ?_ | refine nsle eW ?_ | refine nsre eU1 ?_ | refine nmke eU0 ?_ | refine nque eQ ?_ | refine nmle eM ?_ | refine nsbe eR ?_)|refine sq_cutX (a:=.block 0 _) (ι:=Value) (fun v=>v = Un Q1) (fun v=>[(2,Un V),(8,Un s),(9,Un n1),(10,Un n0),(11,Un U),(13,Un u1),(14,Un u0),(15,v)]) (fun _=>[]) ?_ (fun kb=>?_)|(refine wo ?_;first|(refine ao ?_;first|(refine nao ?_;first|refine nsb ?_)|(refine naou ?_;first|refine nsb ?_)|refine oa ?_)|refine ntu ?_|refine oa ?_)|(refine gc ?_;first|(refine ci (fun hB=>?_) (fun hB=>?_) <;> try (exfalso;omega)))|refine sq ?_|refine rg ?_|refine xc ?_|refine nl ?_|refine sk ?_|refine bk ?_
 ·rintro _ rfl
  clear eV eN1 eN0 eH eL eU eW eU1 eU0 eQ eM eR f1 d1 b1 hse
  repeat' first|(refine ao ?_;first | refine nmle eA ?_ | refine nmle eA2 ?_ | refine nsbe eU2 ?_ | refine nque eP ?_ | refine nmle eT ?_ | refine nsbe eS ?_)|refine sq_cutX (a:=.block 2 _) (ι:=Value) (fun v=>v = Un Q2) (fun v=>[(2,Un V),(8,Un s),(17,Un U2),(14,Un u0),(15,Un Q1),(18,v)]) (fun _=>[]) ?_ (fun kb=>?_)|(refine wo ?_;first|(refine ao ?_;first|(refine nao ?_;first|refine nad ?_)|(refine naou ?_;first|refine nad ?_))|refine oa ?_)|refine sq ?_|refine rg ?_|refine xc ?_|refine nl ?_|refine bk ?_
  ·rintro _ rfl
   clear eA eA2 eU2 eP eT eS f2 d2 b2
   repeat' first|(refine ao ?_;first | refine nmle eB ?_ | refine nmle eB2 ?_ | refine nsbe eU3 ?_ | refine nsre eR3 ?_)|(refine wo ?_;first|(refine ao ?_;first|(refine nao ?_;first|refine nad ?_|refine nml ?_)|(refine naou ?_;first|refine nad ?_|refine nml ?_))|refine oa ?_)|refine sq ?_|refine rg ?_|refine xc ?_|refine nl ?_|refine rt ?_
   exact r2 ⟨rfl,rfl⟩
  ·clear eA eA2 eU2 eP eT eS eB eB2 eU3 eR3
   repeat' first|(refine wo ?_;first|(refine ao ?_;first|(refine nao ?_;first|refine nmk ?_|refine nad ?_|refine nsb ?_|refine nml ?_|refine nadm ?_|refine nsbm ?_|refine nmlm ?_|refine nor ?_|refine nsl ?_|refine nsr ?_|refine nqu ?_|refine nrm ?_)|(refine naou ?_;first|refine nmk ?_|refine nad ?_|refine nsb ?_|refine nml ?_|refine nadm ?_|refine nsbm ?_|refine nmlm ?_|refine nor ?_|refine nsl ?_|refine nsr ?_|refine nqu ?_|refine nrm ?_)|refine aw ?_|refine aw6 ?_|refine oa ?_|refine adiv ?_|refine amod ?_|refine shr1 ?_|refine shr ?_|refine umod ?_|refine isl ?_|refine ipe ?_|refine ipn ?_|refine ibe ?_)|refine lu ?_|refine sou ?_|refine ntu ?_|refine acw ?_|refine ucv ?_|refine anw ?_|refine oa ?_|refine ld ?_|refine ldl ?_|refine lnm ?_|refine ixmn ?_|refine ixm ?_|refine li ?_|refine lb ?_|refine lv ?_|refine ln ?_|refine ixn ?_|refine ix ?_|refine le ?_|refine sr ?_|refine soi ?_|refine sob ?_|refine scm ?_|refine sclm ?_|refine schm ?_|refine gy ?_|refine gn ?_|refine gnn ?_|refine gu ?_|(refine gsi (fun hB=>?_) (fun hB=>?_) <;> try (exfalso;omega))|(refine gsn (fun hB=>?_) (fun hB=>?_) <;> try (exfalso;omega))|(refine gs (fun hB=>?_) (fun hB=>?_) <;> try (exfalso;omega)))|(refine gc ?_;first|refine ct ?_|refine cf ?_|(refine ci (fun hB=>?_) (fun hB=>?_) <;> try (exfalso;omega))|(refine cn (fun hB=>?_) (fun hB=>?_) <;> try (exfalso;omega))|(refine cb (fun hB=>?_) (fun hB=>?_) <;> try (exfalso;omega)))|refine sq ?_|refine rg ?_|refine xc ?_|refine nl ?_|refine sk ?_|refine bk ?_|refine xe ?_|refine rt ?_|refine xb ?_
   refine TC.loop (ι:=Nat × Nat) (fun i=>[(18,Un i.1),(16,Un i.2)]) (fun _=>[]) (fun i=>Hf n1 n0 U2 u0 i.1 i.2) (fun i=>i.1) (p0,r2') [2,8,9,10,14,15,17] f2 ?_
   rintro ⟨q,r⟩ hI
   dsimp only at hI ⊢
   have hqn:=hI.mulb
   have hq0:1 ≤ q∨q * n0 = 0:=by
    rcases Nat.eq_zero_or_pos q with h | h
    ·exact .inr (by rw [h,Nat.zero_mul])
    ·exact .inl h
   have hr:=hI.r2
   have hq2:=hI.q2
   repeat' first|exact kb (Un q) (by rw [d2 q r hI (by omega)]) _ _ (by (repeat (refine Sub.cons rfl (by first | rfl | go_num) ?_));exact Sub.nil) fitA|exact kb (Un (q - 1)) (by rw [b2 q r hI (by omega) (by omega)]) _ _ (by (repeat (refine Sub.cons rfl (by first | rfl | go_num) ?_));exact Sub.nil) fitA|exact lp (q - 1,r + n1) (hI.next (by omega) (by omega)) (hlt:=by have:=hI.less (by omega);dsimp only;omega)|(refine wo ?_;first|(refine ao ?_;first|(refine nao ?_;first|refine nad ?_|refine nsb ?_|refine nml ?_)|(refine naou ?_;first|refine nad ?_|refine nsb ?_|refine nml ?_)|refine oa ?_)|refine oa ?_|refine gy ?_|refine gn ?_|(refine gsi (fun hB=>?_) (fun hB=>?_) <;> try (exfalso;omega)))|(refine gc ?_;first|refine ct ?_|(refine ci (fun hB=>?_) (fun hB=>?_) <;> try (exfalso;omega)))|refine sq ?_|refine rg ?_|refine xc ?_|refine nl ?_|refine sk ?_|refine bk ?_|refine xe ?_|refine xb ?_
 ·clear eV eN1 eN0 eH eL eU eW eU1 eU0 eQ eM eR eA eA2 eU2 eP eT eS f2 d2 b2 eB eB2 eU3 eR3 hse
  repeat' first|(refine wo ?_;first|(refine ao ?_;first|(refine nao ?_;first|refine nmk ?_|refine nad ?_|refine nsb ?_|refine nml ?_|refine nadm ?_|refine nsbm ?_|refine nmlm ?_|refine nor ?_|refine nsl ?_|refine nsr ?_|refine nqu ?_|refine nrm ?_)|(refine naou ?_;first|refine nmk ?_|refine nad ?_|refine nsb ?_|refine nml ?_|refine nadm ?_|refine nsbm ?_|refine nmlm ?_|refine nor ?_|refine nsl ?_|refine nsr ?_|refine nqu ?_|refine nrm ?_)|refine aw ?_|refine aw6 ?_|refine oa ?_|refine adiv ?_|refine amod ?_|refine shr1 ?_|refine shr ?_|refine umod ?_|refine isl ?_|refine ipe ?_|refine ipn ?_|refine ibe ?_)|refine lu ?_|refine sou ?_|refine ntu ?_|refine acw ?_|refine ucv ?_|refine anw ?_|refine oa ?_|refine ld ?_|refine ldl ?_|refine lnm ?_|refine ixmn ?_|refine ixm ?_|refine li ?_|refine lb ?_|refine lv ?_|refine ln ?_|refine ixn ?_|refine ix ?_|refine le ?_|refine sr ?_|refine soi ?_|refine sob ?_|refine scm ?_|refine sclm ?_|refine schm ?_|refine gy ?_|refine gn ?_|refine gnn ?_|refine gu ?_|(refine gsi (fun hB=>?_) (fun hB=>?_) <;> try (exfalso;omega))|(refine gsn (fun hB=>?_) (fun hB=>?_) <;> try (exfalso;omega))|(refine gs (fun hB=>?_) (fun hB=>?_) <;> try (exfalso;omega)))|(refine gc ?_;first|refine ct ?_|refine cf ?_|(refine ci (fun hB=>?_) (fun hB=>?_) <;> try (exfalso;omega))|(refine cn (fun hB=>?_) (fun hB=>?_) <;> try (exfalso;omega))|(refine cb (fun hB=>?_) (fun hB=>?_) <;> try (exfalso;omega)))|refine sq ?_|refine rg ?_|refine xc ?_|refine nl ?_|refine sk ?_|refine bk ?_|refine xe ?_|refine rt ?_|refine xb ?_
  refine TC.loop (ι:=Nat × Nat) (fun i=>[(15,Un i.1),(16,Un i.2)]) (fun _=>[]) (fun i=>Hf n1 n0 U u1 i.1 i.2) (fun i=>i.1) (q0,r0) [2,8,9,10,11,13,14] f1 ?_
  rintro ⟨q,r⟩ hI
  dsimp only at hI ⊢
  have hqn:=hI.mulb
  have hq0:1 ≤ q∨q * n0 = 0:=by
   rcases Nat.eq_zero_or_pos q with h | h
   ·exact .inr (by rw [h,Nat.zero_mul])
   ·exact .inl h
  have hr:=hI.r2
  have hq2:=hI.q2
  repeat' first|exact kb (Un q) (by rw [d1 q r hI (by omega)]) _ _ (by (repeat (refine Sub.cons rfl (by first | rfl | go_num) ?_));exact Sub.nil) fitA|exact kb (Un (q - 1)) (by rw [b1 q r hI (by omega) (by omega)]) _ _ (by (repeat (refine Sub.cons rfl (by first | rfl | go_num) ?_));exact Sub.nil) fitA|exact lp (q - 1,r + n1) (hI.next (by omega) (by omega)) (hlt:=by have:=hI.less (by omega);dsimp only;omega)|(refine wo ?_;first|(refine ao ?_;first|(refine nao ?_;first|refine nad ?_|refine nsb ?_|refine nml ?_)|(refine naou ?_;first|refine nad ?_|refine nsb ?_|refine nml ?_)|refine oa ?_)|refine oa ?_|refine gy ?_|refine gn ?_|(refine gsi (fun hB=>?_) (fun hB=>?_) <;> try (exfalso;omega)))|(refine gc ?_;first|refine ct ?_|(refine ci (fun hB=>?_) (fun hB=>?_) <;> try (exfalso;omega)))|refine sq ?_|refine rg ?_|refine xc ?_|refine nl ?_|refine sk ?_|refine bk ?_|refine xe ?_|refine xb ?_
end Go.Art
namespace Go.Art
open Go Go.Proofs Go.RowKit
theorem sub_word {u z r:Nat} (h:z + r = u) (hu:u < 18446744073709551616):(u + 18446744073709551616 - z) % 18446744073709551616 = r:=by omega
theorem two_word {u u1 z r:Nat} (h:z + r = u * 4294967296 + u1) (hr:r < 18446744073709551616):(u * 4294967296 % 18446744073709551616 + u1 + 18446744073709551616 - z % 18446744073709551616) % 18446744073709551616 = r:=by omega
theorem half_facts {n1 n0 u u1:Nat} (n1a:2147483648 ≤ n1) (n1b:n1 < 4294967296) (n0b:n0 < 4294967296) (u1b:u1 < 4294967296) (ub:u < n1 * 4294967296 + n0) :
  ∃ q0 r0 m0 Q a m U2,u / n1 = q0∧q0 * n1 % 18446744073709551616 = m0∧m0 < 18446744073709551616∧(u + 18446744073709551616 - m0) % 18446744073709551616 = r0∧Hf n1 n0 u u1 q0 r0 ∧
   (∀ q r,Hf n1 n0 u u1 q r→(q < 4294967296∧q * n0 ≤ 4294967296 * r + u1)→q = Q)∧(∀ q r,Hf n1 n0 u u1 q r→¬ (q < 4294967296∧q * n0 ≤ 4294967296 * r + u1)→¬ r + n1 < 4294967296→q - 1 = Q) ∧
   Q < 4294967296∧u * 4294967296 % 18446744073709551616 = a∧Q * (n1 * 4294967296 + n0) % 18446744073709551616 = m∧m < 18446744073709551616∧(a + u1 + 18446744073709551616 - m) % 18446744073709551616 = U2∧U2 < n1 * 4294967296 + n0 ∧
   Q = (u * 4294967296 + u1) / (n1 * 4294967296 + n0)∧U2 = (u * 4294967296 + u1) % (n1 * 4294967296 + n0):=by
 have hV0:0 < n1 * 4294967296 + n0:=by omega
 have hV:n1 * 4294967296 + n0 < 18446744073709551616:=by omega
 have hm:=Nat.div_mul_le_self u n1
 have hmb:u / n1 * n1 < 18446744073709551616:=Nat.lt_of_le_of_lt hm (by omega)
 have hdm:=Nat.div_add_mod (u * 4294967296 + u1) (n1 * 4294967296 + n0)
 have hml:=Nat.mod_lt (u * 4294967296 + u1) hV0
 refine ⟨_,_,_,(u * 4294967296 + u1) / (n1 * 4294967296 + n0),_,_,(u * 4294967296 + u1) % (n1 * 4294967296 + n0),rfl,Nat.mod_eq_of_lt hmb,hmb,rfl,?_,fun q r hf hc=>hf.done hc,fun q r hf hc hr=>hf.brk hc hr,Hf.qlt u1b ub,rfl,rfl,Nat.mod_lt _ (by decide),?_,hml,rfl,rfl⟩
 ·rw [sub_word (r:=u % n1) (by rw [Nat.mul_comm];exact Nat.div_add_mod u n1) (by omega)]
  exact Hf.first n1a n1b n0b u1b ub
 ·rw [Nat.mul_comm] at hdm
  exact two_word hdm (by omega)
theorem Div64_tr (h l y:Nat) (hl:l < 18446744073709551616) (hy:y < 18446744073709551616) (hh:h < y):Tr Tryz.prog 239 [Un h,Un l,Un y] [] [] fun v D=>v = div64 h l y∧D = []:=by
 by_cases h0:h = 0
 ·subst h0
  unfold div64
  rw [Nat.zero_mul,Nat.zero_add]
  exact Div64_low l y hl hy hh
 ·obtain ⟨s,hs,hse,hV1,hV2⟩:=lz_ex y hy (by omega)
  obtain ⟨g1,g2,g3,g4⟩:=d64 hs hl hh hV2
  have es:min (Int.toNat (s:Int)) 64 = s:=by rw [Int.toNat_natCast];exact Nat.min_eq_left (by omega)
  have es2:min (Int.toNat ((64 - s:Nat):Int)) 64 = 64 - s:=by rw [Int.toNat_natCast];exact Nat.min_eq_left (by omega)
  have hor:h * 2 ^ s ||| l / 2 ^ (64 - s) = h * 2 ^ s + l / 2 ^ (64 - s):=by rw [Nat.mul_comm h];exact or_add g2
  have hdu:=div_up (a:=h * 18446744073709551616 + l) (y:=y) (p:=2 ^ s) (Nat.pow_pos (by decide))
  have hsp:=pow_split (s:=s) (by omega)
  have hLb:l / 2 ^ (64 - s) < 18446744073709551616:=Nat.lt_of_le_of_lt (Nat.div_le_self _ _) hl
  have hVb:y * 2 ^ s = y * 2 ^ s / 4294967296 * 4294967296 + y * 2 ^ s % 4294967296:=by omega
  obtain ⟨q0,r0,m0,Q1,a1,m2,U2,A1,A2,A3,A4,A5,A6,A7,A8,A9,A10,A11,A12,A13,A14,A15⟩:=half_facts (n1:=y * 2 ^ s / 4294967296) (n0:=y * 2 ^ s % 4294967296) (u:=h * 2 ^ s + l / 2 ^ (64 - s)) (u1:=l * 2 ^ s % 18446744073709551616 / 4294967296) (by omega) (by omega) (by omega) (by omega) (by rw [← hVb];exact g3)
  obtain ⟨p0,r2',t0,Q2,a2,m3,U3,B1,B2,B3,B4,B5,B6,B7,B8,B9,B10,B11,B12,B13,B14,B15⟩:=half_facts (n1:=y * 2 ^ s / 4294967296) (n0:=y * 2 ^ s % 4294967296) (u:=U2) (u1:=l * 2 ^ s % 18446744073709551616 % 4294967296) (by omega) (by omega) (by omega) (by omega) A13
  rw [← hVb] at A10 A13 A14 A15 B10 B13 B14 B15
  have hD:=div_one (V:=y * 2 ^ s) (a:=(h * 2 ^ s + l / 2 ^ (64 - s)) * 4294967296 + l * 2 ^ s % 18446744073709551616 / 4294967296) (u0:=l * 2 ^ s % 18446744073709551616 % 4294967296) (by omega)
  rw [← A14,← A15] at hD
  rw [← B14,← B15] at hD
  have hN:((h * 2 ^ s + l / 2 ^ (64 - s)) * 4294967296 + l * 2 ^ s % 18446744073709551616 / 4294967296) * 4294967296 + l * 2 ^ s % 18446744073709551616 % 4294967296 = (h * 18446744073709551616 + l) * 2 ^ s:=by rw [g4];omega
  rw [hN,hdu.1,hdu.2] at hD
  have hw:=Div64_walk h l y s (y * 2 ^ s) (h * 2 ^ s) (l / 2 ^ (64 - s)) (h * 2 ^ s + l / 2 ^ (64 - s)) (l * 2 ^ s % 18446744073709551616) (y * 2 ^ s / 4294967296) (y * 2 ^ s % 4294967296) (l * 2 ^ s % 18446744073709551616 / 4294967296) (l * 2 ^ s % 18446744073709551616 % 4294967296)
   q0 r0 m0 Q1 a1 U2 p0 t0 r2' m2 m3 Q2 a2 U3 ((h * 18446744073709551616 + l) % y) h0 hs hl hy hh hse (by rw [es];exact Nat.mod_eq_of_lt hV2) rfl rfl (by rw [es];exact Nat.mod_eq_of_lt g1) (by rw [es2]) hor (by rw [es]) rfl rfl hV2 g1 hLb (by omega) (Nat.mod_lt _ (by decide))
   A1 A2 A3 A4 A5 A6 A7 A8 A9 A10 A11 A12 (by omega) B1 B2 B3 B4 B5 B6 B7 B8 B9 B10 B11 B12 (by rw [es,← hD.2];exact Nat.mul_div_cancel _ (Nat.pow_pos (by decide)))
  rw [← hD.1] at hw
  exact hw
end Go.Art
