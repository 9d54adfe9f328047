/- Texts put together: Ze Zf Zh Va Gc Rq Vb Vc Vg Vm As Vh Rc Vo Vp Vt StopO Vi. Conditions: none. -/
import Derived.Test.YtadfljaebfbccaaGreatWFf
set_option linter.unusedSimpArgs false
set_option linter.unusedVariables false
namespace Go.Art
open Go Go.Proofs Go.RowKit
structure DvG where
 j:Nat
 qs:List Nat
 rs:List Nat
 Q:Nat
section
variable {P:Program} {E:Env P} {n:Sh} {X:Cx} {s:List K} {fr:Fr} {A:List Ch} {ops:Array Oper} {rest:List Oper} {d:Nat} {ty t t':TypeId} {pos:String} {after:Array Edge} {x:Operand}
end
attribute [local irreducible] Fit pt own ro vw mpc lpt vels rels mow lrc dfr
end Go.Art
namespace Go.Art
open Go Go.Proofs Go.RowKit
attribute [local irreducible] Fit pt own ro vw mpc lpt vels rels mow lrc dfr
end Go.Art
namespace Go.Art
open Go Go.Proofs Go.RowKit
def pasc (n:Nat):List (List Int):=(List.range (n + 1)).map fun j=>Zs (dg (chs n j))
abbrev TNN:TypeId:=89
structure NxG where
 i:Nat
 o:Value
 hs:List Value
attribute [local irreducible] Fit pt own ro vw mpc lpt vels rels mow lrc dfr
attribute [local irreducible] lmp lme mit velg relg bnd owl
end Go.Art
namespace Go.Art
open Go Go.Proofs Go.RowKit
theorem chs_bnd:∀ n d,chs n d ≤ 2 ^ n
 | 0,0=>by simp [chs]
 | 0,d + 1=>by simp [chs]
 | n + 1,0=>by rw [show chs (n + 1) 0 = 1 from rfl];exact Nat.one_le_two_pow
 | n + 1,d + 1=>by
  rw [show chs (n + 1) (d + 1) = chs n d + chs n (d + 1) from rfl,Nat.pow_succ]
  have:=chs_bnd n d;have:=chs_bnd n (d + 1);omega
def risJ (d f k j:Nat):List (List Int):=(risR d (f + j + 1) k).map fun l=>((f + j:Nat):Int) :: l
structure RsG where
 i:Nat
 v:Value
 hs:List Value
attribute [local irreducible] Fit pt own ro vw mpc lpt vels rels mow lrc dfr
attribute [local irreducible] lmp lme mit velg relg bnd owl risJ
end Go.Art
namespace Go.Art
open Go Go.Proofs Go.RowKit
attribute [local irreducible] Fit pt own ro vw mpc lpt vels rels mow lrc dfr
end Go.Art
namespace Go.Art
open Go Go.Proofs Go.RowKit
theorem owl_ones {e:TypeId} {g:Int→Value} {hs:List Value} {ls:List (List Int)} {A:List Ch} (hl:hs.length = ls.length) (h:owl e g hs ls ∈ A) (w:World) (hw:Sat A w):∀ c ∈ hs,c.oneCell' = true:=fun c hc=>by
 obtain ⟨i,hi,rfl⟩:=List.mem_iff_getElem.1 hc
 have h1:Sat (owls e g hs ls) w:=hw.h _ h
 have h2:OwnO w e (hs.getD i nS) ((ls.getD i []).map g):=h1.h _ (List.mem_of_getElem? (owls_get hl (by omega)))
 rw [List.getD_eq_getElem?_getD,List.getElem?_eq_getElem hi] at h2
 rcases h2 with ⟨h3,_⟩ | ⟨b,o,cap,cur,h3,_⟩
 ·show Value.oneCell' hs[i] = true;rw [show hs[i] = _ from h3];rfl
 ·show Value.oneCell' hs[i] = true;rw [show hs[i] = _ from h3];rfl
structure RlG where
 i:Nat
 o:Value
 hs:List Value
attribute [local irreducible] Fit pt own ro vw mpc lpt vels rels mow lrc dfr
attribute [local irreducible] lmp lme mit velg relg bnd owl dfrl
def cntR (n S:Nat):Prop:=(n ≤ 4096→n = S)∧(4096 < n→4096 < S)∧n ≤ 8193
end Go.Art
namespace Go.Art
open Go Go.Proofs Go.RowKit
def szL (t:List Int) (k i:Nat):List (List Int):=if t.getD i 0 = 0 then [] else risR (i + 1) 0 k
theorem setP_zero (t:List Int) (k:Nat):setP t k 0 = []:=rfl
theorem setP_succ (t:List Int) (k n:Nat):setP t k (n + 1) = setP t k n ++ szL t k n:=fm_succ _ _
theorem setP_pre (t:List Int) (k:Nat) {i n:Nat} (h:i ≤ n):∃ r,setP t k n = setP t k i ++ r:=fm_pre _ h
theorem szL_len {t:List Int} {k i:Nat}:(szL t k i).length = if t.getD i 0 = 0 then 0 else chs k (i + 1):=by
 unfold szL
 split
 ·rfl
 ·rw [risR_len];rfl
theorem solE_13 {t:List Int} {k:Int} (hz:¬ solE t k = 0):solE t k = 13:=by
 unfold solE at hz ⊢
 split
 ·rfl
 ·split
  ·rename_i a b;exact absurd (by rw [if_neg a,if_pos b]) hz
  ·rfl
theorem setsW_err {t:List Int} {k:Int} (h:¬ solE t k = 0):setsW t k = ([],13):=if_neg h
theorem setsW_long {t:List Int} {k:Int} (h:solE t k = 0) (h2:4096 < (setP t k.toNat t.length).length):setsW t k = ([],4):=by unfold setsW;rw [if_pos h,if_pos h2]
theorem setsW_ok {t:List Int} {k:Int} (h:solE t k = 0) (h2:¬ 4096 < (setP t k.toNat t.length).length):setsW t k = (setP t k.toNat t.length,0):=by unfold setsW;rw [if_pos h,if_neg h2]
attribute [local irreducible] Fit pt own ro vw mpc lpt vels rels mow lrc dfr
attribute [local irreducible] lmp lme mit velg relg bnd owl
structure SrG where
 i:Nat
 v:Value
 hs:List Value
attribute [local irreducible] setP szL solE
end Go.Art
namespace Go.Art
open Go Go.Proofs Go.RowKit
structure StG where
 i:Nat
 v:Value
 hs:List Value
 Ds:List Nat
attribute [local irreducible] Fit pt own ro vw mpc lpt vels rels mow lrc dfr
attribute [local irreducible] lmp lme mit velg relg bnd owl dfrl setP szL solE
theorem MSets_tr (tv:Value) (t:List Int) (k:Int):Tr Tryz.prog 12 [tv,I k] [vw tv (Is t)] []
  fun u D=>∃ v hs,u = tup2 v (I (setsW t k).2)∧v.oneCell' = true∧hs.length = (setsW t k).1.length∧D = [own TLs v hs,owl TLI I hs (setsW t k).1]:=by
 have hC:=SoCheck_tr tv t k
 by_cases hz:solE t k = 0
 rotate_left
 ·rw [setsW_err hz]
  have h13:solE t k = 13:=solE_13 hz
  rw [h13] at hC
  refine Tr.enterM env _ Tryz.func12 (by kernel_rfl) rfl Tryz.ntmps12 rfl (by repeat (first | exact has00 | refine has01 ?_)) fun w0=>?_
  repeat' first|(refine gca ?_;first|(refine ca hC ?_;rintro _ _ ⟨rfl,rfl⟩))|refine al fun c=>?_|(refine wo ?_;first|(refine ao ?_;first|refine oa ?_)|refine oa ?_|refine sr ?_)|(refine gc ?_;first|refine ct ?_)|refine sq ?_|refine rg ?_|refine xc ?_|refine nl ?_|refine rt ?_
  refine TX.im (dfrl_nil _) ?_
  refine TX.im (owl_nil (e:=TLI) (g:=I) _) ?_
  refine TX.im (own_nil TLs _) ?_
  exact mcc (Ds:=[]) (T:=TLL) (T2:=TEr) ⟨nS,[],rfl,rfl,rfl,rfl⟩
 rw [hz] at hC
 obtain ⟨z1,z2,z3,_⟩:=solE_zero hz
 obtain ⟨kn,rfl⟩ : ∃ kn:Nat,k = kn:=⟨k.toNat,by omega⟩
 have hlong:=@setsW_long t kn hz
 have hok:=@setsW_ok t kn hz
 rw [Int.toNat_natCast] at hlong hok
 clear z3 hz
 have hp:=@setP_pre t kn
 refine Tr.enterM env _ Tryz.func12 (by kernel_rfl) rfl Tryz.ntmps12 rfl (by repeat (first | exact has00 | refine has01 ?_)) fun w0=>?_
 refine TC.leni (v:=tv) (l:=t) fun htl=>?_
 repeat' first|(refine gca ?_;first|(refine ca hC ?_;rintro _ _ ⟨rfl,rfl⟩))|refine al fun c=>?_|(refine wo ?_;first|(refine ao ?_;first|refine oa ?_)|refine oa ?_|refine lnm ?_)|(refine gc ?_;first|refine cf ?_)|refine sq ?_|refine rg ?_|refine xc ?_|refine nl ?_|refine sk ?_|refine bk ?_
 rename_i c4 c5
 clear hC
 refine TC.im (owl_nil (e:=TLI) (g:=I) _) ?_
 refine TC.im (own_nil TLs _) ?_
 refine TC.im (dfrl_nil _) ?_
 refine TC.loopD (ι:=StG) (fun g=>g.Ds) (fun g=>[(16,I g.i)]) (fun g=>[dfrl g.Ds,pt c [g.v] TLL,own TLs g.v g.hs,owl TLI I g.hs (setP t kn g.i),pt c4 [nS] TLL,pt c5 [I 0] TEr]) (fun g=>g.i ≤ t.length∧g.v.oneCell' = true∧g.hs.length = (setP t kn g.i).length∧(setP t kn g.i).length ≤ 4096) (fun g=>t.length - g.i) ⟨0,nS,[],[]⟩ [0,1,4,5,6,14,15] ⟨Nat.zero_le _,rfl,by rw [setP_zero];rfl,by rw [setP_zero];exact Nat.zero_le _⟩ ?_ (hf:=by dsimp only;rw [setP_zero];exact fitA)
 rintro ⟨i,v,hs,Ds⟩ ⟨hi,hv,hl,hl2⟩
 dsimp only at hi hv hl hl2 ⊢
 by_cases hlt:i < t.length
 ·have hss:=setP_succ t kn i
  obtain ⟨r2,hr2⟩:=@hp (i + 1) t.length hlt
  clear hp
  by_cases hti:t.getD i 0 = 0
  ·rw [show szL t kn i = [] by unfold szL;exact if_pos hti,List.append_nil] at hss
   repeat' first|refine lie hti ?_|(refine wo ?_;first|(refine ao ?_;first|refine aw ?_|refine oa ?_)|refine oa ?_|refine ixmn ?_)|(refine gc ?_;first|refine ct ?_|(refine ci (fun hB=>?_) (fun hB=>?_) <;> try (exfalso;omega)))|refine sq ?_|refine rg ?_|refine xc ?_|refine nl ?_|refine sk ?_|refine bk ?_|refine xe ?_
   exact lpD ⟨i + 1,v,hs,Ds⟩ ⟨hlt,hv,by dsimp only;rw [hss];exact hl,by dsimp only;rw [hss];exact hl2⟩ (hf:=by dsimp only;rw [hss];exact fitA)
  ·have hO:=of_tr nS (kn:Int) ((0:Nat):Int) ((i + 1:Nat):Int) rfl
   have hseq:=fun pd ps pf pk=>of1_seq (i + 1) 0 kn [] pd ps pf pk nS (by omega) (by omega) (by simp;omega) rfl
   rw [risL_nil,← show szL t kn i = risR (i + 1) 0 kn by unfold szL;exact if_neg hti] at hseq
   rw [hr2,hss] at hlong
   clear hr2 hok
   generalize szL t kn i = L at *
   generalize setP t kn i = M at *
   generalize hy:t.getD i 0 = y at *
   repeat' first|(refine gca ?_;first|(refine ca hO ?_;rintro _ _ ⟨pd,ps,pf,pk,rfl,rfl⟩))|refine lie hy ?_|(refine aw (m:=((i + 1:Nat):Int)) ?_)|(refine wo ?_;first|(refine ao ?_;first|refine oa ?_)|refine oa ?_|refine ixmn ?_)|(refine gc ?_;first|(refine ci (fun hB=>?_) (fun hB=>?_) <;> try (exfalso;omega)))|refine sq ?_|refine rg ?_|refine xc ?_|refine nl ?_|refine sk ?_|refine bk ?_
   have hS:=@SeqO.run _ _ _ _ _ _ (hseq pd ps pf pk)
   clear hseq hO
   rw [show owl TLI I hs M = owl TLI I hs (M ++ L.take 0) by rw [List.take_zero,List.append_nil]]
   refine TC.range [lpt pd [I ((i + 1:Nat):Int)] TLI,lpt ps [nS] TLs,lpt pf [I ((0:Nat):Int)] TLI,lpt pk [I kn] TLI,vw nS (Is [])] [pt c [v] TLL,pt c5 [I 0] TEr,pt c4 [nS] TLL,own TLs v hs,owl TLI I hs (M ++ L.take 0)] (fun l2 rec Dm pend B'=>∃ v hs j,hs.length = M.length + j∧v.oneCell' = true∧((pend = none∧j = L.length∧M.length + j ≤ 4096∧B' = [dfr Dm,pt c [v] TLL,pt c5 [I 0] TEr,pt c4 [nS] TLL,own TLs v hs,owl TLI I hs (M ++ L.take j)])∨(pend = some .ret∧4096 < M.length + L.length∧B' = [dfr Dm,pt c [v] TLL,pt c5 [I 4] TEr,pt c4 [nS] TLL,own TLs v hs,owl TLI I hs (M ++ L.take j)]))) ?_ ?_
   ·intro rec l2 Dm hr
    refine Tr.unb (hS (α:=RwsG) l2 (fun g=>bnd [lrc l2 rec (bif g.st then .done else .ready) (bif g.st then some .ret else none),dfr Dm,pt c [g.v] TLL,pt c5 [I (bif g.st then 4 else 0)] TEr,pt c4 [nS] TLL,own TLs g.v g.hs,owl TLI I g.hs (M ++ L.take g.i)]) (fun g j=>g.st = false∧g.i = j∧g.hs.length = M.length + j∧M.length + j ≤ 4096∧g.v.oneCell' = true) (fun g=>g.st = true∧4096 < M.length + L.length∧g.hs.length = M.length + g.i∧g.v.oneCell' = true) ⟨v,hs,0,false⟩ ⟨rfl,rfl,hl,hl2,hv⟩ (fun p=>bnd_nob (nb1 (nb1 (nb1 (nb1 (nb1 (nb1 (nb1 nb0)))))))) ?_) ?_
    ·rintro ⟨v,hs,j,st⟩ j' x hx ⟨g1,g2,g3,g4,g5⟩ hj
     dsimp only at g1 g2 g3 g4 g5
     subst g1
     subst g2
     have hll:(L.take j).length = j:=by rw [List.length_take];omega
     have htk:=take_succ' hj []
     refine Ty.bndX ?_
     generalize L.getD j [] = row at *
     show Ty _ _ _ _ (lrc l2 rec .ready none :: [dfr Dm,pt c [v] TLL,pt c5 [I 0] TEr,pt c4 [nS] TLL,own TLs v hs,owl TLI I hs (M ++ L.take j),own TLI x (Is row)]) _
     refine Ty.intro env hr (by repeat (first | exact has00 | refine has01 ?_)) fun w1=>?_
     by_cases hfull:M.length + j = 4096
     ·have hlb:4096 < M.length + L.length:=by omega
      repeat' first|refine xbeg ?_|(refine wo ?_;first|(refine ao ?_;first|refine oa ?_)|refine oa ?_|refine ld ?_|refine ln ?_|refine sr ?_)|(refine gc ?_;first|(refine ci (fun hB=>?_) (fun hB=>?_) <;> try (exfalso;omega)))|refine sq ?_|refine rg ?_|refine xc ?_|refine nl ?_|refine bk ?_|refine rt ?_
      exact yr ⟨⟨v,hs,j,true⟩,rfl,.inr ⟨rfl,rfl,hlb,g3,g5⟩⟩
     ·repeat' first|refine xbeg ?_|refine sli (vs:=[x]) (fun q2=>?_) (h1:=one_cons hx one_nil)|(refine ap (xs:=hs) (news:=[x]) (fun o2=>?_) (h1:=one_cons hx one_nil);refine TO.one (v:=o2) (xs:=hs ++ [x]) fun ho2=>?_)|(refine wo ?_;first|(refine ao ?_;first|refine oa ?_)|refine oa ?_|refine ld ?_|refine ln ?_|refine sr ?_)|(refine gc ?_;first|(refine ci (fun hB=>?_) (fun hB=>?_) <;> try (exfalso;omega)))|refine sq ?_|refine rg ?_|refine xc ?_|refine nl ?_|refine sk ?_|refine bk ?_|refine xb ?_
      refine TX.im (owl_push (hs:=hs) (ls:=M ++ L.take j) (v:=x) (l:=row) (by rw [List.length_append,hll];exact g3) fitA) ?_
      rw [List.append_assoc,← htk]
      exact yn ⟨⟨o2,hs ++ [x],j + 1,false⟩,rfl,.inl ⟨rfl,rfl,rfl,by simp [g3];omega,by omega,ho2⟩⟩
    ·rintro _ _ ⟨⟨v,hs,j,st⟩,rfl,⟨g1,g2,g3,g4,g5⟩ | ⟨g1,g2,g3,g4⟩⟩
     ·dsimp only at g1 g2 g3 g4 g5
      subst g1
      exact ⟨_,rfl,.ready,none,_,rfl,by decide,v,hs,j,by omega,g5,.inl ⟨rfl,by omega,by omega,rfl⟩⟩
     ·dsimp only at g1 g2 g3 g4
      subst g1
      exact ⟨_,rfl,.done,some .ret,_,rfl,by decide,v,hs,j,g3,g4,.inr ⟨rfl,g2,rfl⟩⟩
   ·rintro l2 rec Dm pend B' ⟨v,hs,j,g1,g2,⟨rfl,g3,g4,rfl⟩ | ⟨rfl,g3,rfl⟩⟩
    ·show TX env _ _ _ _ _ _
     refine TX.im (dfrl_push (D:=Dm) (Ds:=Ds) fitA) ?_
     rw [g3,List.take_length,← hss]
     repeat' first|(refine wo ?_;first|(refine ao ?_;first|refine aw ?_)|refine oa ?_)|refine rg ?_|refine xc ?_|refine nl ?_|refine xb ?_
     exact lpD ⟨i + 1,v,hs,Dm :: Ds⟩ ⟨hlt,g2,by dsimp only;rw [hss,List.length_append];omega,by dsimp only;rw [hss,List.length_append];omega⟩
    ·show TC env _ _ _ _ _ _
     rw [hlong (by simp only [List.length_append];omega)]
     refine TC.im (dfrl_push (D:=Dm) (Ds:=Ds) fitA) ?_
     repeat' first|refine rt ?_
     refine TX.im (owl_nil (e:=TLI) (g:=I) _) ?_
     refine TX.im (own_nil TLs _) ?_
     exact mcc (Ds:=Dm :: Ds) (T:=TLL) (T2:=TEr) ⟨nS,[],rfl,rfl,rfl,rfl⟩
 ·obtain rfl:i = t.length:=by omega
  rw [hok (by omega)]
  repeat' first|(refine wo ?_;first|(refine ao ?_;first|refine oa ?_)|refine ld ?_|refine sr ?_)|(refine gc ?_;first|(refine ci (fun hB=>?_) (fun hB=>?_) <;> try (exfalso;omega)))|refine sq ?_|refine rg ?_|refine xc ?_|refine nl ?_|refine xe ?_|refine rt ?_
  exact mcc (Ds:=Ds) (T:=TLL) (T2:=TEr) ⟨v,hs,rfl,hv,hl,rfl⟩
end Go.Art
namespace Go.Art
open Go Go.Proofs Go.RowKit
def refE (t:List Int) (k n:Int):Int:=if solE t k = 0 then (if n < 0∨4096 < n then 3 else 0) else 13
theorem refE_zero {t:List Int} {k n:Int} (h:refE t k n = 0):solE t k = 0∧0 ≤ n∧n ≤ 4096:=by
 unfold refE at h
 split at h
 ·split at h
  ·cases h
  ·exact ⟨by assumption,by omega,by omega⟩
 ·cases h
def prodC (k:Nat):Nat→Nat
 | 0=>1
 | i + 1=>prodC k i * chs k (i + 1)
def prodX (k d:Nat):Nat→Nat
 | 0=>1
 | i + 1=>if i + 1 = d then prodX k d i else prodX k d i * chs k (i + 1)
theorem prodX_lt {k d:Nat}:∀ {n:Nat},n < d→prodX k d n = prodC k n
 | 0,_=>rfl
 | n + 1,h=>by unfold prodX prodC;rw [if_neg (by omega),prodX_lt (by omega)]
theorem prodX_mul {k d:Nat} (h1:1 ≤ d):∀ {n:Nat},d ≤ n→prodX k d n * chs k d = prodC k n
 | 0,h=>by omega
 | n + 1,h=>by
  unfold prodX prodC
  by_cases e:n + 1 = d
  ·rw [if_pos e,prodX_lt (by omega),e]
  ·rw [if_neg e,← prodX_mul h1 (by omega),Nat.mul_assoc,Nat.mul_comm (chs k (n + 1)),← Nat.mul_assoc]
theorem prodC_pos {k:Nat}:∀ {n:Nat},n ≤ k→prodC k n ≠ 0
 | 0,_=>Nat.one_ne_zero
 | n + 1,h=>by unfold prodC;exact Nat.mul_ne_zero (prodC_pos (by omega)) (chs_pos (by omega))
theorem prodC_le {k:Nat} (hk:k ≤ 40):∀ n,prodC k n ≤ 1099511627776 ^ n
 | 0=>by simp [prodC]
 | n + 1=>by
  unfold prodC
  rw [Nat.pow_succ]
  exact Nat.mul_le_mul (prodC_le hk n) (Nat.le_trans (chs_bnd k (n + 1)) (Nat.le_trans (Nat.pow_le_pow_right (by decide) hk) (by decide)))
theorem prodX_le {k d n:Nat} (h1:1 ≤ d) (h2:d ≤ n) (h3:n ≤ k):prodX k d n ≤ prodC k n:=by
 rw [← prodX_mul h1 h2]
 exact Nat.le_mul_of_pos_right _ (Nat.pos_of_ne_zero (chs_pos (by omega)))
def oneS (t:List Int) (k:Nat):Nat:=t.sum.toNat * prodC k t.length
def wS (t:List Int) (k d:Nat):Nat:=(t.getD (d - 1) 0).toNat * prodX k d t.length
def itemS (t:List Int) (k:Nat):List (List Int × Nat):=(setP t k t.length).map fun s=>(s,wS t k s.length)
theorem itemS_len (t:List Int) (k:Nat):(itemS t k).length = (setP t k t.length).length:=by simp [itemS]
theorem itemS_fst (t:List Int) (k:Nat):(itemS t k).map (·.1) = setP t k t.length:=by unfold itemS;rw [List.map_map];exact List.map_id _
theorem le_sum {t:List Int} (h:∀ w ∈ t,0 ≤ w):∀ w ∈ t,w ≤ t.sum:=by
 induction t with
 | nil=>intro w hw;cases hw
 | cons a r ih=>
  intro w hw
  have h1:0 ≤ r.sum:=by
   clear ih hw
   induction r with
   | nil=>simp
   | cons b s ih2=>
    have:=h b (by simp)
    have:=ih2 fun w hw=>h w (by rcases List.mem_cons.1 hw with rfl | hw;simp;simp [hw])
    simp only [List.sum_cons];omega
  rw [List.sum_cons]
  have ha:=h a (by simp)
  rcases List.mem_cons.1 hw with rfl | hw
  ·omega
  ·have:=ih (fun w hw=>h w (by simp [hw])) w hw;omega
theorem oneS_pos {t:List Int} {k:Nat} (hz:solE t k = 0):oneS t k ≠ 0:=by
 obtain ⟨z1,z2,z3,z4⟩:=solE_zero hz
 have:=sum_posT z3 z4
 exact Nat.mul_ne_zero (by omega) (prodC_pos (by omega))
theorem oneS_lt {t:List Int} {k:Nat} (hz:solE t k = 0) (hk:k ≤ 40) (hl:t.length ≤ 12):oneS t k < 18446744073709551616 ^ 10:=by
 obtain ⟨z1,z2,z3,z4⟩:=solE_zero hz
 have h1:=(sum_wOk z3).2
 have h2:t.sum.toNat ≤ 268435456:=by
  have:(16777215:Int) * t.length ≤ 16777215 * 12:=by omega
  omega
 have h3:=prodC_le hk t.length
 have h4:1099511627776 ^ t.length ≤ 1099511627776 ^ 12:=Nat.pow_le_pow_right (by decide) hl
 have h5:oneS t k ≤ 268435456 * 1099511627776 ^ 12:=Nat.mul_le_mul h2 (Nat.le_trans h3 h4)
 exact Nat.lt_of_le_of_lt h5 (by decide)
theorem wS_le {t:List Int} {k d:Nat} (hz:solE t k = 0) (h1:1 ≤ d) (h2:d ≤ t.length):wS t k d ≤ oneS t k:=by
 obtain ⟨z1,z2,z3,z4⟩:=solE_zero hz
 have hm:t.getD (d - 1) 0 ∈ t:=by rw [List.getD_eq_getElem?_getD,List.getElem?_eq_getElem (by omega)];exact List.getElem_mem (by omega)
 have:=le_sum (fun w hw=>(z3 w hw).1) _ hm
 exact Nat.mul_le_mul (by omega) (prodX_le h1 h2 (by omega))
theorem cha_eq {t:List Int} {k d:Nat} (hz:solE t k = 0) (h1:1 ≤ d) (h2:d ≤ t.length):mkRat (t.getD (d - 1) 0) (chs k d * t.sum.toNat) = mkRat ((wS t k d:Nat):Int) (oneS t k):=by
 obtain ⟨z1,z2,z3,z4⟩:=solE_zero hz
 have hs:=sum_posT z3 z4
 have hm:t.getD (d - 1) 0 ∈ t:=by rw [List.getD_eq_getElem?_getD,List.getElem?_eq_getElem (by omega)];exact List.getElem_mem (by omega)
 have h0:=(z3 _ hm).1
 have hx:prodX k d t.length ≠ 0:=fun e=>by
  have:=prodX_mul (k:=k) h1 h2
  rw [e,Nat.zero_mul] at this
  exact prodC_pos (k:=k) (n:=t.length) (by omega) this.symm
 have:=mk_scale (t.getD (d - 1) 0).toNat (chs k d * t.sum.toNat) (prodX k d t.length) (Nat.mul_ne_zero (chs_pos (by omega)) (by omega)) hx
 rw [Int.toNat_of_nonneg h0] at this
 rw [this]
 congr 1
 unfold oneS
 rw [← prodX_mul (k:=k) h1 h2]
 grind
theorem itemS_mem {t:List Int} {k:Nat} {s:List Int × Nat} (h:s ∈ itemS t k):(1 ≤ s.1.length∧s.1.length ≤ t.length)∧s.2 = wS t k s.1.length∧s.1 ∈ risR s.1.length 0 k:=by
 obtain ⟨l,hl,rfl⟩:=List.mem_map.1 h
 obtain ⟨a1,a2,_,a4⟩:=setP_mem hl
 exact ⟨⟨a1,a2⟩,rfl,a4⟩
theorem itemS_le {t:List Int} {k:Nat} (hz:solE t k = 0):∀ s ∈ itemS t k,s.2 ≤ oneS t k:=fun s h=>by
 obtain ⟨a1,a2,_⟩:=itemS_mem h
 rw [a2];exact wS_le hz a1.1 a1.2
theorem itemS_pos {t:List Int} {k:Nat} (hz:solE t k = 0):0 < (itemS t k).length:=by
 obtain ⟨z1,z2,z3,w,hw,hw0⟩:=solE_zero hz
 obtain ⟨i,hi,rfl⟩:=List.mem_iff_getElem.1 hw
 rw [itemS_len]
 obtain ⟨r,hr⟩:=setP_pre t k (show i + 1 ≤ t.length from hi)
 have h1:(szL t k i).length ≠ 0:=by
  rw [szL_len,if_neg (by simp [List.getD_eq_getElem?_getD,hi];omega)]
  exact chs_pos (by omega)
 rw [hr,setP_succ]
 simp only [List.length_append];omega
def massW (W:List (List Int)→Bool) (t:List Int) (k n:Int):Fr3 × Int:=
 if refE t k n = 0 then (if (setsW t k).2 = 0 then sumW W (itemS t k.toNat) (oneS t k.toNat) n.toNat else (rqn,4)) else (rqn,refE t k n)
structure DrG where
 i:Nat
 v:Value
 hs:List (Value × Value)
attribute [local irreducible] Fit pt own ro vw mpc lpt vels rels mow lrc dfr
attribute [local irreducible] lmp lme mit velg relg bnd owl setP szL solE risR chaW oneS wS
theorem mrefuses_tr (tv:Value) (t:List Int) (k n:Int):Tr Tryz.prog 47 [tv,I k,I n] [vw tv (Is t)] [] fun u D=>u = I (refE t k n)∧D = []:=by
 have hC:=SoCheck_tr tv t k
 have h13:=@solE_13 t k
 unfold refE
 refine Tr.enter env _ Tryz.func47 (by kernel_rfl) rfl Tryz.ntmps47 rfl (by repeat (first | exact has00 | refine has01 ?_)) fun w0=>?_
 by_cases hz:solE t k = 0
 ·rw [hz] at hC
  rw [if_pos hz]
  repeat' first|(refine gca ?_;first|(refine ca hC ?_;rintro _ _ ⟨rfl,rfl⟩))|(refine wo ?_;first|(refine ao ?_;first|refine oa ?_)|refine oa ?_|refine gy ?_|refine gn ?_|(refine gsi (fun hB=>?_) (fun hB=>?_) <;> try (exfalso;omega)))|(refine gc ?_;first|refine ct ?_|refine cf ?_|(refine ci (fun hB=>?_) (fun hB=>?_) <;> try (exfalso;omega)))|refine sq ?_|refine rg ?_|refine xc ?_|refine nl ?_|refine sk ?_|refine bk ?_|refine rt ?_|refine xb ?_
  all_goals first | exact r1 ⟨by rw [if_pos (by omega)],rfl⟩ | exact r1 ⟨by rw [if_neg (by omega)],rfl⟩
 ·rw [h13 hz] at hC
  rw [if_neg hz]
  repeat' first|(refine gca ?_;first|(refine ca hC ?_;rintro _ _ ⟨rfl,rfl⟩))|(refine wo ?_;first|(refine ao ?_;first|refine oa ?_)|refine oa ?_)|(refine gc ?_;first|refine ct ?_)|refine sq ?_|refine rg ?_|refine xc ?_|refine nl ?_|refine bk ?_|refine rt ?_
  exact r1 ⟨rfl,rfl⟩
abbrev itmC (v:Value) (ss:List Value) (hs:List (Value × Value)) (L:List (List Int × Nat)) (D:Nat):List Ch:=[oww TIm 4 v L.length (ics ss (fracs L D) hs),owl TLI I ss (L.map (·.1)),ofr hs (fracs L D)]
theorem drawn_err (tv:Value) (t:List Int) (k n:Int) (hz:refE t k n ≠ 0):Tr Tryz.prog 37 [tv,I k,I n] [vw tv (Is t)] [] fun u D=>u = tup2 nS (I (refE t k n))∧D = []:=by
 have hR:=mrefuses_tr tv t k n
 generalize refE t k n = e at *
 refine Tr.enter env _ Tryz.func37 (by kernel_rfl) rfl Tryz.ntmps37 rfl (by repeat (first | exact has00 | refine has01 ?_)) fun w0=>?_
 repeat' first|(refine gca ?_;first|(refine ca hR ?_;rintro _ _ ⟨rfl,rfl⟩))|(refine wo ?_;first|(refine ao ?_;first|refine oa ?_)|refine oa ?_)|(refine gc ?_;first|(refine cn (fun hB=>?_) (fun hB=>?_) <;> try (exfalso;omega)))|refine sq ?_|refine rg ?_|refine xc ?_|refine nl ?_|refine rt ?_
 exact r2 ⟨rfl,rfl⟩
theorem drawn_long (tv:Value) (t:List Int) (k n:Int) (hz:refE t k n = 0) (h2:setsW t k = ([],4)):Tr Tryz.prog 37 [tv,I k,I n] [vw tv (Is t)] [] fun u D=>u = tup2 nS (I 4)∧D = []:=by
 have hR:=mrefuses_tr tv t k n
 have hS:=MSets_tr tv t k
 rw [hz] at hR
 rw [h2] at hS
 refine Tr.enter env _ Tryz.func37 (by kernel_rfl) rfl Tryz.ntmps37 rfl (by repeat (first | exact has00 | refine has01 ?_)) fun w0=>?_
 repeat' first|(refine gca ?_;first|(refine ca hR ?_;rintro _ _ ⟨rfl,rfl⟩)|(refine ca hS ?_;rintro _ _ ⟨v,hs,rfl,hv,hl,rfl⟩))|(refine wo ?_;first|(refine ao ?_;first|refine oa ?_)|refine oa ?_|refine ln ?_)|(refine gc ?_;first|refine cf ?_)|refine sq ?_|refine rg ?_|refine xc ?_|refine nl ?_|refine sk ?_|refine bk ?_
 obtain rfl:hs = []:=List.length_eq_zero_iff.1 hl
 refine TC.loop (ι:=Nat) (fun i=>[(31,I i)]) (fun _=>[]) (fun i=>i = 0) (fun i=>0) 0 [11,10,30] rfl ?_
 rintro i rfl
 repeat' first|(refine wo ?_;first|(refine ao ?_;first|refine oa ?_)|refine oa ?_)|(refine gc ?_;first|refine cf ?_)|refine sq ?_|refine rg ?_|refine xc ?_|refine nl ?_|refine xe ?_|refine rt ?_
 exact r2 ⟨rfl,rfl⟩
theorem drawn_tr (tv:Value) (t:List Int) (k:Nat) (n:Int) (hz:refE t k n = 0) (h2:setsW t k = (setP t k t.length,0)) (h3:(setP t k t.length).length ≤ 4096):Tr Tryz.prog 37 [tv,I k,I n] [vw tv (Is t)] []
  fun u D=>∃ v ss hs,u = tup2 v (I 0)∧v.oneCell' = true∧ss.length = (itemS t k).length∧hs.length = (itemS t k).length∧D = itmC v ss hs (itemS t k) (oneS t k):=by
 have hR:=mrefuses_tr tv t k n
 have hS:=MSets_tr tv t k
 obtain ⟨hsz,_⟩:=refE_zero hz
 rw [hz] at hR
 rw [h2] at hS
 have hCh:=fun d=>ChaW_tr tv t k d
 have hmem:=@itemS_mem t k
 have hce:=fun d h1 h2=>cha_eq (d:=d) hsz h1 h2
 have hcw:∀ d:Nat,1 ≤ d→d ≤ t.length→chaW t k d = (rqf (mkRat (t.getD (d - 1) 0) (chs k d * t.sum.toNat)),0):=fun d h1 h2=>by
  unfold chaW
  rw [if_pos hsz,if_neg (by omega),Int.toNat_natCast,Int.toNat_natCast,show (((d:Int) - 1).toNat) = d - 1 by omega]
 obtain ⟨L,hL⟩ : ∃ L,L = itemS t k:=⟨_,rfl⟩
 have hLl:L.length ≤ 4096:=by rw [hL,itemS_len];exact h3
 rw [← itemS_fst,← hL] at hS
 simp only [← hL] at hmem ⊢
 have hgl:∀ i,i < L.length→L.getD i ([],0) ∈ L:=fun i h=>by rw [List.getD_eq_getElem?_getD,List.getElem?_eq_getElem h];exact List.getElem_mem h
 have hlen:∀ s ∈ L,s.1.length ≤ t.length:=fun s hs=>(hmem hs).1.2
 have hch:∀ i,i < L.length→chaW t k ((L.getD i ([],0)).1.length) = (rqf ((fracs L (oneS t k)).getD i 0),0):=fun i h=>by
  obtain ⟨a1,a2,_⟩:=hmem (hgl i h)
  rw [hcw _ a1.1 a1.2,hce _ a1.1 a1.2,fracs_get h,a2]
 have hfl:(fracs L (oneS t k)).length = L.length:=by simp
 have hll:(L.map fun s:List Int × Nat=>s.1).length = L.length:=List.length_map ..
 have hfg:=fun i (h:i < L.length)=>fst_get (L:=L) h
 clear hL hz h2 h3 hmem hce hcw hgl
 unfold itmC
 generalize fracs L (oneS t k) = Q at *
 rw [hll] at hS
 refine Tr.enter env _ Tryz.func37 (by kernel_rfl) rfl Tryz.ntmps37 rfl (by repeat (first | exact has00 | refine has01 ?_)) fun w0=>?_
 refine TC.leni (v:=tv) (l:=t) fun htl=>?_
 repeat' first|(refine gca ?_;first|(refine ca hR ?_;rintro _ _ ⟨rfl,rfl⟩)|(refine ca hS ?_;rintro _ _ ⟨sv,ss,rfl,hsv,hsl,rfl⟩))|(refine wo ?_;first|(refine ao ?_;first|refine oa ?_)|refine oa ?_|refine ln ?_)|(refine gc ?_;first|refine cf ?_)|refine sq ?_|refine rg ?_|refine xc ?_|refine nl ?_|refine sk ?_|refine bk ?_
 refine TC.im (oww_nil TIm 4 _) (TC.im (owl_nil (e:=T64) (g:=wU) _) ?_)
 refine TC.fact (owl_ones (e:=TLI) (g:=I) (hs:=ss) (ls:=L.map fun s=>s.1) (by rw [hll];exact hsl) memA) fun hso=>?_
 refine TC.loop (ι:=DrG) (fun g=>[(31,I g.i),(11,g.v)]) (fun g=>[oww TIm 4 g.v g.i (ics (ss.take g.i) (Q.take g.i) g.hs),ofr g.hs (Q.take g.i)]) (fun g=>g.i ≤ L.length∧g.v.oneCell' = true∧g.hs.length = g.i) (fun g=>L.length - g.i) ⟨0,nS,[]⟩ [0,1,10,29,30] ⟨Nat.zero_le _,rfl,rfl⟩ ?_
 rintro ⟨i,v,hs⟩ ⟨hi,hv,hl⟩
 dsimp only at hi hv hl ⊢
 by_cases hlt:i < L.length
 ·have hg1:ss[i]? = some (ss.getD i nS):=by rw [List.getD_eq_getElem?_getD,List.getElem?_eq_getElem (by omega)];rfl
  have hs1:(ss.getD i nS).oneCell' = true:=hso _ (by rw [List.getD_eq_getElem?_getD,List.getElem?_eq_getElem (by omega)];exact List.getElem_mem (by omega))
  have hsl1:∀ F,owl TLI I ss (L.map fun s=>s.1) ∈ F→Has F (vw (ss.getD i nS) (Is (L.getD i ([],0)).1)):=fun F h=>by
   have:=has_elg (g:=I) (hs:=ss) (ls:=L.map fun s=>s.1) (has_owl (e:=TLI) (by rw [hll];exact hsl) h) (i:=i) (by rw [hll];exact hlt)
   rwa [hfg i hlt] at this
  have hc:=hch i hlt
  have hC1:=hCh ((L.getD i ([],0)).1.length:Int)
  rw [hc] at hC1
  have hst:=take_succ' (show i < ss.length by omega) nS
  have hqt:=take_succ' (show i < Q.length by omega) 0
  have hqtl:(Q.take i).length = i:=by rw [List.length_take];omega
  have hra:=fun vn vd=>ics_app (ss:=ss.take i) (rs:=[ss.getD i nS]) (qs:=Q.take i) (ps:=[Q.getD i 0]) (hs:=hs) (gs:=[(vn,vd)]) (by simp only [List.length_take];omega) (by rw [hqtl];exact hl)
  simp only [← hst,← hqt,ics_one] at hra
  have hrl:=hlen (L.getD i ([],0)) (by rw [List.getD_eq_getElem?_getD,List.getElem?_eq_getElem hlt];exact List.getElem_mem hlt)
  unfold FW at hC1
  dsimp only at hC1
  clear hso hch hCh hfg hst hc hlen
  generalize (L.getD i ([],0)).1 = row at *
  generalize ss.getD i nS = s1 at *
  generalize Q.getD i 0 = q at *
  repeat' first|(refine gca ?_;first|(refine ca hC1 ?_;rintro _ _ ⟨vn,vd,rfl,hvn,hvd,rfl⟩))|refine le (xs:=ss) ?_ (hj:=hg1)|(refine lnm (l:=row) ?_ (hh:=hsl1 _ memA))|refine al fun c14=>?_|refine srz ?_|refine lda ?_|refine bdm ?_|refine slws (sz:=4) (xs:=irow s1 q (vn,vd)) (fun g2=>?_)|refine apw (sz:=4) (M:=1) (N:=i) (xs:=ics (ss.take i) (Q.take i) hs) (ys:=irow s1 q (vn,vd)) (by decide) rfl (one_cons hs1 (one_cons rfl (one_cons hvn (one_cons hvd one_nil)))) (fun o2 ho2=>?_) (hu:=has_oww memA)|(refine wo ?_;first|(refine ao ?_;first|refine aw ?_|refine oa ?_)|refine oa ?_|refine ixn ?_)|(refine gc ?_;first|(refine ci (fun hB=>?_) (fun hB=>?_) <;> try (exfalso;omega)))|refine sq ?_|refine rg ?_|refine xc ?_|refine nl ?_|refine sk ?_|refine bk ?_|refine xb ?_
  refine TX.im (ofr_snoc (qs:=Q.take i) (by rw [hqtl];exact hl) q vn vd fitA) ?_
  rw [← hqt]
  exact lp ⟨i + 1,o2,hs ++ [(vn,vd)]⟩ ⟨hlt,ho2,by simp [hl]⟩ (hf:=by dsimp only;rw [hra];exact fitA)
 ·obtain rfl:i = L.length:=by omega
  rw [List.take_of_length_le (show ss.length ≤ L.length by omega),List.take_of_length_le (show Q.length ≤ L.length by omega)]
  repeat' first|(refine wo ?_;first|(refine ao ?_;first|refine oa ?_)|refine oa ?_)|(refine gc ?_;first|(refine ci (fun hB=>?_) (fun hB=>?_) <;> try (exfalso;omega)))|refine sq ?_|refine rg ?_|refine xc ?_|refine nl ?_|refine xe ?_|refine rt ?_
  exact r2 ⟨v,ss,hs,rfl,hv,by omega,hl,rfl⟩
theorem setsW_cases {t:List Int} {k:Nat} (hz:solE t k = 0):(setsW t k = (setP t k t.length,0)∧(setP t k t.length).length ≤ 4096)∨setsW t k = ([],4):=by
 by_cases h:4096 < (setP t k t.length).length
 ·exact .inr (setsW_long hz (by rw [Int.toNat_natCast];exact h))
 ·refine .inl ⟨?_,by omega⟩
  have:=setsW_ok hz (by rw [Int.toNat_natCast];exact h)
  rwa [Int.toNat_natCast] at this
noncomputable abbrev failW (k:Int) (ls:List (List Int)):Bool:=decide (0 < (largeR k ls).length)
theorem MFail_tr (tv:Value) (t:List Int) (k n:Int) (hl:t.length ≤ 12) (hk:k ≤ 40∨65536 < k) (hn:n ≤ 12∨4096 < n):Tr Tryz.prog 21 [tv,I k,I n] [vw tv (Is t)] [] (FW (massW (failW k) t k n)):=by
 unfold massW
 by_cases hz:refE t k n = 0
 rotate_left
 ·rw [if_neg hz]
  have hD:=drawn_err tv t k n hz
  refine Tr.mono (R:=fun u D=>u = tup2 rv0 (I (refE t k n))∧D = [own T64 nS (Us []),own T64 nS (Us [])]) ?_ fun u D h=>FW.of0 h
  generalize refE t k n = e at *
  refine Tr.enter env _ Tryz.func21 (by kernel_rfl) rfl Tryz.ntmps21 rfl (by repeat (first | exact has00 | refine has01 ?_)) fun w0=>?_
  repeat' first|(refine gca ?_;first|(refine ca hD ?_;rintro _ _ ⟨rfl,rfl⟩))|refine al fun c=>?_|refine bdz ?_|refine srz ?_|(refine wo ?_;first|(refine ao ?_;first|refine oa ?_)|refine oa ?_)|(refine gc ?_;first|(refine cn (fun hB=>?_) (fun hB=>?_) <;> try (exfalso;omega)))|refine sq ?_|refine rg ?_|refine xc ?_|refine nl ?_|refine rt ?_
  refine TX.im (own_nil T64 _) (TX.im (own_nil T64 _) ?_)
  exact rca (cs:=[.bool false,nS,nS]) (vs:=[.bool false,nS,nS]) (T:=TRt) ⟨rfl,rfl⟩
 rw [if_pos hz]
 obtain ⟨hsz,hn0,hn1⟩:=refE_zero hz
 obtain ⟨z1,z2,_⟩:=solE_zero hsz
 obtain ⟨kn,rfl⟩ : ∃ kn:Nat,k = kn:=⟨k.toNat,by omega⟩
 obtain ⟨nn,rfl⟩ : ∃ nn:Nat,n = nn:=⟨n.toNat,by omega⟩
 rw [Int.toNat_natCast,Int.toNat_natCast]
 rcases setsW_cases hsz with ⟨h1,h2⟩ | h1
 rotate_left
 ·rw [h1,if_neg (by decide)]
  have hD:=drawn_long tv t kn nn hz h1
  refine Tr.mono (R:=fun u D=>u = tup2 rv0 (I 4)∧D = [own T64 nS (Us []),own T64 nS (Us [])]) ?_ fun u D h=>FW.of0 h
  refine Tr.enter env _ Tryz.func21 (by kernel_rfl) rfl Tryz.ntmps21 rfl (by repeat (first | exact has00 | refine has01 ?_)) fun w0=>?_
  repeat' first|(refine gca ?_;first|(refine ca hD ?_;rintro _ _ ⟨rfl,rfl⟩))|refine al fun c=>?_|refine bdz ?_|refine srz ?_|(refine wo ?_;first|(refine ao ?_;first|refine oa ?_)|refine oa ?_)|(refine gc ?_;first|refine ct ?_)|refine sq ?_|refine rg ?_|refine xc ?_|refine nl ?_|refine rt ?_
  refine TX.im (own_nil T64 _) (TX.im (own_nil T64 _) ?_)
  exact rca (cs:=[.bool false,nS,nS]) (vs:=[.bool false,nS,nS]) (T:=TRt) ⟨rfl,rfl⟩
 rw [h1,if_pos rfl]
 have hD:=drawn_tr tv t kn nn hz h1 h2
 have hLp:=itemS_pos hsz
 have hLb:=itemS_le hsz
 have hO0:=oneS_pos hsz
 have hO1:=oneS_lt hsz (by omega) hl
 have hS:=fun v hv ss hs a b=>Sum_tr v hv ss hs (itemS t kn) (oneS t kn) nn (kn:Int) 40 (failW kn) a b hLp hLb hO0 hO1 (by omega) (fun v l hl hi=>fails_trm (kn:Int) v (l.map fun i=>ss.getD i nS) (selS (itemS t kn) l) (by unfold selS;rw [List.length_map];omega))
 clear hLb hO0 hO1 h1 h2 hLp
 generalize sumW (failW kn) (itemS t kn) (oneS t kn) nn = sw at *
 generalize itemS t kn = L at *
 generalize oneS t kn = D1 at *
 obtain ⟨⟨s1,s2,s3⟩,e⟩:=sw
 unfold FW at hS ⊢
 dsimp only at hS ⊢
 unfold itmC at hD
 have hll:(L.map fun s:List Int × Nat=>s.1).length = L.length:=List.length_map ..
 have hfl:(fracs L D1).length = L.length:=List.length_map ..
 refine Tr.enter env _ Tryz.func21 (by kernel_rfl) rfl Tryz.ntmps21 rfl (by repeat (first | exact has00 | refine has01 ?_)) fun w0=>?_
 repeat' first|(refine gca ?_;first|(refine ca hD ?_;rintro _ _ ⟨v,ss,hs,rfl,hv,hss,hhs,rfl⟩)|(refine ca (hS v hv ss hs hss hhs) ?_ (hp:=has1 (has_oww memA) (has1 (has_owl (e:=TLI) (by rw [hll];exact hss) memA) (has1 (has_ofr (by rw [hfl];exact hhs) memA) has0)));rintro _ _ ⟨vn,vd,rfl,hvn,hvd,rfl⟩))|refine al fun c=>?_|refine srz ?_|(refine wo ?_;first|(refine ao ?_;first|refine oa ?_)|refine oa ?_)|(refine gc ?_;first|refine cf ?_)|refine sq ?_|refine rg ?_|refine xc ?_|refine nl ?_|refine sk ?_|refine rt ?_
 exact rca (cs:=[.bool s1,vn,vd]) (vs:=[.bool s1,vn,vd]) (T:=TRt) ⟨vn,vd,rfl,hvn,hvd,rfl⟩
end Go.Art
namespace Go.Art
open Go Go.Proofs Go.RowKit
def unkS (ls:List (List Int)) (U:List Int):List Int:=U.filter fun s=>!(ls.any fun l=>l.contains s && l.all fun x=>x == s || !U.contains x)
def unkC (ls:List (List Int)):Nat→List Int→List Int
 | 0,U=>U
 | n + 1,U=>unkC ls n (unkS ls U)
theorem unkC_fix {ls:List (List Int)} {U:List Int} (h:unkS ls U = U):∀ n,unkC ls n U = U
 | 0=>rfl
 | n + 1=>by unfold unkC;rw [h];exact unkC_fix h n
theorem unkC_stable {ls:List (List Int)}:∀ (n:Nat) (U:List Int),U.length ≤ n→unkS ls (unkC ls n U) = unkC ls n U
 | 0,U,h=>by
  obtain rfl:U = []:=List.length_eq_zero_iff.1 (by omega)
  rfl
 | n + 1,U,h=>by
  unfold unkC
  by_cases e:unkS ls U = U
  ·rw [e,unkC_fix e,e]
  ·refine unkC_stable n _ ?_
   have h1:(unkS ls U).length ≤ U.length:=List.length_filter_le _ _
   have h2:(unkS ls U).length ≠ U.length:=fun h3=>e (List.filter_eq_self.2 (List.length_filter_eq_length_iff.1 h3))
   omega
theorem unkC_inv {ls:List (List Int)} {P:List Int→Prop} (hs:∀ U,P U→P (unkS ls U)):∀ n U,P U→P (unkC ls n U)
 | 0,U,h=>h
 | n + 1,U,h=>unkC_inv hs n _ (hs U h)
theorem unkC_large {k:Int} {ls:List (List Int)} (hE:stopE k ls = 0):largeL k ls = (belowI k).filter fun s=>(unkC ls k.toNat (belowI k)).contains s:=by
 obtain ⟨k1,k2,hset⟩:=stopE_zero hE
 have hst:=unkC_stable (ls:=ls) k.toNat (belowI k) (by rw [belowI_len];omega)
 have hsound:=unkC_inv (ls:=ls) (P:=fun U=>∀ s,0 ≤ s→s < k→s ∉ U→Kn ls s) (fun U hU s h0 h1 hs=>by
  by_cases hm:s ∈ U
  ·have h2:¬ (!(ls.any fun l=>l.contains s && l.all fun x=>x == s || !U.contains x)) = true:=fun h3=>hs (List.mem_filter.2 ⟨hm,h3⟩)
   simp only [Bool.not_eq_true',Bool.not_eq_false] at h2
   obtain ⟨l,hl,h3⟩:=List.any_eq_true.1 h2
   simp only [Bool.and_eq_true,List.contains_iff_mem,List.all_eq_true,Bool.or_eq_true,beq_iff_eq,Bool.not_eq_true'] at h3
   refine Kn.mk l s hl h3.1 fun x hx hne=>?_
   have hx2:=(isSet_iff.1 (hset l hl)).2.2 x hx
   rcases h3.2 x hx with h4 | h4
   ·exact absurd h4 hne
   ·refine hU x hx2.1 hx2.2 fun h5=>?_
    have:U.contains x = true:=List.contains_iff_mem.2 h5
    rw [h4] at this;cases this
  ·exact hU s h0 h1 hm) k.toNat (belowI k) (fun s h0 h1 hs=>absurd (mem_belowI.2 ⟨h0,h1⟩) hs)
 generalize unkC ls k.toNat (belowI k) = U at *
 have hc:∀ l ∈ ls,cnt (fun s=>U.contains s) l ≠ 1:=fun l hl h=>by
  obtain ⟨s,hs,hp,hx⟩:=cnt_one h
  have hm:s ∈ U:=List.contains_iff_mem.1 hp
  rw [← hst] at hm
  have h2:=(List.mem_filter.1 hm).2
  rw [show (ls.any fun l=>l.contains s && l.all fun x=>x == s || !U.contains x) = true from List.any_eq_true.2 ⟨l,hl,by
   simp only [Bool.and_eq_true,List.contains_iff_mem,List.all_eq_true,Bool.or_eq_true,beq_iff_eq,Bool.not_eq_true']
   refine ⟨hs,fun x hxl=>?_⟩
   by_cases hq:U.contains x = true
   ·exact .inl (hx x hxl hq)
   ·exact .inr (by simpa using hq)⟩] at h2
  cases h2
 refine (known_of (k:=k) (ls:=ls) (fun s=>U.contains s) fun s h0 h1=>⟨fun h hk=>?_,fun h=>?_⟩).2
 ·have:=Kn.not (p:=fun s=>U.contains s) (fun l hl=>isSet_nodup (hset l hl)) hc hk
  rw [h] at this;cases this
 ·cases hq:U.contains s with
  | true=>rfl
  | false=>exact absurd (hsound s h0 h1 fun hm=>by have:=List.contains_iff_mem.2 hm;rw [hq] at this;cases this) h
def failC (k:Int) (ls:List (List Int)):Bool:=decide (stopE k ls = 0) && !((belowI k).filter fun s=>(unkC ls k.toNat (belowI k)).contains s).isEmpty
theorem failW_eq (k:Int) (ls:List (List Int)):failW k ls = failC k ls:=by
 unfold failW failC largeR
 by_cases h:stopE k ls = 0
 ·rw [if_pos h,unkC_large h,decide_eq_true h,Bool.true_and]
  cases (belowI k).filter fun s=>(unkC ls k.toNat (belowI k)).contains s <;> rfl
 ·rw [if_neg h,decide_eq_false h];rfl
theorem failW_fun (k:Int):failW k = failC k:=funext fun ls=>failW_eq k ls
theorem massW_ok {W:List (List Int)→Bool} {t:List Int} {k n:Int} {q:Rat} (h1:refE t k n = 0) (h2:(setsW t k).2 = 0) (h3:(itemS t k.toNat).length ≤ 4096∧(itemS t k.toNat).length ^ n.toNat ≤ 4096) (h4:mkRat ((natG W (itemS t k.toNat) n.toNat [] 1:Nat):Int) (oneS t k.toNat ^ n.toNat) = q):massW W t k n = (rqf q,0):=by
 unfold massW sumW
 rw [if_pos h1,if_pos h2,if_pos h3,h4]
theorem mass1:massW (failW 2) [1,1] 2 2 = (rqf (mkRat 3 8),0):=by
 rw [failW_fun]
 exact massW_ok (by decide) (by decide) (by decide) (by decide)
open Go
def shw (all:Int) (u:AlS) (c j:Nat):Int:=
 if (c:Int) ∈ u.B ++ u.A then (if c = j then u.rest.getD c 0 else 0) else ((if c = j then u.cut.getD c 0 else 0) + (if u.oth.getD c 0 = j then all - u.cut.getD c 0 else 0))
structure AlM (t:List Int) (all:Int) (u:AlS):Prop where
 op:∀ c:Nat,c < t.length→(c:Int) ∈ u.B ++ u.A→u.cut.getD c 0 = all∧u.oth.getD c 0 = c
 mass:∀ j:Nat,j < t.length→((List.range t.length).map fun c=>shw all u c j).sum = t.getD j 0 * t.length
open Go Go.Proofs Go.RowKit
def rowS (k:Nat) (l:List Int):List Int:=srt (ordF 0 (upto k) (l.drop 2))
def oneR (t:List Int) (k:Nat):Nat:=fall k k * t.length * t.sum.toNat
def wR (k:Nat) (l:List Int):Nat:=fall (k - (l.length - 2)) (k - (l.length - 2))
abbrev rowsA (t:List Int) (k:Nat):List (List Int):=allL t.sum (alF t).cut (alF t).oth k
def itemR (t:List Int) (k:Nat):List (List Int × Nat):=(rowsA t k).map fun l=>(rowS k l,wR k l)
def massD (W:List (List Int)→Bool) (t:List Int) (k n:Int):Fr3 × Int:=
 if refE t k n = 0 then (if (itemR t k.toNat).length ≤ 4096 then sumW W (itemR t k.toNat) (oneR t k.toNat) n.toNat else (rqn,4)) else (rqn,refE t k n)
structure DwG where
 i:Nat
 v:Value
 ss:List Value
 hs:List (Value × Value)
attribute [local irreducible] Fit pt own ro vw mpc lpt vels rels mow lrc dfr
attribute [local irreducible] lmp lme mit velg relg bnd owl setP szL solE risR chaW oneS wS
end Go.Art
namespace Go.Art
open Go Go.Proofs Go.RowKit
def msk (l:List Int):Nat:=(l.map fun s=>2 ^ s.toNat).sum
def popK (k a:Nat):Nat:=((List.range k).map fun j=>a / 2 ^ j % 2).sum
def rmsk (k:Nat) (l:List Int):Nat:=msk (ordF 0 (upto k) (l.drop 2))
def fct:Nat→Nat
 | 0=>1
 | n + 1=>(n + 1) * fct n
def chkA (k:Nat):Bool:=(List.range (k + 1)).all fun d=>(endsL d k []).all fun js=>(ordF 0 (upto k) js).all (fun s=>decide (0 ≤ s∧s < k)) && Nat.blt (msk (ordF 0 (upto k) js)) (2 ^ k)
def chkB (k:Nat):Bool:=(List.range (2 ^ k)).all fun a=>Nat.ble (popK k a) k && (Nat.beq a 0 || Nat.blt 0 (popK k a)) && (List.range (k + 1)).all fun d=>Nat.beq ((endsL d k []).filter fun js=>Nat.beq (msk (ordF 0 (upto k) js)) a).length (bif Nat.beq d (popK k a) then fct d else 0)
def wtA (k a:Nat) (l:List Int):Nat:=bif Nat.beq (rmsk k l) a then wt k l else 0
def shrM (k a:Nat) (d:Nat):Nat:=if d = popK k a then fct d * (24 / fall k d) else 0
open Go Go.Proofs Go.RowKit
open Go Go.Proofs Go.RowKit
def setA (k a:Nat):List Int:=(belowI k).filter fun s=>Nat.beq (a / 2 ^ s.toNat % 2) 1
def chkP (k:Nat):Bool:=(List.range (k + 1)).all fun d=>(risR d 0 k).isPerm (((List.range (2 ^ k)).filter fun a=>Nat.beq (popK k a) d).map (setA k))
def chkO (k:Nat):Bool:=(List.range (k + 1)).all fun d=>(endsL d k []).all fun js=>(ordF 0 (upto k) js).isPerm (setA k (msk (ordF 0 (upto k) js))) && Nat.beq (popK k (msk (ordF 0 (upto k) js))) d
theorem setA_sorted (k a:Nat):(setA k a).Pairwise (· < ·):=(belowI_sorted k).sublist List.filter_sublist
open Go Go.Proofs Go.RowKit
def chkS (k:Nat):Bool:=(List.range (2 ^ k)).all fun a=>Nat.beq (setA k a).length (popK k a) && Nat.beq (msk (setA k a)) a
def chkT (k:Nat):Bool:=(List.range (k + 1)).all fun d=>(risR d 0 k).all fun l=>Nat.blt (msk l) (2 ^ k) && decide (setA k (msk l) = l)
set_option maxRecDepth 20000 in
theorem chkS_ok:(List.range 11).all chkS = true:=by kernel_rfl
set_option maxRecDepth 20000 in
theorem chkT_ok:(List.range 11).all chkT = true:=by kernel_rfl
theorem setA_ok {k a:Nat} (hk:k ≤ 10) (ha:a < 2 ^ k):(setA k a).length = popK k a∧msk (setA k a) = a:=by
 have h1:=List.all_eq_true.1 chkS_ok k (List.mem_range.2 (by omega))
 have h2:=List.all_eq_true.1 h1 a (List.mem_range.2 ha)
 rw [Bool.and_eq_true] at h2
 exact ⟨Nat.eq_of_beq_eq_true h2.1,Nat.eq_of_beq_eq_true h2.2⟩
theorem ris_set {k d:Nat} {l:List Int} (hk:k ≤ 10) (hd:d ≤ k) (h:l ∈ risR d 0 k):msk l < 2 ^ k∧setA k (msk l) = l:=by
 have h1:=List.all_eq_true.1 chkT_ok k (List.mem_range.2 (by omega))
 have h2:=List.all_eq_true.1 h1 d (List.mem_range.2 (by omega))
 have h3:=List.all_eq_true.1 h2 l h
 rw [Bool.and_eq_true] at h3
 exact ⟨by have h4:=h3.1;rw [Nat.blt_eq] at h4;exact h4,of_decide_eq_true h3.2⟩
theorem ris_in:∀ (l:List Int) (f k:Nat),l.Pairwise (· < ·)→(∀ x ∈ l,(f:Int) ≤ x∧x < k)→l ∈ risR l.length f k
 | [],f,k,_,_=>List.mem_singleton.2 rfl
 | x :: l,f,k,hs,hb=>by
  have hx:=hb x (by simp)
  refine List.mem_flatMap.2 ⟨(x - f).toNat,List.mem_range.2 (by omega),List.mem_map.2 ⟨l,?_,by congr 1;omega⟩⟩
  refine ris_in l _ k (List.pairwise_cons.1 hs).2 fun y hy=>?_
  have h1:=(List.pairwise_cons.1 hs).1 y hy
  have h2:=hb y (by simp [hy])
  omega
theorem ris_sorted:∀ (d f k:Nat) (l:List Int),l ∈ risR d f k→l.Pairwise (· < ·)
 | 0,f,k,l,h=>by rw [List.mem_singleton.1 h];exact List.Pairwise.nil
 | d + 1,f,k,l,h=>by
  obtain ⟨j,hj,h1⟩:=List.mem_flatMap.1 h
  obtain ⟨m,hm,rfl⟩:=List.mem_map.1 h1
  refine List.pairwise_cons.2 ⟨fun y hy=>?_,ris_sorted d _ k m hm⟩
  have:=(risR_mem _ _ _ _ hm).2 y hy
  omega
def lexF:List Int→List Int→Bool
 | x :: a,y :: b=>if x ≠ y then decide (x < y) else lexF a b
 | _,_=>false
def aheadF (a b:List Int):Bool:=if a.length ≠ b.length then decide (a.length < b.length) else lexF a b
theorem ris_lex:∀ (d f k:Nat),(risR d f k).Pairwise fun a b=>lexF a b = true
 | 0,f,k=>List.pairwise_singleton _ _
 | d + 1,f,k=>by
  refine List.pairwise_flatMap.2 ⟨fun j _=>List.pairwise_map.2 ((ris_lex d _ k).imp fun {a b} h=>?_),?_⟩
  ·show (if _ then _ else _) = true
   rw [if_neg (by simp)];exact h
  ·refine List.pairwise_lt_range.imp fun {i j} hij a ha b hb=>?_
   obtain ⟨a',_,rfl⟩:=List.mem_map.1 ha
   obtain ⟨b',_,rfl⟩:=List.mem_map.1 hb
   show (if _ then _ else _) = true
   rw [if_pos (by omega)];exact decide_eq_true (by omega)
theorem lexF_irr:∀ a:List Int,lexF a a = false
 | []=>rfl
 | x :: a=>by
  show (if _ then _ else _) = false
  rw [if_neg (by simp)];exact lexF_irr a
theorem aheadF_irr (a:List Int):aheadF a a = false:=by
 unfold aheadF;rw [if_neg (by simp)];exact lexF_irr a
theorem setP_ahead (t:List Int) (k n:Nat):(setP t k n).Pairwise fun a b=>aheadF a b = true:=by
 have hl:∀ i l,l ∈ (if t.getD i 0 = 0 then [] else risR (i + 1) 0 k)→l.length = i + 1:=fun i l h=>by
  split at h
  ·cases h
  ·exact (risR_mem _ _ _ _ h).1
 refine List.pairwise_flatMap.2 ⟨fun i _=>?_,?_⟩
 ·split
  ·exact List.Pairwise.nil
  ·refine ((ris_lex (i + 1) 0 k).and (List.pairwise_of_forall_mem_list (r:=fun a b=>a.length = i + 1∧b.length = i + 1) fun a ha b hb=>⟨(risR_mem _ _ _ _ ha).1,(risR_mem _ _ _ _ hb).1⟩)).imp fun {a b} h=>?_
   unfold aheadF
   rw [if_neg (by rw [h.2.1,h.2.2];simp)];exact h.1
 ·refine List.pairwise_lt_range.imp fun {i j} hij a ha b hb=>?_
  have h1:=hl i a ha
  have h2:=hl j b hb
  unfold aheadF
  rw [if_pos (by omega)];exact decide_eq_true (by omega)
def seenB (L:List (List Int)) (a:Nat):Bool:=L.any fun l=>Nat.beq (msk l) a
theorem seen_no {t:List Int} {k i:Nat} (hk:k ≤ 10) (htk:t.length ≤ k) (hi:i < (setP t k t.length).length):seenB ((setP t k t.length).take i) (msk ((setP t k t.length).getD i [])) = false:=by
 have hm:∀ l,l ∈ setP t k t.length→setA k (msk l) = l:=fun l h=>by
  have h1:=setP_mem h
  exact (ris_set hk (by omega) h1.2.2.2).2
 have hp:=setP_ahead t k t.length
 generalize setP t k t.length = L at *
 refine Bool.eq_false_iff.2 fun h=>?_
 obtain ⟨l,hl,he⟩:=List.any_eq_true.1 h
 have he:=Nat.eq_of_beq_eq_true he
 obtain ⟨j,hj,rfl⟩:=List.mem_iff_getElem.1 hl
 have hj':j < i:=by simp at hj;omega
 rw [List.getElem_take] at he
 have e1:L.getD i [] = L[i]:=by simp [List.getD_eq_getElem?_getD,hi]
 rw [e1] at he
 have h2:=hm L[j] (List.getElem_mem _)
 have h3:=hm L[i] (List.getElem_mem _)
 rw [he,h3] at h2
 have h4:=List.pairwise_iff_getElem.1 hp j i (by omega) hi hj'
 rw [h2,aheadF_irr] at h4;cases h4
theorem setP_sub {t:List Int} {k i:Nat} {l:List Int} (hi:i < t.length) (h0:t.getD i 0 ≠ 0) (h:l ∈ risR (i + 1) 0 k):l ∈ setP t k t.length:=
 List.mem_flatMap.2 ⟨i,List.mem_range.2 hi,by rw [if_neg h0];exact h⟩
theorem seen_all {t:List Int} {k a:Nat} (hk:k ≤ 10) (htk:t.length ≤ k) (h0:∀ x ∈ t,0 ≤ x) (ha:a < 2 ^ k) (h1:1 ≤ popK k a):seenB (setP t k t.length) a = decide (popK k a ≤ t.length∧0 < t.getD (popK k a - 1) 0):=by
 obtain ⟨g1,g2⟩:=setA_ok hk ha
 rw [Bool.eq_iff_iff,decide_eq_true_iff]
 constructor
 ·intro h
  obtain ⟨l,hl,he⟩:=List.any_eq_true.1 h
  have he:=Nat.eq_of_beq_eq_true he
  obtain ⟨p1,p2,p3,p4⟩:=setP_mem hl
  have h2:=(ris_set hk (by omega) p4).2
  rw [he] at h2
  rw [h2] at g1
  rw [← g1]
  have h3:0 ≤ t.getD (l.length - 1) 0:=by
   have hlt:l.length - 1 < t.length:=by omega
   simp only [List.getD_eq_getElem?_getD,List.getElem?_eq_getElem hlt,Option.getD_some]
   exact h0 _ (List.getElem_mem _)
  exact ⟨p2,by omega⟩
 ·rintro ⟨h2,h3⟩
  refine List.any_eq_true.2 ⟨setA k a,setP_sub (i:=popK k a - 1) (by omega) (by omega) ?_,by rw [g2];exact Nat.beq_refl a⟩
  rw [Nat.sub_add_cancel h1,← g1]
  refine ris_in _ _ _ (setA_sorted k a) fun x hx=>?_
  have h4:=(List.mem_filter.1 hx).1
  unfold belowI at h4
  obtain ⟨i,hi,rfl⟩:=List.mem_map.1 h4
  have:=List.mem_range.1 hi
  omega
def chkU (k:Nat):Bool:=Nat.ble (((List.range k).map fun i=>chs k (i + 1)).sum) 1024
theorem chkU_ok:(List.range 11).all chkU = true:=by kernel_rfl
theorem setP_leS (t:List Int) (k:Nat):∀ n m,n ≤ m→(setP t k n).length ≤ ((List.range m).map fun i=>chs k (i + 1)).sum
 | 0,m,_=>Nat.zero_le _
 | n + 1,m,h=>by
  have h1:=setP_leS t k n (m - 1) (by omega)
  obtain ⟨q,rfl⟩ : ∃ q,m = q + 1:=⟨m - 1,by omega⟩
  rw [Nat.add_sub_cancel] at h1
  rw [List.range_succ,List.map_append,List.sum_append]
  rcases Nat.lt_or_ge n q with h2 | h2
  ·have h3:=setP_leS t k (n + 1) q h2
   omega
  obtain rfl:n = q:=by omega
  unfold setP at h1 ⊢
  rw [List.range_succ,List.flatMap_append,List.length_append]
  have h3:(([n]:List Nat).flatMap fun i:Nat=>if t.getD i 0 = 0 then [] else risR (i + 1) 0 k).length ≤ chs k (n + 1):=by
   rw [List.flatMap_cons,List.flatMap_nil,List.append_nil]
   split
   ·exact Nat.zero_le _
   ·rw [risR_len];exact Nat.le_refl _
  simp only [List.map_cons,List.map_nil,List.sum_cons,List.sum_nil]
  omega
theorem setP_len {t:List Int} {k:Nat} (hk:k ≤ 10) (htk:t.length ≤ k):(setP t k t.length).length ≤ 1024:=
 Nat.le_trans (setP_leS t k t.length k htk) (Nat.le_of_ble_eq_true (List.all_eq_true.1 chkU_ok k (List.mem_range.2 (by omega))))
end Go.Art
set_option maxRecDepth 4000
namespace Go.Art
open Go Go.Proofs Go.RowKit
attribute [local irreducible] Fit pt own ro vw mpc lpt vels rels mow lrc dfr
attribute [local irreducible] lmp lme mit
abbrev Bs (l:List Bool):List Value:=l.map .bool
section
variable {P:Program} {E:Env P} {n:Sh} {X:Cx} {s:List K} {fr:Fr} {A A':List Ch} {ops:Array Oper} {rest:List Oper} {d:Nat} {ty t el:TypeId} {pos:String} {after:Array Edge} {v z:Value} {x y:Operand} {by_:Nat}
theorem Bs_get (l:List Bool) (i:Nat) (h:i < l.length):(Bs l)[i]? = some (.bool (l.getD i false)):=by simp [List.getD_eq_getElem?_getD,h]
theorem lbS {l:List Bool} {j:Nat} {dt:TypeDesc} (k:TO E n X s ops rest ((d,.bool (l.getD j false)) :: fr) A) (hx:ev fr x = some (.pointer (some (addrAt v j))):=by rfl) (hh:Has A (vw v (Bs l)):=by exact hasA) (hj:j < l.length:=by omega)
  (ht:lk E.und t = some dt:=by rfl) (hg:aggB dt = false:=by rfl) (hd:Nat.blt d n.n = true:=by rfl):TO E n X s ops (⟨some d,.load t x,ty,pos,after,none⟩ :: rest) fr A:=le k hx hh (Bs_get l j hj) ht hg hd
theorem sobS {l:List Bool} {j:Nat} {m:Bool} (k:TO E n X s ops rest fr (own el v (Bs (l.set j m)) :: A')) (hx:ev fr x = some (.pointer (some (addrAt v j))):=by rfl) (hm:Tk (own el v (Bs l)) A A':=by exact tkA) (hy:ev fr y = some (.bool m):=by rfl)
  (hj:j < l.length:=by omega) (ht:lk E.inf t = some (z,1,by_):=by rfl):TO E n X s ops (⟨none,.store t x y,ty,pos,after,none⟩ :: rest) fr A:=so k hx hm hy (by simpa using hj) (List.map_set ..) rfl ht
end
def unk (kb:List Bool) (l:List Int):List Int:=l.filter fun x=>!kb.getD x.toNat false
def lastL (kb:List Bool) (l:List Int):Int:=match unk kb l with
 | [x]=>x
 | _=>-1
def falses (kb:List Bool):Nat:=kb.countP (fun b=>!b)
structure ClI (k:Int) (ls:List (List Int)) (kb:List Bool):Prop where
 len:kb.length = k.toNat
 kn:∀ x,0 ≤ x→x < k→kb.getD x.toNat false = true→Kn ls x
structure ClG where
 i:Nat
 kb:List Bool
 more:Bool
end Go.Art
namespace Go.Art
open Go Go.Proofs Go.RowKit
structure RuG2 where
 r:Nat
 o:Value
attribute [local irreducible] Fit pt own ro vw mpc lpt vels rels mow lrc dfr
attribute [local irreducible] lmp lme mit velg relg bnd owl
end Go.Art
