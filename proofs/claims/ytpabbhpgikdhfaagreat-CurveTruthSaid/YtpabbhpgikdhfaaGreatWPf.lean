/- Texts put together: Zc Zd Ze Zf Zh Va Gc Rq Vb Vc Vg Vm As Vh Rc Vo Yj Vr Yl Ym Yn Yo Yp Yq Yr Ys. Conditions: none. -/
import Derived.Test.YtpabbhpgikdhfaaGreatWPe
set_option linter.unusedSimpArgs false
set_option linter.unusedVariables false
namespace Go.Art
open Go Go.Proofs Go.RowKit
attribute [local irreducible] Fit pt own ro vw mpc lpt vels rels mow lrc dfr
end Go.Art
namespace Go.Art
open Go Go.Proofs Go.RowKit
attribute [local irreducible] Fit pt own ro vw mpc lpt vels rels mow lrc dfr
end Go.Art
namespace Go.Art
open Go Go.Proofs Go.RowKit
structure DvG where
 j:Nat
 qs:List Nat
 rs:List Nat
 Q:Nat
section
variable {P:Program} {E:Env P} {n:Sh} {X:Cx} {s:List K} {fr:Fr} {A:List Ch} {ops:Array Oper} {rest:List Oper} {d:Nat} {ty t t':TypeId} {pos:String} {after:Array Edge} {x:Operand}
end
attribute [local irreducible] Fit pt own ro vw mpc lpt vels rels mow lrc dfr
end Go.Art
namespace Go.Art
open Go Go.Proofs Go.RowKit
attribute [local irreducible] Fit pt own ro vw mpc lpt vels rels mow lrc dfr
end Go.Art
namespace Go.Art
open Go Go.Proofs Go.RowKit
def pasc (n:Nat):List (List Int):=(List.range (n + 1)).map fun j=>Zs (dg (chs n j))
abbrev TNN:TypeId:=92
structure NxG where
 i:Nat
 o:Value
 hs:List Value
attribute [local irreducible] Fit pt own ro vw mpc lpt vels rels mow lrc dfr
attribute [local irreducible] lmp lme mit velg relg bnd owl
end Go.Art
namespace Go.Art
open Go Go.Proofs Go.RowKit
theorem chs_bnd:∀ n d,chs n d ≤ 2 ^ n
 | 0,0=>by simp [chs]
 | 0,d + 1=>by simp [chs]
 | n + 1,0=>by rw [show chs (n + 1) 0 = 1 from rfl];exact Nat.one_le_two_pow
 | n + 1,d + 1=>by
  rw [show chs (n + 1) (d + 1) = chs n d + chs n (d + 1) from rfl,Nat.pow_succ]
  have:=chs_bnd n d;have:=chs_bnd n (d + 1);omega
def risJ (d f k j:Nat):List (List Int):=(risR d (f + j + 1) k).map fun l=>((f + j:Nat):Int) :: l
structure RsG where
 i:Nat
 v:Value
 hs:List Value
attribute [local irreducible] Fit pt own ro vw mpc lpt vels rels mow lrc dfr
attribute [local irreducible] lmp lme mit velg relg bnd owl risJ
end Go.Art
namespace Go.Art
open Go Go.Proofs Go.RowKit
attribute [local irreducible] Fit pt own ro vw mpc lpt vels rels mow lrc dfr
end Go.Art
namespace Go.Art
open Go Go.Proofs Go.RowKit
theorem owl_ones {e:TypeId} {g:Int→Value} {hs:List Value} {ls:List (List Int)} {A:List Ch} (hl:hs.length = ls.length) (h:owl e g hs ls ∈ A) (w:World) (hw:Sat A w):∀ c ∈ hs,c.oneCell' = true:=fun c hc=>by
 obtain ⟨i,hi,rfl⟩:=List.mem_iff_getElem.1 hc
 have h1:Sat (owls e g hs ls) w:=hw.h _ h
 have h2:OwnO w e (hs.getD i nS) ((ls.getD i []).map g):=h1.h _ (List.mem_of_getElem? (owls_get hl (by omega)))
 rw [List.getD_eq_getElem?_getD,List.getElem?_eq_getElem hi] at h2
 rcases h2 with ⟨h3,_⟩ | ⟨b,o,cap,cur,h3,_⟩
 ·show Value.oneCell' hs[i] = true;rw [show hs[i] = _ from h3];rfl
 ·show Value.oneCell' hs[i] = true;rw [show hs[i] = _ from h3];rfl
structure RlG where
 i:Nat
 o:Value
 hs:List Value
attribute [local irreducible] Fit pt own ro vw mpc lpt vels rels mow lrc dfr
attribute [local irreducible] lmp lme mit velg relg bnd owl dfrl
def cntR (n S:Nat):Prop:=(n ≤ 4096→n = S)∧(4096 < n→4096 < S)∧n ≤ 8193
end Go.Art
namespace Go.Art
open Go Go.Proofs Go.RowKit
def szL (t:List Int) (k i:Nat):List (List Int):=if t.getD i 0 = 0 then [] else risR (i + 1) 0 k
theorem setP_zero (t:List Int) (k:Nat):setP t k 0 = []:=rfl
theorem setP_succ (t:List Int) (k n:Nat):setP t k (n + 1) = setP t k n ++ szL t k n:=fm_succ _ _
theorem setP_pre (t:List Int) (k:Nat) {i n:Nat} (h:i ≤ n):∃ r,setP t k n = setP t k i ++ r:=fm_pre _ h
theorem szL_len {t:List Int} {k i:Nat}:(szL t k i).length = if t.getD i 0 = 0 then 0 else chs k (i + 1):=by
 unfold szL
 split
 ·rfl
 ·rw [risR_len];rfl
theorem solE_13 {t:List Int} {k:Int} (hz:¬ solE t k = 0):solE t k = 13:=by
 unfold solE at hz ⊢
 split
 ·rfl
 ·split
  ·rename_i a b;exact absurd (by rw [if_neg a,if_pos b]) hz
  ·rfl
theorem setsW_err {t:List Int} {k:Int} (h:¬ solE t k = 0):setsW t k = ([],13):=if_neg h
theorem setsW_long {t:List Int} {k:Int} (h:solE t k = 0) (h2:4096 < (setP t k.toNat t.length).length):setsW t k = ([],4):=by unfold setsW;rw [if_pos h,if_pos h2]
theorem setsW_ok {t:List Int} {k:Int} (h:solE t k = 0) (h2:¬ 4096 < (setP t k.toNat t.length).length):setsW t k = (setP t k.toNat t.length,0):=by unfold setsW;rw [if_pos h,if_neg h2]
attribute [local irreducible] Fit pt own ro vw mpc lpt vels rels mow lrc dfr
attribute [local irreducible] lmp lme mit velg relg bnd owl
structure SrG where
 i:Nat
 v:Value
 hs:List Value
attribute [local irreducible] setP szL solE
end Go.Art
namespace Go.Art
open Go Go.Proofs Go.RowKit
structure StG where
 i:Nat
 v:Value
 hs:List Value
 Ds:List Nat
attribute [local irreducible] Fit pt own ro vw mpc lpt vels rels mow lrc dfr
attribute [local irreducible] lmp lme mit velg relg bnd owl dfrl setP szL solE
theorem MSets_tr (tv:Value) (t:List Int) (k:Int):Tr Tryz.prog 34 [tv,I k] [vw tv (Is t)] []
  fun u D=>∃ v hs,u = tup2 v (I (setsW t k).2)∧v.oneCell' = true∧hs.length = (setsW t k).1.length∧D = [own TLs v hs,owl TLI I hs (setsW t k).1]:=by
 have hC:=SoCheck_tr tv t k
 by_cases hz:solE t k = 0
 rotate_left
 ·rw [setsW_err hz]
  have h13:solE t k = 13:=solE_13 hz
  rw [h13] at hC
  refine Tr.enterM env _ Tryz.func34 (by kernel_rfl) rfl Tryz.ntmps34 rfl (by repeat (first | exact has00 | refine has01 ?_)) fun w0=>?_
  repeat' first|(refine gca ?_;first|(refine ca hC ?_;rintro _ _ ⟨rfl,rfl⟩))|refine al fun c=>?_|(refine wo ?_;first|(refine ao ?_;first|refine oa ?_)|refine oa ?_|refine sr ?_)|(refine gc ?_;first|refine ct ?_)|refine sq ?_|refine rg ?_|refine xc ?_|refine nl ?_|refine rt ?_
  refine TX.im (dfrl_nil _) ?_
  refine TX.im (owl_nil (e:=TLI) (g:=I) _) ?_
  refine TX.im (own_nil TLs _) ?_
  exact mcc (Ds:=[]) (T:=TLL) (T2:=TEr) ⟨nS,[],rfl,rfl,rfl,rfl⟩
 rw [hz] at hC
 obtain ⟨z1,z2,z3,_⟩:=solE_zero hz
 obtain ⟨kn,rfl⟩ : ∃ kn:Nat,k = kn:=⟨k.toNat,by omega⟩
 have hlong:=@setsW_long t kn hz
 have hok:=@setsW_ok t kn hz
 rw [Int.toNat_natCast] at hlong hok
 clear z3 hz
 have hp:=@setP_pre t kn
 refine Tr.enterM env _ Tryz.func34 (by kernel_rfl) rfl Tryz.ntmps34 rfl (by repeat (first | exact has00 | refine has01 ?_)) fun w0=>?_
 refine TC.leni (v:=tv) (l:=t) fun htl=>?_
 repeat' first|(refine gca ?_;first|(refine ca hC ?_;rintro _ _ ⟨rfl,rfl⟩))|refine al fun c=>?_|(refine wo ?_;first|(refine ao ?_;first|refine oa ?_)|refine oa ?_|refine lnm ?_)|(refine gc ?_;first|refine cf ?_)|refine sq ?_|refine rg ?_|refine xc ?_|refine nl ?_|refine sk ?_|refine bk ?_
 rename_i c4 c5
 clear hC
 refine TC.im (owl_nil (e:=TLI) (g:=I) _) ?_
 refine TC.im (own_nil TLs _) ?_
 refine TC.im (dfrl_nil _) ?_
 refine TC.loopD (ι:=StG) (fun g=>g.Ds) (fun g=>[(16,I g.i)]) (fun g=>[dfrl g.Ds,pt c [g.v] TLL,own TLs g.v g.hs,owl TLI I g.hs (setP t kn g.i),pt c4 [nS] TLL,pt c5 [I 0] TEr]) (fun g=>g.i ≤ t.length∧g.v.oneCell' = true∧g.hs.length = (setP t kn g.i).length∧(setP t kn g.i).length ≤ 4096) (fun g=>t.length - g.i) ⟨0,nS,[],[]⟩ [0,1,4,5,6,14,15] ⟨Nat.zero_le _,rfl,by rw [setP_zero];rfl,by rw [setP_zero];exact Nat.zero_le _⟩ ?_ (hf:=by dsimp only;rw [setP_zero];exact fitA)
 rintro ⟨i,v,hs,Ds⟩ ⟨hi,hv,hl,hl2⟩
 dsimp only at hi hv hl hl2 ⊢
 by_cases hlt:i < t.length
 ·have hss:=setP_succ t kn i
  obtain ⟨r2,hr2⟩:=@hp (i + 1) t.length hlt
  clear hp
  by_cases hti:t.getD i 0 = 0
  ·rw [show szL t kn i = [] by unfold szL;exact if_pos hti,List.append_nil] at hss
   repeat' first|refine lie hti ?_|(refine wo ?_;first|(refine ao ?_;first|refine aw ?_|refine oa ?_)|refine oa ?_|refine ixmn ?_)|(refine gc ?_;first|refine ct ?_|(refine ci (fun hB=>?_) (fun hB=>?_) <;> try (exfalso;omega)))|refine sq ?_|refine rg ?_|refine xc ?_|refine nl ?_|refine sk ?_|refine bk ?_|refine xe ?_
   exact lpD ⟨i + 1,v,hs,Ds⟩ ⟨hlt,hv,by dsimp only;rw [hss];exact hl,by dsimp only;rw [hss];exact hl2⟩ (hf:=by dsimp only;rw [hss];exact fitA)
  ·have hO:=of_tr nS (kn:Int) ((0:Nat):Int) ((i + 1:Nat):Int) rfl
   have hseq:=fun pd ps pf pk=>of1_seq (i + 1) 0 kn [] pd ps pf pk nS (by omega) (by omega) (by simp;omega) rfl
   rw [risL_nil,← show szL t kn i = risR (i + 1) 0 kn by unfold szL;exact if_neg hti] at hseq
   rw [hr2,hss] at hlong
   clear hr2 hok
   generalize szL t kn i = L at *
   generalize setP t kn i = M at *
   generalize hy:t.getD i 0 = y at *
   repeat' first|(refine gca ?_;first|(refine ca hO ?_;rintro _ _ ⟨pd,ps,pf,pk,rfl,rfl⟩))|refine lie hy ?_|(refine aw (m:=((i + 1:Nat):Int)) ?_)|(refine wo ?_;first|(refine ao ?_;first|refine oa ?_)|refine oa ?_|refine ixmn ?_)|(refine gc ?_;first|(refine ci (fun hB=>?_) (fun hB=>?_) <;> try (exfalso;omega)))|refine sq ?_|refine rg ?_|refine xc ?_|refine nl ?_|refine sk ?_|refine bk ?_
   have hS:=@SeqO.run _ _ _ _ _ _ (hseq pd ps pf pk)
   clear hseq hO
   rw [show owl TLI I hs M = owl TLI I hs (M ++ L.take 0) by rw [List.take_zero,List.append_nil]]
   refine TC.range [lpt pd [I ((i + 1:Nat):Int)] TLI,lpt ps [nS] TLs,lpt pf [I ((0:Nat):Int)] TLI,lpt pk [I kn] TLI,vw nS (Is [])] [pt c [v] TLL,pt c5 [I 0] TEr,pt c4 [nS] TLL,own TLs v hs,owl TLI I hs (M ++ L.take 0)] (fun l2 rec Dm pend B'=>∃ v hs j,hs.length = M.length + j∧v.oneCell' = true∧((pend = none∧j = L.length∧M.length + j ≤ 4096∧B' = [dfr Dm,pt c [v] TLL,pt c5 [I 0] TEr,pt c4 [nS] TLL,own TLs v hs,owl TLI I hs (M ++ L.take j)])∨(pend = some .ret∧4096 < M.length + L.length∧B' = [dfr Dm,pt c [v] TLL,pt c5 [I 4] TEr,pt c4 [nS] TLL,own TLs v hs,owl TLI I hs (M ++ L.take j)]))) ?_ ?_
   ·intro rec l2 Dm hr
    refine Tr.unb (hS (α:=RwsG) l2 (fun g=>bnd [lrc l2 rec (bif g.st then .done else .ready) (bif g.st then some .ret else none),dfr Dm,pt c [g.v] TLL,pt c5 [I (bif g.st then 4 else 0)] TEr,pt c4 [nS] TLL,own TLs g.v g.hs,owl TLI I g.hs (M ++ L.take g.i)]) (fun g j=>g.st = false∧g.i = j∧g.hs.length = M.length + j∧M.length + j ≤ 4096∧g.v.oneCell' = true) (fun g=>g.st = true∧4096 < M.length + L.length∧g.hs.length = M.length + g.i∧g.v.oneCell' = true) ⟨v,hs,0,false⟩ ⟨rfl,rfl,hl,hl2,hv⟩ (fun p=>bnd_nob (nb1 (nb1 (nb1 (nb1 (nb1 (nb1 (nb1 nb0)))))))) ?_) ?_
    ·rintro ⟨v,hs,j,st⟩ j' x hx ⟨g1,g2,g3,g4,g5⟩ hj
     dsimp only at g1 g2 g3 g4 g5
     subst g1
     subst g2
     have hll:(L.take j).length = j:=by rw [List.length_take];omega
     have htk:=take_succ' hj []
     refine Ty.bndX ?_
     generalize L.getD j [] = row at *
     show Ty _ _ _ _ (lrc l2 rec .ready none :: [dfr Dm,pt c [v] TLL,pt c5 [I 0] TEr,pt c4 [nS] TLL,own TLs v hs,owl TLI I hs (M ++ L.take j),own TLI x (Is row)]) _
     refine Ty.intro env hr (by repeat (first | exact has00 | refine has01 ?_)) fun w1=>?_
     by_cases hfull:M.length + j = 4096
     ·have hlb:4096 < M.length + L.length:=by omega
      repeat' first|refine xbeg ?_|(refine wo ?_;first|(refine ao ?_;first|refine oa ?_)|refine oa ?_|refine ld ?_|refine ln ?_|refine sr ?_)|(refine gc ?_;first|(refine ci (fun hB=>?_) (fun hB=>?_) <;> try (exfalso;omega)))|refine sq ?_|refine rg ?_|refine xc ?_|refine nl ?_|refine bk ?_|refine rt ?_
      exact yr ⟨⟨v,hs,j,true⟩,rfl,.inr ⟨rfl,rfl,hlb,g3,g5⟩⟩
     ·repeat' first|refine xbeg ?_|refine sli (vs:=[x]) (fun q2=>?_) (h1:=one_cons hx one_nil)|(refine ap (xs:=hs) (news:=[x]) (fun o2=>?_) (h1:=one_cons hx one_nil);refine TO.one (v:=o2) (xs:=hs ++ [x]) fun ho2=>?_)|(refine wo ?_;first|(refine ao ?_;first|refine oa ?_)|refine oa ?_|refine ld ?_|refine ln ?_|refine sr ?_)|(refine gc ?_;first|(refine ci (fun hB=>?_) (fun hB=>?_) <;> try (exfalso;omega)))|refine sq ?_|refine rg ?_|refine xc ?_|refine nl ?_|refine sk ?_|refine bk ?_|refine xb ?_
      refine TX.im (owl_push (hs:=hs) (ls:=M ++ L.take j) (v:=x) (l:=row) (by rw [List.length_append,hll];exact g3) fitA) ?_
      rw [List.append_assoc,← htk]
      exact yn ⟨⟨o2,hs ++ [x],j + 1,false⟩,rfl,.inl ⟨rfl,rfl,rfl,by simp [g3];omega,by omega,ho2⟩⟩
    ·rintro _ _ ⟨⟨v,hs,j,st⟩,rfl,⟨g1,g2,g3,g4,g5⟩ | ⟨g1,g2,g3,g4⟩⟩
     ·dsimp only at g1 g2 g3 g4 g5
      subst g1
      exact ⟨_,rfl,.ready,none,_,rfl,by decide,v,hs,j,by omega,g5,.inl ⟨rfl,by omega,by omega,rfl⟩⟩
     ·dsimp only at g1 g2 g3 g4
      subst g1
      exact ⟨_,rfl,.done,some .ret,_,rfl,by decide,v,hs,j,g3,g4,.inr ⟨rfl,g2,rfl⟩⟩
   ·rintro l2 rec Dm pend B' ⟨v,hs,j,g1,g2,⟨rfl,g3,g4,rfl⟩ | ⟨rfl,g3,rfl⟩⟩
    ·show TX env _ _ _ _ _ _
     refine TX.im (dfrl_push (D:=Dm) (Ds:=Ds) fitA) ?_
     rw [g3,List.take_length,← hss]
     repeat' first|(refine wo ?_;first|(refine ao ?_;first|refine aw ?_)|refine oa ?_)|refine rg ?_|refine xc ?_|refine nl ?_|refine xb ?_
     exact lpD ⟨i + 1,v,hs,Dm :: Ds⟩ ⟨hlt,g2,by dsimp only;rw [hss,List.length_append];omega,by dsimp only;rw [hss,List.length_append];omega⟩
    ·show TC env _ _ _ _ _ _
     rw [hlong (by simp only [List.length_append];omega)]
     refine TC.im (dfrl_push (D:=Dm) (Ds:=Ds) fitA) ?_
     repeat' first|refine rt ?_
     refine TX.im (owl_nil (e:=TLI) (g:=I) _) ?_
     refine TX.im (own_nil TLs _) ?_
     exact mcc (Ds:=Dm :: Ds) (T:=TLL) (T2:=TEr) ⟨nS,[],rfl,rfl,rfl,rfl⟩
 ·obtain rfl:i = t.length:=by omega
  rw [hok (by omega)]
  repeat' first|(refine wo ?_;first|(refine ao ?_;first|refine oa ?_)|refine ld ?_|refine sr ?_)|(refine gc ?_;first|(refine ci (fun hB=>?_) (fun hB=>?_) <;> try (exfalso;omega)))|refine sq ?_|refine rg ?_|refine xc ?_|refine nl ?_|refine xe ?_|refine rt ?_
  exact mcc (Ds:=Ds) (T:=TLL) (T2:=TEr) ⟨v,hs,rfl,hv,hl,rfl⟩
end Go.Art
namespace Go.Art
open Go Go.Proofs Go.RowKit
def refE (t:List Int) (k n:Int):Int:=if solE t k = 0 then (if n < 0∨4096 < n then 3 else 0) else 13
theorem refE_zero {t:List Int} {k n:Int} (h:refE t k n = 0):solE t k = 0∧0 ≤ n∧n ≤ 4096:=by
 unfold refE at h
 split at h
 ·split at h
  ·cases h
  ·exact ⟨by assumption,by omega,by omega⟩
 ·cases h
def prodC (k:Nat):Nat→Nat
 | 0=>1
 | i + 1=>prodC k i * chs k (i + 1)
def prodX (k d:Nat):Nat→Nat
 | 0=>1
 | i + 1=>if i + 1 = d then prodX k d i else prodX k d i * chs k (i + 1)
theorem prodX_lt {k d:Nat}:∀ {n:Nat},n < d→prodX k d n = prodC k n
 | 0,_=>rfl
 | n + 1,h=>by unfold prodX prodC;rw [if_neg (by omega),prodX_lt (by omega)]
theorem prodX_mul {k d:Nat} (h1:1 ≤ d):∀ {n:Nat},d ≤ n→prodX k d n * chs k d = prodC k n
 | 0,h=>by omega
 | n + 1,h=>by
  unfold prodX prodC
  by_cases e:n + 1 = d
  ·rw [if_pos e,prodX_lt (by omega),e]
  ·rw [if_neg e,← prodX_mul h1 (by omega),Nat.mul_assoc,Nat.mul_comm (chs k (n + 1)),← Nat.mul_assoc]
theorem prodC_pos {k:Nat}:∀ {n:Nat},n ≤ k→prodC k n ≠ 0
 | 0,_=>Nat.one_ne_zero
 | n + 1,h=>by unfold prodC;exact Nat.mul_ne_zero (prodC_pos (by omega)) (chs_pos (by omega))
theorem prodC_le {k:Nat} (hk:k ≤ 40):∀ n,prodC k n ≤ 1099511627776 ^ n
 | 0=>by simp [prodC]
 | n + 1=>by
  unfold prodC
  rw [Nat.pow_succ]
  exact Nat.mul_le_mul (prodC_le hk n) (Nat.le_trans (chs_bnd k (n + 1)) (Nat.le_trans (Nat.pow_le_pow_right (by decide) hk) (by decide)))
theorem prodX_le {k d n:Nat} (h1:1 ≤ d) (h2:d ≤ n) (h3:n ≤ k):prodX k d n ≤ prodC k n:=by
 rw [← prodX_mul h1 h2]
 exact Nat.le_mul_of_pos_right _ (Nat.pos_of_ne_zero (chs_pos (by omega)))
def oneS (t:List Int) (k:Nat):Nat:=t.sum.toNat * prodC k t.length
def wS (t:List Int) (k d:Nat):Nat:=(t.getD (d - 1) 0).toNat * prodX k d t.length
def itemS (t:List Int) (k:Nat):List (List Int × Nat):=(setP t k t.length).map fun s=>(s,wS t k s.length)
theorem itemS_len (t:List Int) (k:Nat):(itemS t k).length = (setP t k t.length).length:=by simp [itemS]
theorem itemS_fst (t:List Int) (k:Nat):(itemS t k).map (·.1) = setP t k t.length:=by unfold itemS;rw [List.map_map];exact List.map_id _
theorem le_sum {t:List Int} (h:∀ w ∈ t,0 ≤ w):∀ w ∈ t,w ≤ t.sum:=by
 induction t with
 | nil=>intro w hw;cases hw
 | cons a r ih=>
  intro w hw
  have h1:0 ≤ r.sum:=by
   clear ih hw
   induction r with
   | nil=>simp
   | cons b s ih2=>
    have:=h b (by simp)
    have:=ih2 fun w hw=>h w (by rcases List.mem_cons.1 hw with rfl | hw;simp;simp [hw])
    simp only [List.sum_cons];omega
  rw [List.sum_cons]
  have ha:=h a (by simp)
  rcases List.mem_cons.1 hw with rfl | hw
  ·omega
  ·have:=ih (fun w hw=>h w (by simp [hw])) w hw;omega
theorem oneS_pos {t:List Int} {k:Nat} (hz:solE t k = 0):oneS t k ≠ 0:=by
 obtain ⟨z1,z2,z3,z4⟩:=solE_zero hz
 have:=sum_posT z3 z4
 exact Nat.mul_ne_zero (by omega) (prodC_pos (by omega))
theorem oneS_lt {t:List Int} {k:Nat} (hz:solE t k = 0) (hk:k ≤ 40) (hl:t.length ≤ 12):oneS t k < 18446744073709551616 ^ 10:=by
 obtain ⟨z1,z2,z3,z4⟩:=solE_zero hz
 have h1:=(sum_wOk z3).2
 have h2:t.sum.toNat ≤ 268435456:=by
  have:(16777215:Int) * t.length ≤ 16777215 * 12:=by omega
  omega
 have h3:=prodC_le hk t.length
 have h4:1099511627776 ^ t.length ≤ 1099511627776 ^ 12:=Nat.pow_le_pow_right (by decide) hl
 have h5:oneS t k ≤ 268435456 * 1099511627776 ^ 12:=Nat.mul_le_mul h2 (Nat.le_trans h3 h4)
 exact Nat.lt_of_le_of_lt h5 (by decide)
theorem wS_le {t:List Int} {k d:Nat} (hz:solE t k = 0) (h1:1 ≤ d) (h2:d ≤ t.length):wS t k d ≤ oneS t k:=by
 obtain ⟨z1,z2,z3,z4⟩:=solE_zero hz
 have hm:t.getD (d - 1) 0 ∈ t:=by rw [List.getD_eq_getElem?_getD,List.getElem?_eq_getElem (by omega)];exact List.getElem_mem (by omega)
 have:=le_sum (fun w hw=>(z3 w hw).1) _ hm
 exact Nat.mul_le_mul (by omega) (prodX_le h1 h2 (by omega))
theorem cha_eq {t:List Int} {k d:Nat} (hz:solE t k = 0) (h1:1 ≤ d) (h2:d ≤ t.length):mkRat (t.getD (d - 1) 0) (chs k d * t.sum.toNat) = mkRat ((wS t k d:Nat):Int) (oneS t k):=by
 obtain ⟨z1,z2,z3,z4⟩:=solE_zero hz
 have hs:=sum_posT z3 z4
 have hm:t.getD (d - 1) 0 ∈ t:=by rw [List.getD_eq_getElem?_getD,List.getElem?_eq_getElem (by omega)];exact List.getElem_mem (by omega)
 have h0:=(z3 _ hm).1
 have hx:prodX k d t.length ≠ 0:=fun e=>by
  have:=prodX_mul (k:=k) h1 h2
  rw [e,Nat.zero_mul] at this
  exact prodC_pos (k:=k) (n:=t.length) (by omega) this.symm
 have:=mk_scale (t.getD (d - 1) 0).toNat (chs k d * t.sum.toNat) (prodX k d t.length) (Nat.mul_ne_zero (chs_pos (by omega)) (by omega)) hx
 rw [Int.toNat_of_nonneg h0] at this
 rw [this]
 congr 1
 unfold oneS
 rw [← prodX_mul (k:=k) h1 h2]
 grind
theorem itemS_mem {t:List Int} {k:Nat} {s:List Int × Nat} (h:s ∈ itemS t k):(1 ≤ s.1.length∧s.1.length ≤ t.length)∧s.2 = wS t k s.1.length∧s.1 ∈ risR s.1.length 0 k:=by
 obtain ⟨l,hl,rfl⟩:=List.mem_map.1 h
 obtain ⟨a1,a2,_,a4⟩:=setP_mem hl
 exact ⟨⟨a1,a2⟩,rfl,a4⟩
theorem itemS_le {t:List Int} {k:Nat} (hz:solE t k = 0):∀ s ∈ itemS t k,s.2 ≤ oneS t k:=fun s h=>by
 obtain ⟨a1,a2,_⟩:=itemS_mem h
 rw [a2];exact wS_le hz a1.1 a1.2
theorem itemS_pos {t:List Int} {k:Nat} (hz:solE t k = 0):0 < (itemS t k).length:=by
 obtain ⟨z1,z2,z3,w,hw,hw0⟩:=solE_zero hz
 obtain ⟨i,hi,rfl⟩:=List.mem_iff_getElem.1 hw
 rw [itemS_len]
 obtain ⟨r,hr⟩:=setP_pre t k (show i + 1 ≤ t.length from hi)
 have h1:(szL t k i).length ≠ 0:=by
  rw [szL_len,if_neg (by simp [List.getD_eq_getElem?_getD,hi];omega)]
  exact chs_pos (by omega)
 rw [hr,setP_succ]
 simp only [List.length_append];omega
def massW (W:List (List Int)→Bool) (t:List Int) (k n:Int):Fr3 × Int:=
 if refE t k n = 0 then (if (setsW t k).2 = 0 then sumW W (itemS t k.toNat) (oneS t k.toNat) n.toNat else (rqn,4)) else (rqn,refE t k n)
structure DrG where
 i:Nat
 v:Value
 hs:List (Value × Value)
attribute [local irreducible] Fit pt own ro vw mpc lpt vels rels mow lrc dfr
attribute [local irreducible] lmp lme mit velg relg bnd owl setP szL solE risR chaW oneS wS
theorem mrefuses_tr (tv:Value) (t:List Int) (k n:Int):Tr Tryz.prog 83 [tv,I k,I n] [vw tv (Is t)] [] fun u D=>u = I (refE t k n)∧D = []:=by
 have hC:=SoCheck_tr tv t k
 have h13:=@solE_13 t k
 unfold refE
 refine Tr.enter env _ Tryz.func83 (by kernel_rfl) rfl Tryz.ntmps83 rfl (by repeat (first | exact has00 | refine has01 ?_)) fun w0=>?_
 by_cases hz:solE t k = 0
 ·rw [hz] at hC
  rw [if_pos hz]
  repeat' first|(refine gca ?_;first|(refine ca hC ?_;rintro _ _ ⟨rfl,rfl⟩))|(refine wo ?_;first|(refine ao ?_;first|refine oa ?_)|refine oa ?_|refine gy ?_|refine gn ?_|(refine gsi (fun hB=>?_) (fun hB=>?_) <;> try (exfalso;omega)))|(refine gc ?_;first|refine ct ?_|refine cf ?_|(refine ci (fun hB=>?_) (fun hB=>?_) <;> try (exfalso;omega)))|refine sq ?_|refine rg ?_|refine xc ?_|refine nl ?_|refine sk ?_|refine bk ?_|refine rt ?_|refine xb ?_
  all_goals first | exact r1 ⟨by rw [if_pos (by omega)],rfl⟩ | exact r1 ⟨by rw [if_neg (by omega)],rfl⟩
 ·rw [h13 hz] at hC
  rw [if_neg hz]
  repeat' first|(refine gca ?_;first|(refine ca hC ?_;rintro _ _ ⟨rfl,rfl⟩))|(refine wo ?_;first|(refine ao ?_;first|refine oa ?_)|refine oa ?_)|(refine gc ?_;first|refine ct ?_)|refine sq ?_|refine rg ?_|refine xc ?_|refine nl ?_|refine bk ?_|refine rt ?_
  exact r1 ⟨rfl,rfl⟩
abbrev itmC (v:Value) (ss:List Value) (hs:List (Value × Value)) (L:List (List Int × Nat)) (D:Nat):List Ch:=[oww TIm 4 v L.length (ics ss (fracs L D) hs),owl TLI I ss (L.map (·.1)),ofr hs (fracs L D)]
theorem drawn_err (tv:Value) (t:List Int) (k n:Int) (hz:refE t k n ≠ 0):Tr Tryz.prog 80 [tv,I k,I n] [vw tv (Is t)] [] fun u D=>u = tup2 nS (I (refE t k n))∧D = []:=by
 have hR:=mrefuses_tr tv t k n
 generalize refE t k n = e at *
 refine Tr.enter env _ Tryz.func80 (by kernel_rfl) rfl Tryz.ntmps80 rfl (by repeat (first | exact has00 | refine has01 ?_)) fun w0=>?_
 repeat' first|(refine gca ?_;first|(refine ca hR ?_;rintro _ _ ⟨rfl,rfl⟩))|(refine wo ?_;first|(refine ao ?_;first|refine oa ?_)|refine oa ?_)|(refine gc ?_;first|(refine cn (fun hB=>?_) (fun hB=>?_) <;> try (exfalso;omega)))|refine sq ?_|refine rg ?_|refine xc ?_|refine nl ?_|refine rt ?_
 exact r2 ⟨rfl,rfl⟩
theorem drawn_long (tv:Value) (t:List Int) (k n:Int) (hz:refE t k n = 0) (h2:setsW t k = ([],4)):Tr Tryz.prog 80 [tv,I k,I n] [vw tv (Is t)] [] fun u D=>u = tup2 nS (I 4)∧D = []:=by
 have hR:=mrefuses_tr tv t k n
 have hS:=MSets_tr tv t k
 rw [hz] at hR
 rw [h2] at hS
 refine Tr.enter env _ Tryz.func80 (by kernel_rfl) rfl Tryz.ntmps80 rfl (by repeat (first | exact has00 | refine has01 ?_)) fun w0=>?_
 repeat' first|(refine gca ?_;first|(refine ca hR ?_;rintro _ _ ⟨rfl,rfl⟩)|(refine ca hS ?_;rintro _ _ ⟨v,hs,rfl,hv,hl,rfl⟩))|(refine wo ?_;first|(refine ao ?_;first|refine oa ?_)|refine oa ?_|refine ln ?_)|(refine gc ?_;first|refine cf ?_)|refine sq ?_|refine rg ?_|refine xc ?_|refine nl ?_|refine sk ?_|refine bk ?_
 obtain rfl:hs = []:=List.length_eq_zero_iff.1 hl
 refine TC.loop (ι:=Nat) (fun i=>[(31,I i)]) (fun _=>[]) (fun i=>i = 0) (fun i=>0) 0 [11,10,30] rfl ?_
 rintro i rfl
 repeat' first|(refine wo ?_;first|(refine ao ?_;first|refine oa ?_)|refine oa ?_)|(refine gc ?_;first|refine cf ?_)|refine sq ?_|refine rg ?_|refine xc ?_|refine nl ?_|refine xe ?_|refine rt ?_
 exact r2 ⟨rfl,rfl⟩
theorem drawn_tr (tv:Value) (t:List Int) (k:Nat) (n:Int) (hz:refE t k n = 0) (h2:setsW t k = (setP t k t.length,0)) (h3:(setP t k t.length).length ≤ 4096):Tr Tryz.prog 80 [tv,I k,I n] [vw tv (Is t)] []
  fun u D=>∃ v ss hs,u = tup2 v (I 0)∧v.oneCell' = true∧ss.length = (itemS t k).length∧hs.length = (itemS t k).length∧D = itmC v ss hs (itemS t k) (oneS t k):=by
 have hR:=mrefuses_tr tv t k n
 have hS:=MSets_tr tv t k
 obtain ⟨hsz,_⟩:=refE_zero hz
 rw [hz] at hR
 rw [h2] at hS
 have hCh:=fun d=>ChaW_tr tv t k d
 have hmem:=@itemS_mem t k
 have hce:=fun d h1 h2=>cha_eq (d:=d) hsz h1 h2
 have hcw:∀ d:Nat,1 ≤ d→d ≤ t.length→chaW t k d = (rqf (mkRat (t.getD (d - 1) 0) (chs k d * t.sum.toNat)),0):=fun d h1 h2=>by
  unfold chaW
  rw [if_pos hsz,if_neg (by omega),Int.toNat_natCast,Int.toNat_natCast,show (((d:Int) - 1).toNat) = d - 1 by omega]
 obtain ⟨L,hL⟩ : ∃ L,L = itemS t k:=⟨_,rfl⟩
 have hLl:L.length ≤ 4096:=by rw [hL,itemS_len];exact h3
 rw [← itemS_fst,← hL] at hS
 simp only [← hL] at hmem ⊢
 have hgl:∀ i,i < L.length→L.getD i ([],0) ∈ L:=fun i h=>by rw [List.getD_eq_getElem?_getD,List.getElem?_eq_getElem h];exact List.getElem_mem h
 have hlen:∀ s ∈ L,s.1.length ≤ t.length:=fun s hs=>(hmem hs).1.2
 have hch:∀ i,i < L.length→chaW t k ((L.getD i ([],0)).1.length) = (rqf ((fracs L (oneS t k)).getD i 0),0):=fun i h=>by
  obtain ⟨a1,a2,_⟩:=hmem (hgl i h)
  rw [hcw _ a1.1 a1.2,hce _ a1.1 a1.2,fracs_get h,a2]
 have hfl:(fracs L (oneS t k)).length = L.length:=by simp
 have hll:(L.map fun s:List Int × Nat=>s.1).length = L.length:=List.length_map ..
 have hfg:=fun i (h:i < L.length)=>fst_get (L:=L) h
 clear hL hz h2 h3 hmem hce hcw hgl
 unfold itmC
 generalize fracs L (oneS t k) = Q at *
 rw [hll] at hS
 refine Tr.enter env _ Tryz.func80 (by kernel_rfl) rfl Tryz.ntmps80 rfl (by repeat (first | exact has00 | refine has01 ?_)) fun w0=>?_
 refine TC.leni (v:=tv) (l:=t) fun htl=>?_
 repeat' first|(refine gca ?_;first|(refine ca hR ?_;rintro _ _ ⟨rfl,rfl⟩)|(refine ca hS ?_;rintro _ _ ⟨sv,ss,rfl,hsv,hsl,rfl⟩))|(refine wo ?_;first|(refine ao ?_;first|refine oa ?_)|refine oa ?_|refine ln ?_)|(refine gc ?_;first|refine cf ?_)|refine sq ?_|refine rg ?_|refine xc ?_|refine nl ?_|refine sk ?_|refine bk ?_
 refine TC.im (oww_nil TIm 4 _) (TC.im (owl_nil (e:=T64) (g:=wU) _) ?_)
 refine TC.fact (owl_ones (e:=TLI) (g:=I) (hs:=ss) (ls:=L.map fun s=>s.1) (by rw [hll];exact hsl) memA) fun hso=>?_
 refine TC.loop (ι:=DrG) (fun g=>[(31,I g.i),(11,g.v)]) (fun g=>[oww TIm 4 g.v g.i (ics (ss.take g.i) (Q.take g.i) g.hs),ofr g.hs (Q.take g.i)]) (fun g=>g.i ≤ L.length∧g.v.oneCell' = true∧g.hs.length = g.i) (fun g=>L.length - g.i) ⟨0,nS,[]⟩ [0,1,10,29,30] ⟨Nat.zero_le _,rfl,rfl⟩ ?_
 rintro ⟨i,v,hs⟩ ⟨hi,hv,hl⟩
 dsimp only at hi hv hl ⊢
 by_cases hlt:i < L.length
 ·have hg1:ss[i]? = some (ss.getD i nS):=by rw [List.getD_eq_getElem?_getD,List.getElem?_eq_getElem (by omega)];rfl
  have hs1:(ss.getD i nS).oneCell' = true:=hso _ (by rw [List.getD_eq_getElem?_getD,List.getElem?_eq_getElem (by omega)];exact List.getElem_mem (by omega))
  have hsl1:∀ F,owl TLI I ss (L.map fun s=>s.1) ∈ F→Has F (vw (ss.getD i nS) (Is (L.getD i ([],0)).1)):=fun F h=>by
   have:=has_elg (g:=I) (hs:=ss) (ls:=L.map fun s=>s.1) (has_owl (e:=TLI) (by rw [hll];exact hsl) h) (i:=i) (by rw [hll];exact hlt)
   rwa [hfg i hlt] at this
  have hc:=hch i hlt
  have hC1:=hCh ((L.getD i ([],0)).1.length:Int)
  rw [hc] at hC1
  have hst:=take_succ' (show i < ss.length by omega) nS
  have hqt:=take_succ' (show i < Q.length by omega) 0
  have hqtl:(Q.take i).length = i:=by rw [List.length_take];omega
  have hra:=fun vn vd=>ics_app (ss:=ss.take i) (rs:=[ss.getD i nS]) (qs:=Q.take i) (ps:=[Q.getD i 0]) (hs:=hs) (gs:=[(vn,vd)]) (by simp only [List.length_take];omega) (by rw [hqtl];exact hl)
  simp only [← hst,← hqt,ics_one] at hra
  have hrl:=hlen (L.getD i ([],0)) (by rw [List.getD_eq_getElem?_getD,List.getElem?_eq_getElem hlt];exact List.getElem_mem hlt)
  unfold FW at hC1
  dsimp only at hC1
  clear hso hch hCh hfg hst hc hlen
  generalize (L.getD i ([],0)).1 = row at *
  generalize ss.getD i nS = s1 at *
  generalize Q.getD i 0 = q at *
  repeat' first|(refine gca ?_;first|(refine ca hC1 ?_;rintro _ _ ⟨vn,vd,rfl,hvn,hvd,rfl⟩))|refine le (xs:=ss) ?_ (hj:=hg1)|(refine lnm (l:=row) ?_ (hh:=hsl1 _ memA))|refine al fun c14=>?_|refine srz ?_|refine lda ?_|refine bdm ?_|refine slws (sz:=4) (xs:=irow s1 q (vn,vd)) (fun g2=>?_)|refine apw (sz:=4) (M:=1) (N:=i) (xs:=ics (ss.take i) (Q.take i) hs) (ys:=irow s1 q (vn,vd)) (by decide) rfl (one_cons hs1 (one_cons rfl (one_cons hvn (one_cons hvd one_nil)))) (fun o2 ho2=>?_) (hu:=has_oww memA)|(refine wo ?_;first|(refine ao ?_;first|refine aw ?_|refine oa ?_)|refine oa ?_|refine ixn ?_)|(refine gc ?_;first|(refine ci (fun hB=>?_) (fun hB=>?_) <;> try (exfalso;omega)))|refine sq ?_|refine rg ?_|refine xc ?_|refine nl ?_|refine sk ?_|refine bk ?_|refine xb ?_
  refine TX.im (ofr_snoc (qs:=Q.take i) (by rw [hqtl];exact hl) q vn vd fitA) ?_
  rw [← hqt]
  exact lp ⟨i + 1,o2,hs ++ [(vn,vd)]⟩ ⟨hlt,ho2,by simp [hl]⟩ (hf:=by dsimp only;rw [hra];exact fitA)
 ·obtain rfl:i = L.length:=by omega
  rw [List.take_of_length_le (show ss.length ≤ L.length by omega),List.take_of_length_le (show Q.length ≤ L.length by omega)]
  repeat' first|(refine wo ?_;first|(refine ao ?_;first|refine oa ?_)|refine oa ?_)|(refine gc ?_;first|(refine ci (fun hB=>?_) (fun hB=>?_) <;> try (exfalso;omega)))|refine sq ?_|refine rg ?_|refine xc ?_|refine nl ?_|refine xe ?_|refine rt ?_
  exact r2 ⟨v,ss,hs,rfl,hv,by omega,hl,rfl⟩
theorem setsW_cases {t:List Int} {k:Nat} (hz:solE t k = 0):(setsW t k = (setP t k t.length,0)∧(setP t k t.length).length ≤ 4096)∨setsW t k = ([],4):=by
 by_cases h:4096 < (setP t k t.length).length
 ·exact .inr (setsW_long hz (by rw [Int.toNat_natCast];exact h))
 ·refine .inl ⟨?_,by omega⟩
  have:=setsW_ok hz (by rw [Int.toNat_natCast];exact h)
  rwa [Int.toNat_natCast] at this
noncomputable abbrev failW (k:Int) (ls:List (List Int)):Bool:=decide (0 < (largeR k ls).length)
theorem MFail_tr (tv:Value) (t:List Int) (k n:Int) (hl:t.length ≤ 12) (hk:k ≤ 40∨65536 < k) (hn:n ≤ 12∨4096 < n):Tr Tryz.prog 37 [tv,I k,I n] [vw tv (Is t)] [] (FW (massW (failW k) t k n)):=by
 unfold massW
 by_cases hz:refE t k n = 0
 rotate_left
 ·rw [if_neg hz]
  have hD:=drawn_err tv t k n hz
  refine Tr.mono (R:=fun u D=>u = tup2 rv0 (I (refE t k n))∧D = [own T64 nS (Us []),own T64 nS (Us [])]) ?_ fun u D h=>FW.of0 h
  generalize refE t k n = e at *
  refine Tr.enter env _ Tryz.func37 (by kernel_rfl) rfl Tryz.ntmps37 rfl (by repeat (first | exact has00 | refine has01 ?_)) fun w0=>?_
  repeat' first|(refine gca ?_;first|(refine ca hD ?_;rintro _ _ ⟨rfl,rfl⟩))|refine al fun c=>?_|refine bdz ?_|refine srz ?_|(refine wo ?_;first|(refine ao ?_;first|refine oa ?_)|refine oa ?_)|(refine gc ?_;first|(refine cn (fun hB=>?_) (fun hB=>?_) <;> try (exfalso;omega)))|refine sq ?_|refine rg ?_|refine xc ?_|refine nl ?_|refine rt ?_
  refine TX.im (own_nil T64 _) (TX.im (own_nil T64 _) ?_)
  exact rca (cs:=[.bool false,nS,nS]) (vs:=[.bool false,nS,nS]) (T:=TRt) ⟨rfl,rfl⟩
 rw [if_pos hz]
 obtain ⟨hsz,hn0,hn1⟩:=refE_zero hz
 obtain ⟨z1,z2,_⟩:=solE_zero hsz
 obtain ⟨kn,rfl⟩ : ∃ kn:Nat,k = kn:=⟨k.toNat,by omega⟩
 obtain ⟨nn,rfl⟩ : ∃ nn:Nat,n = nn:=⟨n.toNat,by omega⟩
 rw [Int.toNat_natCast,Int.toNat_natCast]
 rcases setsW_cases hsz with ⟨h1,h2⟩ | h1
 rotate_left
 ·rw [h1,if_neg (by decide)]
  have hD:=drawn_long tv t kn nn hz h1
  refine Tr.mono (R:=fun u D=>u = tup2 rv0 (I 4)∧D = [own T64 nS (Us []),own T64 nS (Us [])]) ?_ fun u D h=>FW.of0 h
  refine Tr.enter env _ Tryz.func37 (by kernel_rfl) rfl Tryz.ntmps37 rfl (by repeat (first | exact has00 | refine has01 ?_)) fun w0=>?_
  repeat' first|(refine gca ?_;first|(refine ca hD ?_;rintro _ _ ⟨rfl,rfl⟩))|refine al fun c=>?_|refine bdz ?_|refine srz ?_|(refine wo ?_;first|(refine ao ?_;first|refine oa ?_)|refine oa ?_)|(refine gc ?_;first|refine ct ?_)|refine sq ?_|refine rg ?_|refine xc ?_|refine nl ?_|refine rt ?_
  refine TX.im (own_nil T64 _) (TX.im (own_nil T64 _) ?_)
  exact rca (cs:=[.bool false,nS,nS]) (vs:=[.bool false,nS,nS]) (T:=TRt) ⟨rfl,rfl⟩
 rw [h1,if_pos rfl]
 have hD:=drawn_tr tv t kn nn hz h1 h2
 have hLp:=itemS_pos hsz
 have hLb:=itemS_le hsz
 have hO0:=oneS_pos hsz
 have hO1:=oneS_lt hsz (by omega) hl
 have hS:=fun v hv ss hs a b=>Sum_tr v hv ss hs (itemS t kn) (oneS t kn) nn (kn:Int) 82 (failW kn) a b hLp hLb hO0 hO1 (by omega) (fun v l hl hi=>fails_trm (kn:Int) v (l.map fun i=>ss.getD i nS) (selS (itemS t kn) l) (by unfold selS;rw [List.length_map];omega))
 clear hLb hO0 hO1 h1 h2 hLp
 generalize sumW (failW kn) (itemS t kn) (oneS t kn) nn = sw at *
 generalize itemS t kn = L at *
 generalize oneS t kn = D1 at *
 obtain ⟨⟨s1,s2,s3⟩,e⟩:=sw
 unfold FW at hS ⊢
 dsimp only at hS ⊢
 unfold itmC at hD
 have hll:(L.map fun s:List Int × Nat=>s.1).length = L.length:=List.length_map ..
 have hfl:(fracs L D1).length = L.length:=List.length_map ..
 refine Tr.enter env _ Tryz.func37 (by kernel_rfl) rfl Tryz.ntmps37 rfl (by repeat (first | exact has00 | refine has01 ?_)) fun w0=>?_
 repeat' first|(refine gca ?_;first|(refine ca hD ?_;rintro _ _ ⟨v,ss,hs,rfl,hv,hss,hhs,rfl⟩)|(refine ca (hS v hv ss hs hss hhs) ?_ (hp:=has1 (has_oww memA) (has1 (has_owl (e:=TLI) (by rw [hll];exact hss) memA) (has1 (has_ofr (by rw [hfl];exact hhs) memA) has0)));rintro _ _ ⟨vn,vd,rfl,hvn,hvd,rfl⟩))|refine al fun c=>?_|refine srz ?_|(refine wo ?_;first|(refine ao ?_;first|refine oa ?_)|refine oa ?_)|(refine gc ?_;first|refine cf ?_)|refine sq ?_|refine rg ?_|refine xc ?_|refine nl ?_|refine sk ?_|refine rt ?_
 exact rca (cs:=[.bool s1,vn,vd]) (vs:=[.bool s1,vn,vd]) (T:=TRt) ⟨vn,vd,rfl,hvn,hvd,rfl⟩
end Go.Art
namespace Go.Art
open Go Go.Proofs Go.RowKit
def unkS (ls:List (List Int)) (U:List Int):List Int:=U.filter fun s=>!(ls.any fun l=>l.contains s && l.all fun x=>x == s || !U.contains x)
def unkC (ls:List (List Int)):Nat→List Int→List Int
 | 0,U=>U
 | n + 1,U=>unkC ls n (unkS ls U)
def failC (k:Int) (ls:List (List Int)):Bool:=decide (stopE k ls = 0) && !((belowI k).filter fun s=>(unkC ls k.toNat (belowI k)).contains s).isEmpty
open Go
def shw (all:Int) (u:AlS) (c j:Nat):Int:=
 if (c:Int) ∈ u.B ++ u.A then (if c = j then u.rest.getD c 0 else 0) else ((if c = j then u.cut.getD c 0 else 0) + (if u.oth.getD c 0 = j then all - u.cut.getD c 0 else 0))
structure AlM (t:List Int) (all:Int) (u:AlS):Prop where
 op:∀ c:Nat,c < t.length→(c:Int) ∈ u.B ++ u.A→u.cut.getD c 0 = all∧u.oth.getD c 0 = c
 mass:∀ j:Nat,j < t.length→((List.range t.length).map fun c=>shw all u c j).sum = t.getD j 0 * t.length
open Go Go.Proofs Go.RowKit
def rowS (k:Nat) (l:List Int):List Int:=srt (ordF 0 (upto k) (l.drop 2))
def oneR (t:List Int) (k:Nat):Nat:=fall k k * t.length * t.sum.toNat
def wR (k:Nat) (l:List Int):Nat:=fall (k - (l.length - 2)) (k - (l.length - 2))
abbrev rowsA (t:List Int) (k:Nat):List (List Int):=allL t.sum (alF t).cut (alF t).oth k
def itemR (t:List Int) (k:Nat):List (List Int × Nat):=(rowsA t k).map fun l=>(rowS k l,wR k l)
def massD (W:List (List Int)→Bool) (t:List Int) (k n:Int):Fr3 × Int:=
 if refE t k n = 0 then (if (itemR t k.toNat).length ≤ 4096 then sumW W (itemR t k.toNat) (oneR t k.toNat) n.toNat else (rqn,4)) else (rqn,refE t k n)
structure DwG where
 i:Nat
 v:Value
 ss:List Value
 hs:List (Value × Value)
attribute [local irreducible] Fit pt own ro vw mpc lpt vels rels mow lrc dfr
attribute [local irreducible] lmp lme mit velg relg bnd owl setP szL solE risR chaW oneS wS
end Go.Art
namespace Go.Art
open Go Go.Proofs Go.RowKit
def msk (l:List Int):Nat:=(l.map fun s=>2 ^ s.toNat).sum
def popK (k a:Nat):Nat:=((List.range k).map fun j=>a / 2 ^ j % 2).sum
def rmsk (k:Nat) (l:List Int):Nat:=msk (ordF 0 (upto k) (l.drop 2))
def fct:Nat→Nat
 | 0=>1
 | n + 1=>(n + 1) * fct n
def chkA (k:Nat):Bool:=(List.range (k + 1)).all fun d=>(endsL d k []).all fun js=>(ordF 0 (upto k) js).all (fun s=>decide (0 ≤ s∧s < k)) && Nat.blt (msk (ordF 0 (upto k) js)) (2 ^ k)
def chkB (k:Nat):Bool:=(List.range (2 ^ k)).all fun a=>Nat.ble (popK k a) k && (Nat.beq a 0 || Nat.blt 0 (popK k a)) && (List.range (k + 1)).all fun d=>Nat.beq ((endsL d k []).filter fun js=>Nat.beq (msk (ordF 0 (upto k) js)) a).length (bif Nat.beq d (popK k a) then fct d else 0)
def wtA (k a:Nat) (l:List Int):Nat:=bif Nat.beq (rmsk k l) a then wt k l else 0
def shrM (k a:Nat) (d:Nat):Nat:=if d = popK k a then fct d * (24 / fall k d) else 0
open Go Go.Proofs Go.RowKit
theorem natG_zero (W:List (List Int)→Bool) (L:List (List Int × Nat)) (b:List (List Int)) (m:Nat):natG W L 0 b m = if W b then m else 0:=by rw [natG]
theorem natG_succ (W:List (List Int)→Bool) (L:List (List Int × Nat)) (n:Nat) (b:List (List Int)) (m:Nat):natG W L (n + 1) b m = (L.map fun s=>natG W L n (b ++ [s.1]) (m * s.2)).sum:=by rw [natG]
theorem sum_mulR {α:Type} (f:α→Nat) (c:Nat):∀ l:List α,(l.map fun x=>f x * c).sum = (l.map f).sum * c
 | []=>by simp
 | a :: l=>by rw [List.map_cons,List.sum_cons,List.map_cons,List.sum_cons,sum_mulR f c l,Nat.add_mul]
theorem natG_lin (W:List (List Int)→Bool) (L:List (List Int × Nat)) (c:Nat):∀ n b m,natG W L n b (m * c) = natG W L n b m * c
 | 0,b,m=>by rw [natG_zero,natG_zero];split <;> simp
 | n + 1,b,m=>by
  rw [natG_succ,natG_succ,← sum_mulR]
  refine congrArg List.sum (List.map_congr_left fun s _=>?_)
  rw [Nat.mul_right_comm,natG_lin W L c n]
theorem natG_all {L:List (List Int × Nat)} {D:Nat} (hD:(L.map (·.2)).sum = D):∀ n b m,natG (fun _=>true) L n b m = m * D ^ n
 | 0,b,m=>by rw [natG_zero,if_pos rfl,Nat.pow_zero,Nat.mul_one]
 | n + 1,b,m=>by
  rw [natG_succ]
  have:(L.map fun s=>natG (fun _=>true) L n (b ++ [s.1]) (m * s.2)) = L.map fun s=>s.2 * (m * D ^ n):=List.map_congr_left fun s _=>by rw [natG_all hD n,Nat.mul_assoc,Nat.mul_left_comm]
  rw [this,sum_mulR (fun s:List Int × Nat=>s.2) (m * D ^ n) L,hD,Nat.pow_succ,Nat.mul_comm D,Nat.mul_assoc]
theorem natG_leW {W V:List (List Int)→Bool} (h:∀ b,W b = true→V b = true) (L:List (List Int × Nat)):∀ n b m,natG W L n b m ≤ natG V L n b m
 | 0,b,m=>by
  rw [natG_zero,natG_zero]
  by_cases e:W b = true
  ·rw [if_pos e,if_pos (h b e)];exact Nat.le_refl _
  ·rw [if_neg e];exact Nat.zero_le _
 | n + 1,b,m=>by
  rw [natG_succ,natG_succ]
  have key:∀ l:List (List Int × Nat),(l.map fun s=>natG W L n (b ++ [s.1]) (m * s.2)).sum ≤ (l.map fun s=>natG V L n (b ++ [s.1]) (m * s.2)).sum:=by
   intro l
   induction l with
   | nil=>simp
   | cons a r ih=>simp only [List.map_cons,List.sum_cons];have:=natG_leW h L n (b ++ [a.1]) (m * a.2);omega
  exact key L
theorem failW_more (k:Int) (b:List (List Int)) (s:List Int) (h:failW k (b ++ [s]) = true):failW k b = true:=by
 unfold failW at h ⊢
 have h:=of_decide_eq_true h
 refine decide_eq_true ?_
 unfold largeR at h ⊢
 by_cases e:stopE k (b ++ [s]) = 0
 ·rw [if_pos e] at h
  obtain ⟨k1,k2,hset⟩:=stopE_zero e
  have e2:stopE k b = 0:=by
   unfold stopE
   rw [if_neg (by omega),if_neg]
   intro h3
   obtain ⟨l,hl,h4⟩:=List.any_eq_true.1 h3
   rw [hset l (by simp [hl])] at h4;cases h4
  rw [if_pos e2]
  obtain ⟨x,hx⟩:=List.exists_mem_of_length_pos h
  have hx:=mem_large.1 hx
  exact List.length_pos_of_mem (mem_large.2 ⟨hx.1,fun hk=>hx.2 (hk.mono fun l hl=>by simp [hl])⟩)
 ·rw [if_neg e] at h;simp at h
theorem itemS_sum {t:List Int} {k:Nat} (hz:solE t k = 0):((itemS t k).map (·.2)).sum = oneS t k:=by
 obtain ⟨z1,z2,z3,z4⟩:=solE_zero hz
 have h1:(itemS t k).map (·.2) = (setP t k t.length).map fun s=>wS t k s.length:=by unfold itemS;rw [List.map_map];rfl
 rw [h1]
 have h2:∀ i,i < t.length→((szL t k i).map fun s=>wS t k s.length).sum = (t.getD i 0).toNat * prodC k t.length:=fun i hi=>by
  unfold szL
  by_cases e:t.getD i 0 = 0
  ·rw [if_pos e,e];simp
  ·rw [if_neg e,sum_const (fun s:List Int=>wS t k s.length) (wS t k (i + 1)) (risR (i + 1) 0 k) (fun s hs=>by rw [(risR_mem _ _ _ _ hs).1]),risR_len]
   unfold wS
   rw [Nat.sub_zero,Nat.add_sub_cancel,Nat.mul_comm,Nat.mul_assoc,prodX_mul (by omega) (by omega)]
 have h3:∀ n,n ≤ t.length→((setP t k n).map fun s=>wS t k s.length).sum = (t.take n).sum.toNat * prodC k t.length:=by
  intro n
  induction n with
  | zero=>intro _;rw [setP_zero];simp
  | succ n ih=>
   intro hn
   rw [setP_succ,List.map_append,List.sum_append,ih (by omega),h2 n (by omega),take_succ' (show n < t.length by omega) 0,List.sum_append,← Nat.add_mul]
   congr 1
   have ha:=(z3 (t.getD n 0) (by rw [List.getD_eq_getElem?_getD,List.getElem?_eq_getElem (by omega)];exact List.getElem_mem (by omega))).1
   have hb:0 ≤ (t.take n).sum:=(sum_bound (t:=t.take n) fun w hw=>z3 w (List.mem_of_mem_take hw)).1
   simp only [List.sum_cons,List.sum_nil,Int.add_zero]
   omega
 rw [h3 t.length (Nat.le_refl _),List.take_length];rfl
open Go Go.Proofs Go.RowKit
theorem tG_same {β:Type} {L M:List (β × Rat)} (H:∀ F:β→Rat,sR (fun s=>s.2 * F s.1) L = sR (fun s=>s.2 * F s.1) M):∀ (n:Nat) (F:List β→Rat),tG L n F = tG M n F
 | 0,F=>rfl
 | n + 1,F=>by
  simp only [tG]
  rw [H fun x=>tG L n fun l=>F (x :: l)]
  exact sR_congr fun s _=>by rw [tG_same H n]
theorem sR_cast {α:Type} (f:α→Nat):∀ l:List α,(((l.map f).sum:Nat):Rat) = sR (fun x=>(f x:Rat)) l
 | []=>rfl
 | a :: l=>by rw [List.map_cons,List.sum_cons];push_cast;rw [sR_cast f l];rfl
abbrev omg (t:List Int) (k:Nat):Nat→Rat:=natW (fun i=>wS t k (i + 1)) (oneS t k)
abbrev tabX (t:List Int) (k:Nat):List (List Int × Rat):=evX t.length k (omg t k)
theorem natG_tG (W:List (List Int)→Bool) (L:List (List Int × Nat)) {D:Nat} (hD:D ≠ 0):∀ n b m,((natG W L n b m:Nat):Rat) = (m:Rat) * (D:Rat) ^ n * tG (L.map fun s=>(s.1,(s.2:Rat) / (D:Rat))) n fun l=>if W (b ++ l) = true then 1 else 0
 | 0,b,m=>by
  rw [natG_zero]
  simp only [tG,List.append_nil,Rat.pow_zero,Rat.mul_one]
  split
  ·rw [Rat.mul_one]
  ·rw [Rat.mul_zero];rfl
 | n + 1,b,m=>by
  rw [natG_succ,sR_cast]
  simp only [tG]
  rw [sR_map,← sR_mul]
  refine sR_congr fun s _=>?_
  rw [natG_tG W L hD n]
  have h0:=nz hD
  simp only [List.append_assoc,List.singleton_append]
  push_cast
  rw [Rat.pow_succ]
  generalize (tG (L.map fun s=>(s.1,(s.2:Rat) / (D:Rat))) n fun l=>if W (b ++ s.1 :: l) = true then 1 else 0) = z
  grind
theorem wS_zero {t:List Int} {k i:Nat} (h:t.getD i 0 = 0):wS t k (i + 1) = 0:=by
 unfold wS;rw [Nat.add_sub_cancel,h];simp
theorem item_ev (t:List Int) (k:Nat) (F:List Int→Rat):sR (fun s=>s.2 * F s.1) ((itemS t k).map fun s=>(s.1,(s.2:Rat) / (oneS t k:Rat))) = sR (fun s=>s.2 * F s.1) (tabX t k):=by
 unfold itemS tabX evX setP
 rw [List.map_map,sR_map,sR_flat,sR_flat]
 refine sR_congr fun i _=>?_
 have hR:sR (fun s:List Int × Rat=>s.2 * F s.1) ((risR (i + 1) 0 k).map fun l=>(l,omg t k i)) = sR (fun l=>omg t k i * F l) (risR (i + 1) 0 k):=sR_map _ _ _
 refine Eq.trans ?_ hR.symm
 by_cases e:t.getD i 0 = 0
 ·rw [if_pos e]
  have h0:omg t k i = 0:=by
   show (wS t k (i + 1):Rat) / (oneS t k:Rat) = 0
   rw [wS_zero e,show ((0:Nat):Rat) = 0 from rfl];grind
  rw [h0]
  exact ((sR_congr fun l _=>Rat.zero_mul _).trans (sR_zero _)).symm
 ·rw [if_neg e]
  refine sR_congr fun l hl=>?_
  show (wS t k l.length:Rat) / (oneS t k:Rat) * F l = omg t k i * F l
  rw [(risR_mem _ _ _ _ hl).1];rfl
theorem omg_nonneg (t:List Int) (k i:Nat):0 ≤ omg t k i:=natW_nonneg _ _ _
theorem tabX_one {t:List Int} {k:Nat} (hz:solE t k = 0):sR (·.2) (tabX t k) = 1:=by
 have h1:=item_ev t k fun _=>1
 have h2:=itemS_sum hz
 have h0:=nz (oneS_pos hz)
 rw [sR_congr (f:=fun s:List Int × Rat=>s.2 * 1) (l:=tabX t k) (g:=(·.2)) fun s _=>Rat.mul_one _] at h1
 rw [← h1,sR_map]
 rw [sR_congr (g:=fun s:List Int × Nat=>(1 / (oneS t k:Rat)) * (s.2:Rat)) fun s _=>by grind,sR_mul,← sR_cast fun s:List Int × Nat=>s.2,h2]
 grind
abbrev pT (t:List Int) (k:Nat):Rat:=evI t.length k (omg t k) k 1
abbrev fT (t:List Int) (k u:Nat):Rat:=freeR t.length k (omg t k) u
abbrev lvT (t:List Int) (k n j:Nat):List Rat:=lvR (pT t k) (fT t k) n k j
def stT (t:List Int) (k n u:Nat):Rat:=stuckR n u (lvT t k n (k - u))
theorem ripple_tab {t:List Int} {k:Nat} (hz:solE t k = 0) (φ:Nat→Rat) (n:Nat):sR (fun u=>φ u * stT t k n u) (List.range (k + 1)) = tG (tabX t k) n fun ls=>φ (largeL k ls).length:=
 ripple_sets φ (fun i _=>omg_nonneg t k i) (tabX_one hz) n
theorem ripple_fail {t:List Int} {k:Nat} (hz:solE t k = 0) (n:Nat):sR (fun u=>stT t k n (u + 1)) (List.range k) = ((natG (failW k) (itemS t k) n [] 1:Nat):Rat) / ((oneS t k:Nat):Rat) ^ n:=by
 have h1:=ripple_tab hz (fun u=>if 0 < u then 1 else 0) n
 have h2:=natG_tG (failW k) (itemS t k) (oneS_pos hz) n [] 1
 obtain ⟨z1,z2,z3,z4⟩:=solE_zero hz
 rw [sR_shift,if_neg (Nat.lt_irrefl 0),sR_congr (f:=fun u=>(if 0 < u + 1 then (1:Rat) else 0) * stT t k n (u + 1)) (g:=fun u=>stT t k n (u + 1)) fun u _=>by rw [if_pos (Nat.succ_pos u),Rat.one_mul]] at h1
 rw [tG_same (item_ev t k)] at h2
 have h3:tG (tabX t k) n (fun l=>if failW k ([] ++ l) = true then (1:Rat) else 0) = tG (tabX t k) n fun ls=>if 0 < (largeL k ls).length then 1 else 0:=tG_congr fun ls _ hls=>by
  rw [List.nil_append]
  have hst:stopE k ls = 0:=by
   unfold stopE
   rw [if_neg (by omega),if_neg]
   intro hc
   obtain ⟨l,hl,hb⟩:=List.any_eq_true.1 hc
   obtain ⟨w,hw⟩:=hls l hl
   obtain ⟨h5,i,hi,h6,_⟩:=ev_nd _ hw
   have h7:=ris_hi h6
   have h8:isSet k l = true:=isSet_iff.2 ⟨fun e=>by rw [e] at h7;simp at h7,h5,fun x hx=>⟨by have:=ris_lo h6 x hx;omega,h7.2 x hx⟩⟩
   rw [h8] at hb;cases hb
  unfold failW
  rw [show largeR k ls = largeL k ls by unfold largeR;rw [if_pos hst]]
  by_cases e:0 < (largeL k ls).length
  ·rw [if_pos (decide_eq_true e),if_pos e]
  ·rw [if_neg (by simpa using e),if_neg e]
 rw [h3,← h1] at h2
 have h0:=nz (Nat.ne_of_gt (Nat.pow_pos (n:=n) (Nat.pos_of_ne_zero (oneS_pos hz))))
 push_cast at h0
 rw [h2,show ((1:Nat):Rat) = 1 from rfl]
 grind
open Go Go.Proofs Go.RowKit
theorem sg_flip (z:Int):sg (!decide (z < 0)) z.natAbs = -z:=by
 unfold sg
 by_cases h:z < 0
 ·rw [decide_eq_true h];simp;omega
 ·rw [decide_eq_false h];simp;omega
theorem sg_same (z:Int):sg (decide (z < 0)) z.natAbs = z:=by
 unfold sg
 by_cases h:z < 0
 ·rw [decide_eq_true h];simp;omega
 ·rw [decide_eq_false h];simp;omega
theorem FB_neg {q:Rat} {B:Nat} (h:FB q B):FB (-q) B:=by
 refine ⟨?_,?_⟩
 ·rw [Rat.neg_num,Int.natAbs_neg];exact h.1
 ·rw [Rat.neg_den];exact h.2
attribute [local irreducible] Fit pt own ro vw mpc lpt vels rels mow lrc dfr
attribute [local irreducible] lmp lme mit velg relg bnd owl
theorem INeg_tr (z:Int) (o:Value) (ho:o.oneCell' = true) (hz:(dg z.natAbs).length ≤ 1099511627776):Tr Tryz.prog 125 [iv z o] [vw o (Us (dg z.natAbs))] [] (IR (-z)):=by
 have hM:=IMake_tr (!decide (z < 0)) o (dg z.natAbs) (Dg_dg _) hz
 rw [nv_dg,sg_flip] at hM
 unfold IR at hM ⊢
 generalize dg z.natAbs = l at *
 generalize dg (-z).natAbs = l2 at *
 show Tr _ _ [.agg #[.bool (decide (z < 0)),o]] _ _ _
 generalize decide (z < 0) = b at *
 generalize decide (-z < 0) = b2 at *
 refine Tr.enter env _ Tryz.func125 (by kernel_rfl) rfl Tryz.ntmps125 rfl (by repeat (first | exact has00 | refine has01 ?_)) fun w0=>?_
 repeat' first|(refine gca ?_;first|(refine ca hM ?_;rintro _ _ ⟨o2,rfl,ho2,rfl⟩))|refine bx fun q=>?_|refine al fun c=>?_|refine srz ?_|(refine wo ?_;first|refine oa ?_|refine ld ?_)|refine sq ?_|refine rg ?_|refine xc ?_|refine nl ?_|refine rt ?_
 exact rca1 (b:=c) (cs:=[.bool b2,o2]) (vs:=[.bool b2,o2]) (T:=33) ⟨o2,rfl,ho2,rfl⟩
theorem IHeld_tr (z:Int) (o:Value) (ho:o.oneCell' = true) (hz:(dg z.natAbs).length ≤ 1099511627776):Tr Tryz.prog 102 [iv z o] [vw o (Us (dg z.natAbs))] [] (IR z):=by
 have hM:=IMake_tr (decide (z < 0)) o (dg z.natAbs) (Dg_dg _) hz
 rw [nv_dg,sg_same] at hM
 unfold IR at hM ⊢
 generalize dg z.natAbs = l at *
 show Tr _ _ [.agg #[.bool (decide (z < 0)),o]] _ _ _
 generalize decide (z < 0) = b at *
 refine Tr.enter env _ Tryz.func102 (by kernel_rfl) rfl Tryz.ntmps102 rfl (by repeat (first | exact has00 | refine has01 ?_)) fun w0=>?_
 repeat' first|(refine gca ?_;first|(refine ca hM ?_;rintro _ _ ⟨o2,rfl,ho2,rfl⟩))|refine bx fun q=>?_|refine al fun c=>?_|refine srz ?_|(refine wo ?_;first|refine oa ?_|refine ld ?_)|refine sq ?_|refine rg ?_|refine xc ?_|refine nl ?_|refine rt ?_
 exact rca1 (b:=c) (cs:=[.bool b,o2]) (vs:=[.bool b,o2]) (T:=33) ⟨o2,rfl,ho2,rfl⟩
theorem ISign_tr (z:Int) (o:Value) (ho:o.oneCell' = true) (hz:(dg z.natAbs).length ≤ 1099511627776):Tr Tryz.prog 54 [iv z o] [vw o (Us (dg z.natAbs))] [] fun u D=>u = I z.sign∧D = []:=by
 have hM:=IHeld_tr z o ho hz
 unfold IR iv at hM
 have hlp:0 < (dg z.natAbs).length ↔ z ≠ 0:=⟨fun h e=>by rw [e,Int.natAbs_zero,dg_zero] at h;simp at h,fun h=>dg_len_pos (by omega)⟩
 have h1:z < 0→z.sign = -1:=Int.sign_eq_neg_one_of_neg
 have h2:0 < z→z.sign = 1:=Int.sign_eq_one_of_pos
 have h3:z = 0→z.sign = 0:=fun h=>by rw [h];rfl
 generalize dg z.natAbs = l at *
 generalize z.sign = s at *
 show Tr _ _ [.agg #[.bool (decide (z < 0)),o]] _ _ _
 have h4:decide (z < 0) = true ↔ z < 0:=decide_eq_true_iff
 generalize decide (z < 0) = b at *
 cases b with
 | true=>
  have h5:=h1 (h4.1 rfl)
  refine Tr.enter env _ Tryz.func54 (by kernel_rfl) rfl Tryz.ntmps54 rfl (by repeat (first | exact has00 | refine has01 ?_)) fun w0=>?_
  repeat' first|(refine gca ?_;first|(refine ca hM ?_;rintro _ _ ⟨o2,rfl,ho2,rfl⟩))|refine bx fun q=>?_|refine lda ?_|refine srz ?_ (hj:=Nat.le_of_ble_eq_true rfl)|(refine wo ?_;first|refine oa ?_|refine ld ?_)|(refine gc ?_;first|refine ct ?_)|refine sq ?_|refine rg ?_|refine xc ?_|refine nl ?_|refine bk ?_|refine rt ?_
  all_goals exact r1 ⟨by rw [h5],rfl⟩
 | false=>
  have h5:¬ z < 0:=fun h=>by have:=h4.2 h;cases this
  by_cases h6:z = 0
  ·have h7:¬ 0 < l.length:=fun h=>hlp.1 h h6
   have h8:=h3 h6
   refine Tr.enter env _ Tryz.func54 (by kernel_rfl) rfl Tryz.ntmps54 rfl (by repeat (first | exact has00 | refine has01 ?_)) fun w0=>?_
   repeat' first|(refine gca ?_;first|(refine ca hM ?_;rintro _ _ ⟨o2,rfl,ho2,rfl⟩))|refine bx fun q=>?_|refine lda ?_|refine srz ?_ (hj:=Nat.le_of_ble_eq_true rfl)|(refine wo ?_;first|(refine ao ?_;first|refine oa ?_)|refine oa ?_|refine ld ?_|refine lnm ?_)|(refine gc ?_;first|refine cf ?_|(refine ci (fun hB=>?_) (fun hB=>?_) <;> try (exfalso;omega)))|refine sq ?_|refine rg ?_|refine xc ?_|refine nl ?_|refine sk ?_|refine bk ?_|refine rt ?_|refine xb ?_
   all_goals exact r1 ⟨by rw [h8],rfl⟩
  ·have h7:=hlp.2 h6
   have h8:=h2 (by omega)
   refine Tr.enter env _ Tryz.func54 (by kernel_rfl) rfl Tryz.ntmps54 rfl (by repeat (first | exact has00 | refine has01 ?_)) fun w0=>?_
   repeat' first|(refine gca ?_;first|(refine ca hM ?_;rintro _ _ ⟨o2,rfl,ho2,rfl⟩))|refine bx fun q=>?_|refine lda ?_|refine srz ?_ (hj:=Nat.le_of_ble_eq_true rfl)|(refine wo ?_;first|(refine ao ?_;first|refine oa ?_)|refine oa ?_|refine ld ?_|refine lnm ?_)|(refine gc ?_;first|refine cf ?_|(refine ci (fun hB=>?_) (fun hB=>?_) <;> try (exfalso;omega)))|refine sq ?_|refine rg ?_|refine xc ?_|refine nl ?_|refine bk ?_|refine rt ?_
   all_goals exact r1 ⟨by rw [h8],rfl⟩
theorem FSub_tr (q r:Rat) (v1 v2 v3 v4:Value) (h1:v1.oneCell' = true) (h2:v2.oneCell' = true) (h3:v3.oneCell' = true) (h4:v4.oneCell' = true) (hq:FB q 8589934592) (hr:FB r 8589934592) :
  Tr Tryz.prog 72 [rv q v1 v2,rv r v3 v4] [vw v1 (Us (dg q.num.natAbs)),vw v2 (Us (dg q.den)),vw v3 (Us (dg r.num.natAbs)),vw v4 (Us (dg r.den))] [] (FQ2 (q - r) 0):=by
 have hC1:=FCheck_tr q v1 v2 h1 h2 (hq.le (by decide))
 have hC2:=FCheck_tr r v3 v4 h3 h4 (hr.le (by decide))
 have hN:=INeg_tr r.num v3 h3 (by have:=hr.1;omega)
 have hS:=fun o ho=>FSum_tr q (-r) v1 v2 o v4 h1 h2 ho h4 hq (FB_neg hr)
 rw [← Rat.sub_eq_add_neg] at hS
 unfold rv at hS hC1 hC2
 simp only [Rat.neg_num,Rat.neg_den] at hS
 unfold IR iv at hN
 unfold FQ at hS
 unfold FQ2
 obtain ⟨p,hp⟩ : ∃ p,p = q - r:=⟨_,rfl⟩
 simp only [← hp] at hS ⊢
 clear hp
 show Tr _ _ [.agg #[.bool (decide (q.num < 0)),v1,v2],.agg #[.bool (decide (r.num < 0)),v3,v4]] _ _ _
 generalize dg (-r.num).natAbs = ln at *
 generalize decide (-r.num < 0) = bn at *
 generalize dg q.num.natAbs = lq at *
 generalize dg q.den = lqd at *
 generalize dg r.num.natAbs = lr at *
 generalize dg r.den = lrd at *
 generalize decide (q.num < 0) = b1 at *
 generalize decide (r.num < 0) = b2 at *
 refine Tr.enter env _ Tryz.func72 (by kernel_rfl) rfl Tryz.ntmps72 rfl (by repeat (first | exact has00 | refine has01 ?_)) fun w0=>?_
 repeat' first|(refine gca ?_;first|(refine ca hC1 ?_;rintro _ _ ⟨rfl,rfl⟩)|(refine ca hC2 ?_;rintro _ _ ⟨rfl,rfl⟩))|refine bx fun q=>?_|refine al fun c=>?_|refine lda ?_|(refine wo ?_;first|(refine ao ?_;first|refine oa ?_)|refine oa ?_|refine gy ?_)|(refine gc ?_;first|refine cf ?_)|refine sq ?_|refine rg ?_|refine xc ?_|refine nl ?_|refine sk ?_
 rename_i q1
 refine rs (fun w=>w.heap[q1]? = some (.cells [.bool b1,v1,v2].toArray TRt (0,0))∧w.heap[q]? = some (.cells [.bool b2,v3,v4].toArray TRt (0,0))) ?_ (fun w hw=>⟨pt_at memA hw,pt_at memA hw⟩)
 refine tk 0 (v:=.agg #[.bool b1,v1,v2]) (fun w h=>R_loadA (E:=env) (vs:=[.bool b1,v1,v2]) rfl rfl rfl rfl h.1 rfl rfl) ?_
 refine tka 1 ?_
 refine tk 2 (v:=.agg #[.bool b2,v3]) (fun w h=>R_loadA (E:=env) (vs:=[.bool b2,v3]) rfl rfl rfl rfl h.2 rfl rfl) ?_
 refine tka 4 ?_
 refine tkl 5 (cs:=[.bool b2,v3,v4]) (fun w h=>h.2) ?_
 refine t1 3 ?_
 refine ca hN ?_
 rintro _ _ ⟨o2,rfl,ho2,rfl⟩
 refine nl ?_
 refine te (fun w hw=>⟨pt_at memA hw,pt_at memA hw⟩) ?_
 refine t1 6 ?_
 refine bdm ?_
 refine nl ?_
 refine te (fun w hw=>⟨pt_at memA hw,pt_at memA hw⟩) ?_
 refine t1 7 ?_
 refine ca (hS o2 ho2) ?_
 rintro _ _ ⟨vn,vd,rfl,hvn,hvd,rfl⟩
 refine nl ?_
 refine te (fun w hw=>⟨pt_at memA hw,pt_at memA hw⟩) ?_
 refine t1 8 ?_
 refine srz ?_
 refine nl ?_
 refine te (fun w hw=>⟨pt_at memA hw,pt_at memA hw⟩) ?_
 refine tka 9 ?_
 refine t0 ?_
 repeat' first|refine xc ?_|refine rt ?_
 exact rca (cs:=[.bool (decide (p.num < 0)),vn,vd]) (vs:=[.bool (decide (p.num < 0)),vn,vd]) (T:=TRt) ⟨vn,vd,rfl,hvn,hvd,rfl⟩
theorem FCmp_tr (q r:Rat) (v1 v2 v3 v4:Value) (h1:v1.oneCell' = true) (h2:v2.oneCell' = true) (h3:v3.oneCell' = true) (h4:v4.oneCell' = true) (hq:FB q 8589934592) (hr:FB r 8589934592) (hl:(dg (q - r).num.natAbs).length ≤ 1099511627776) :
  Tr Tryz.prog 33 [rv q v1 v2,rv r v3 v4] [vw v1 (Us (dg q.num.natAbs)),vw v2 (Us (dg q.den)),vw v3 (Us (dg r.num.natAbs)),vw v4 (Us (dg r.den))] [] fun u D=>u = tup2 (I (q - r).num.sign) (I 0)∧D = []:=by
 have hS:=FSub_tr q r v1 v2 v3 v4 h1 h2 h3 h4 hq hr
 obtain ⟨p,hp⟩ : ∃ p,p = q - r:=⟨_,rfl⟩
 rw [← hp] at hS hl ⊢
 clear hp
 have hI:=fun o ho=>ISign_tr p.num o ho hl
 unfold iv at hI
 unfold FQ2 at hS
 refine Tr.enter env _ Tryz.func33 (by kernel_rfl) rfl Tryz.ntmps33 rfl (by repeat (first | exact has00 | refine has01 ?_)) fun w0=>?_
 repeat' first|(refine gca ?_;first|(refine ca hS ?_;rintro _ _ ⟨vn,vd,rfl,hvn,hvd,rfl⟩)|(refine ca (hI vn hvn) ?_;rintro _ _ ⟨rfl,rfl⟩))|refine bx fun q=>?_|refine al fun c=>?_|refine lda ?_|refine lda (vs:=[.bool (decide (p.num < 0)),vn]) ?_|refine srz ?_|(refine wo ?_;first|refine oa ?_)|refine sq ?_|refine rg ?_|refine xc ?_|refine nl ?_|refine rt ?_
 exact r2 ⟨rfl,rfl⟩
end Go.Art
namespace Go.Art
open Go Go.Proofs Go.RowKit
theorem inv_parts {r:Rat} (h:0 < r.num):(r⁻¹).num = r.den∧(r⁻¹).den = r.num.natAbs:=by
 refine ⟨?_,?_⟩
 ·rw [Rat.num_inv,Int.sign_eq_one_of_pos h,Int.one_mul]
 ·rw [Rat.den_inv,if_neg (by omega)]
theorem FB_inv {r:Rat} {B:Nat} (h:0 < r.num) (k:FB r B):FB r⁻¹ B:=by
 obtain ⟨e1,e2⟩:=inv_parts h
 refine ⟨?_,?_⟩
 ·rw [e1,Int.natAbs_natCast];exact k.2
 ·rw [e2];exact k.1
attribute [local irreducible] Fit pt own ro vw mpc lpt vels rels mow lrc dfr
attribute [local irreducible] lmp lme mit velg relg bnd owl
theorem FOver_tr (b:Bool) (v3 v4:Value) (h3:v3.oneCell' = true) (h4:v4.oneCell' = true):Tr Tryz.prog 267 [.agg #[.bool b,v3,v4]] [] [] fun u D=>u = .agg #[.bool b,v4,v3]∧D = []:=by
 refine Tr.enter env _ Tryz.func267 (by kernel_rfl) rfl Tryz.ntmps267 rfl (by repeat (first | exact has00 | refine has01 ?_)) fun w0=>?_
 repeat' first|refine bx fun q=>?_|refine al fun c=>?_|refine bdm ?_|refine srz ?_|(refine wo ?_;first|refine oa ?_|refine ld ?_)|refine sq ?_|refine rg ?_|refine xc ?_|refine nl ?_|refine rt ?_
 exact rca1 (cs:=[.bool b,v4,v3]) (vs:=[.bool b,v4,v3]) (T:=TRt) ⟨rfl,rfl⟩
theorem FDiv_tr (q r:Rat) (v1 v2 v3 v4:Value) (h1:v1.oneCell' = true) (h2:v2.oneCell' = true) (h3:v3.oneCell' = true) (h4:v4.oneCell' = true) (hq:FB q 8589934592) (hr:FB r 8589934592) (hp:0 < r.num) :
  Tr Tryz.prog 218 [rv q v1 v2,rv r v3 v4] [vw v1 (Us (dg q.num.natAbs)),vw v2 (Us (dg q.den)),vw v3 (Us (dg r.num.natAbs)),vw v4 (Us (dg r.den))] [] (FQ2 (q / r) 0):=by
 have hC1:=FCheck_tr q v1 v2 h1 h2 (hq.le (by decide))
 have hC2:=FCheck_tr r v3 v4 h3 h4 (hr.le (by decide))
 have hO:=FOver_tr (decide (r.num < 0)) v3 v4 h3 h4
 have hP:=FProd_tr q r⁻¹ v1 v2 v4 v3 h1 h2 h4 h3 hq (FB_inv hp hr)
 obtain ⟨e1,e2⟩:=inv_parts hp
 have hl:0 < (dg r.num.natAbs).length:=dg_len_pos (by omega)
 rw [← Rat.div_def] at hP
 unfold rv at hP hC1 hC2
 rw [e1,e2,Int.natAbs_natCast,show decide (((r.den:Nat):Int) < 0) = decide (r.num < 0) by rw [decide_eq_false (by omega),decide_eq_false (by omega)]] at hP
 unfold FQ at hP
 unfold FQ2
 obtain ⟨p,hp'⟩ : ∃ p,p = q / r:=⟨_,rfl⟩
 simp only [← hp'] at hP ⊢
 clear hp' hp e1 e2
 show Tr _ _ [.agg #[.bool (decide (q.num < 0)),v1,v2],.agg #[.bool (decide (r.num < 0)),v3,v4]] _ _ _
 generalize dg q.num.natAbs = lq at *
 generalize dg q.den = lqd at *
 generalize dg r.num.natAbs = lr at *
 generalize dg r.den = lrd at *
 generalize decide (q.num < 0) = b1 at *
 generalize decide (r.num < 0) = b2 at *
 refine Tr.enter env _ Tryz.func218 (by kernel_rfl) rfl Tryz.ntmps218 rfl (by repeat (first | exact has00 | refine has01 ?_)) fun w0=>?_
 repeat' first|(refine gca ?_;first|(refine ca hC1 ?_;rintro _ _ ⟨rfl,rfl⟩)|(refine ca hC2 ?_;rintro _ _ ⟨rfl,rfl⟩))|refine bx fun q=>?_|refine al fun c=>?_|refine lda ?_|(refine wo ?_;first|(refine ao ?_;first|refine oa ?_)|refine oa ?_|refine ld ?_|refine lnm ?_|refine gy ?_)|(refine gc ?_;first|refine cf ?_|(refine ci (fun hB=>?_) (fun hB=>?_) <;> try (exfalso;omega)))|refine sq ?_|refine rg ?_|refine xc ?_|refine nl ?_|refine sk ?_|refine bk ?_|refine xb ?_
 rename_i q1
 refine rs (fun w=>w.heap[q1]? = some (.cells [.bool b1,v1,v2].toArray TRt (0,0))∧w.heap[q]? = some (.cells [.bool b2,v3,v4].toArray TRt (0,0))) ?_ (fun w hw=>⟨pt_at memA hw,pt_at memA hw⟩)
 refine tk 0 (v:=.agg #[.bool b1,v1,v2]) (fun w h=>R_loadA (E:=env) (vs:=[.bool b1,v1,v2]) rfl rfl rfl rfl h.1 rfl rfl) ?_
 refine tk 1 (v:=.agg #[.bool b2,v3,v4]) (fun w h=>R_loadA (E:=env) (vs:=[.bool b2,v3,v4]) rfl rfl rfl rfl h.2 rfl rfl) ?_
 refine t1 2 ?_
 refine ca hO ?_
 rintro _ _ ⟨rfl,rfl⟩
 refine nl ?_
 refine te (fun w hw=>⟨pt_at memA hw,pt_at memA hw⟩) ?_
 refine t1 3 ?_
 refine ca hP ?_
 rintro _ _ ⟨vn,vd,rfl,hvn,hvd,rfl⟩
 refine nl ?_
 refine te (fun w hw=>⟨pt_at memA hw,pt_at memA hw⟩) ?_
 refine t1 4 ?_
 refine srz ?_
 refine nl ?_
 refine te (fun w hw=>⟨pt_at memA hw,pt_at memA hw⟩) ?_
 refine tka 5 ?_
 refine t0 ?_
 repeat' first|refine xc ?_|refine rt ?_
 exact rca (cs:=[.bool (decide (p.num < 0)),vn,vd]) (vs:=[.bool (decide (p.num < 0)),vn,vd]) (T:=TRt) ⟨vn,vd,rfl,hvn,hvd,rfl⟩
end Go.Art
namespace Go.Art
open Go Go.Proofs Go.RowKit
def chsI (n:Nat) (k:Int):Nat:=if k < 0 then 0 else chs n k.toNat
theorem chsI_fill (m d j:Nat):chsI m ((d:Int) - j) = fillN m d j:=by
 unfold chsI fillN
 by_cases h:j ≤ d
 ·rw [if_neg (by omega),if_pos h,show ((d:Int) - j).toNat = d - j by omega]
 ·rw [if_pos (by omega),if_neg h]
theorem foldl_addR (l:List Rat):∀ s:Rat,l.foldl (· + ·) s = s + sR (fun x=>x) l:=by
 induction l with
 | nil=>intro s;simp only [List.foldl_nil,sR];grind
 | cons a l ih=>intro s;rw [List.foldl_cons,ih];simp only [sR];grind
theorem Tr.wk {P:Program} {f:FuncId} {args:List Value} {pre A:List Ch} {R:Value→List Ch→Prop} (W:Ch) (h:Tr P f args pre A R):Tr P f args pre (W :: A) R:=by
 refine ⟨fun w hw=>?_,h.lent⟩
 have h1:Sat (pre ++ A) w:=by
  have h2:Sat (W :: (pre ++ A)) w:=hw.perm List.perm_middle
  exact (Sat.cons.1 h2).2.2
 have e1:∀ b,wrs A b→wrs (W :: A) b:=fun b ⟨c,hc,hb⟩=>⟨c,List.mem_cons_of_mem _ hc,hb⟩
 have e2:∀ b,rds A b→rds (W :: A) b:=fun b ⟨c,hc,hb⟩=>⟨c,List.mem_cons_of_mem _ hc,hb⟩
 refine (h.run w h1).mono fun v w' ⟨B,hR,hS,hM,hB⟩=>⟨B,hR,hS,⟨hM.os,hM.tape,hM.output,hM.size,fun k hk hn=>hM.block k hk fun h=>hn (e1 k h),fun b hb=>(hM.wr b hb).imp_left (e1 b),fun b hb=>(hM.rd b hb).imp (e1 b) (Or.imp_left (e2 b))⟩,hB⟩
theorem Tr.unbK {P:Program} {f:FuncId} {args:List Value} {pre C:List Ch} {W:Ch} {R R':Value→List Ch→Prop} (h:Tr P f args pre [W,Go.Art.bnd C] R) (k:∀ v D,R v D→∃ C',D = [Go.Art.bnd C']∧R' v C'):Tr P f args pre (C ++ [W]) R':=by
 refine ⟨fun w hw=>?_,h.lent⟩
 have p1:(pre ++ (C ++ [W])).Perm (C ++ (pre ++ [W])):=(List.perm_append_comm_assoc pre C [W])
 have p2:(Go.Art.bnd C :: (pre ++ [W])).Perm (pre ++ [W,Go.Art.bnd C]):=by
  have:(Go.Art.bnd C :: (pre ++ [W])).Perm ((pre ++ [W]) ++ [Go.Art.bnd C]):=List.perm_append_comm (l₁:=[Go.Art.bnd C]) (l₂:=pre ++ [W])
  simpa using this
 have h1:Sat (pre ++ [W,Go.Art.bnd C]) w:=(bnd_sat.2 (hw.perm p1)).perm p2
 have e1:∀ b,wrs [W,Go.Art.bnd C] b→wrs (C ++ [W]) b:=fun b ⟨c,hc,hb⟩=>by
  simp only [List.mem_cons,List.not_mem_nil,or_false] at hc
  rcases hc with rfl | rfl
  ·exact ⟨c,by simp,hb⟩
  ·obtain ⟨d,hd,h⟩:=hb;exact ⟨d,List.mem_append_left _ hd,h⟩
 have e2:∀ b,rds [W,Go.Art.bnd C] b→rds (C ++ [W]) b:=fun b ⟨c,hc,hb⟩=>by
  simp only [List.mem_cons,List.not_mem_nil,or_false] at hc
  rcases hc with rfl | rfl
  ·exact ⟨c,by simp,hb⟩
  ·obtain ⟨d,hd,h⟩:=hb;exact ⟨d,List.mem_append_left _ hd,h⟩
 have f1:∀ (C:List Ch) (b:Nat),wrs [Go.Art.bnd C] b ↔ wrs C b:=fun C b=>by have:=bnd_wrs (C:=C) (F:=[]) (b:=b);rwa [List.append_nil] at this
 have f2:∀ (C:List Ch) (b:Nat),rds [Go.Art.bnd C] b ↔ rds C b:=fun C b=>by have:=bnd_rds (C:=C) (F:=[]) (b:=b);rwa [List.append_nil] at this
 refine (h.run w h1).mono fun v w' ⟨B,hR,hS,hM,hB⟩=>?_
 obtain ⟨C',rfl,hR'⟩:=k v B hR
 refine ⟨C',hR',by have:=bnd_sat.1 hS;rwa [List.append_nil] at this,?_,fun c hc b hb=>hB _ (List.Mem.head _) b ⟨c,hc,hb⟩⟩
 exact ⟨hM.os,hM.tape,hM.output,hM.size,fun k hk hn=>hM.block k hk fun h=>hn (e1 k h),fun b hb=>(hM.wr b ((f1 C' b).2 hb)).imp_left (e1 b),fun b hb=>(hM.rd b ((f2 C' b).2 hb)).imp (e1 b) (Or.imp_left (e2 b))⟩
theorem Ty.bndL {P:Program} {l:Nat} {vs:List Value} {K pre C:List Ch} {R:Bool→List Ch→Prop} (h:Ty P l vs pre (C ++ K) fun b D=>R b [Go.Art.bnd D]):Ty P l vs pre (K ++ [Go.Art.bnd C]) R:=by
 refine ⟨fun w hw=>?_,h.lent⟩
 have p1:(pre ++ (K ++ [Go.Art.bnd C])).Perm (Go.Art.bnd C :: (pre ++ K)):=by
  have:((pre ++ K) ++ [Go.Art.bnd C]).Perm (Go.Art.bnd C :: (pre ++ K)):=List.perm_append_comm (l₁:=pre ++ K) (l₂:=[Go.Art.bnd C])
  simpa using this
 have h1:Sat (pre ++ (C ++ K)) w:=(bnd_sat.1 (hw.perm p1)).perm (List.perm_append_comm_assoc C pre K)
 have e1:∀ b,wrs (C ++ K) b→wrs (K ++ [Go.Art.bnd C]) b:=fun b ⟨c,hc,hb⟩=>by
  rcases List.mem_append.1 hc with hc | hc
  ·exact ⟨Go.Art.bnd C,by simp,c,hc,hb⟩
  ·exact ⟨c,List.mem_append_left _ hc,hb⟩
 have e2:∀ b,rds (C ++ K) b→rds (K ++ [Go.Art.bnd C]) b:=fun b ⟨c,hc,hb⟩=>by
  rcases List.mem_append.1 hc with hc | hc
  ·exact ⟨Go.Art.bnd C,by simp,c,hc,hb⟩
  ·exact ⟨c,List.mem_append_left _ hc,hb⟩
 have f1:∀ (C:List Ch) (b:Nat),wrs [Go.Art.bnd C] b ↔ wrs C b:=fun C b=>by have:=bnd_wrs (C:=C) (F:=[]) (b:=b);rwa [List.append_nil] at this
 have f2:∀ (C:List Ch) (b:Nat),rds [Go.Art.bnd C] b ↔ rds C b:=fun C b=>by have:=bnd_rds (C:=C) (F:=[]) (b:=b);rwa [List.append_nil] at this
 refine (h.run w h1).mono fun b w' ⟨B,hR,hS,hM,hB⟩=>⟨[Go.Art.bnd B],hR,bnd_sat.2 (by rw [List.append_nil];exact hS),⟨hM.os,hM.tape,hM.output,hM.size,fun k hk hn=>hM.block k hk fun h=>hn (e1 k h),fun x hx=>(hM.wr x ((f1 B x).1 hx)).imp_left (e1 x),fun x hx=>(hM.rd x ((f2 B x).1 hx)).imp (e1 x) (Or.imp_left (e2 x))⟩,fun c hc x hx=>?_⟩
 obtain rfl:=List.mem_singleton.1 hc
 obtain ⟨y,hy,h2⟩:=hx
 exact hB y hy x h2
section
variable {P:Program} {E:Env P} {n:Sh} {fr:Fr} {A A' D G:List Ch} {m:Nat}
theorem mca1 {Ds:List Nat} {w0:World} {A0:List Ch} {R':Value→List Ch→Prop} {fn:Func} {t:Nat} {ty T:TypeId} {dt:TypeDesc} {z:Value} {sz by_ b:Nat} {cs vs:List Value} (h:R' (.agg vs.toArray) D) (hr:fn.results = #[.cell t ty]:=by rfl) (ht:lk E.und ty = some dt:=by rfl) (hg:aggB dt = true:=by rfl) (hi:lk E.inf ty = some (z,sz,by_):=by rfl)
  (hv:get fr t = some (ptr b):=by rfl) (hm:Tk (dfrl Ds) A A':=by exact tkA) (hp:pt b cs T ∈ A':=by exact memA) (hcs:cs.take sz = vs:=by rfl) (hl:vs.length = sz:=by rfl) (hf:Fit A' D G:=by exact fitA) (nb:∀ c ∈ D,∀ b,¬ c.bd b:=by (repeat (first | exact nb0 | refine nb1 ?_));first | done | fail) (hn:n = ⟨m,marks Ds,none⟩:=by rfl) :
  TX E n ⟨bodyPostM (FF none) 0 P fn (RetP (PR w0 A0 R')),w0,A0⟩ [] .ret fr A:=by
 subst hn
 exact mG (.inl rfl) h (fun w hw a ha=>res_a1 (E:=E) ha hr ht hg hi hv (pt_at hp hw) hcs hl) hm hf nb
end
structure SeqQ (P:Program) (f:FuncId) (cap:Array Value) (U W:Ch) (qs:List Rat):Prop where
 run:∀ {α:Type} (V:Ch) [Lent V] (l:Nat) (J:α→Ch) (pl:α→Nat→Prop) (S:α→Prop) (a0:α),pl a0 0→(∀ a b,¬ (J a).bd b) →
  (∀ a i v1 v2,v1.oneCell' = true→v2.oneCell' = true→pl a i→i < qs.length→Ty P l [rv (qs.getD i 0) v1 v2] [V] [own T64 v1 (Us (dg (qs.getD i 0).num.natAbs)),own T64 v2 (Us (dg (qs.getD i 0).den)),J a] fun ok B=>∃ a',B = [J a']∧((ok = true∧pl a' (i + 1))∨(ok = false∧S a'))) →
  Tr P f (yv l :: cap.toList) [V,U] [W,J a0] fun _ B=>∃ a,B = [J a]∧(pl a qs.length∨S a)
theorem in_step {t:List Int} {k:Nat} (hz:solE t k = 0) {i u j:Nat} (hi:i < t.length):mkRat (t.getD i 0) t.sum.toNat * mkRat ((chs u j * fillN (k - u) (i + 1) j:Nat):Int) (chs k (i + 1)) = omg t k i * ((chs u j:Rat) * fillC (k - u) (i + 1) j):=by
 obtain ⟨z1,z2,z3,z4⟩:=solE_zero hz
 have hs:=sum_posT z3 z4
 have h1:=cha_eq (d:=i + 1) hz (by omega) (by omega)
 rw [Nat.add_sub_cancel] at h1
 have h2:omg t k i = mkRat ((wS t k (i + 1):Nat):Int) (oneS t k):=(Rat.mkRat_eq_div _ _).symm
 rw [h2,← h1,fillC_nat]
 have c0:chs k (i + 1) ≠ 0:=chs_pos (by omega)
 have s0:t.sum.toNat ≠ 0:=by omega
 rw [Rat.mkRat_mul_mkRat]
 have e:(chs u j:Rat) * (fillN (k - u) (i + 1) j:Rat) = mkRat ((chs u j * fillN (k - u) (i + 1) j:Nat):Int) 1:=by rw [Rat.mkRat_eq_div];push_cast;grind
 rw [e,Rat.mkRat_mul_mkRat,Nat.mul_one,Nat.mul_comm (chs k (i + 1)) t.sum.toNat]
theorem fillN_le (m d j:Nat):fillN m d j ≤ 2 ^ m:=by
 unfold fillN;split
 ·exact chs_le _ _
 ·exact Nat.zero_le _
theorem inN_le {t:List Int} {k u j:Nat} (hz:solE t k = 0) (hk:k ≤ 40) (hu:u ≤ k):∀ m,m ≤ t.length→inN m k (fun i=>wS t k (i + 1)) u j ≤ m * (oneS t k * (2 ^ 40 * 2 ^ 40)):=by
 intro m
 induction m with
 | zero=>intro _;unfold inN;simp
 | succ m ih=>
  intro hm
  have h1:inN (m + 1) k (fun i=>wS t k (i + 1)) u j = inN m k (fun i=>wS t k (i + 1)) u j + wS t k (m + 1) * (chs u j * fillN (k - u) (m + 1) j):=by unfold inN;rw [List.range_succ,List.map_append,List.sum_append];simp
  rw [h1,Nat.succ_mul]
  refine Nat.add_le_add (ih (by omega)) (Nat.mul_le_mul (wS_le hz (by omega) (by omega)) (Nat.mul_le_mul ?_ ?_))
  ·exact Nat.le_trans (chs_le _ _) (Nat.pow_le_pow_right (by decide) (by omega))
  ·exact Nat.le_trans (fillN_le _ _ _) (Nat.pow_le_pow_right (by decide) (by omega))
theorem FB_nat {a E B:Nat} (hE:E ≠ 0) (ha:a < 18446744073709551616 ^ B) (hb:E < 18446744073709551616 ^ B):FB ((a:Rat) / (E:Rat)) B:=by
 have e:(a:Rat) / (E:Rat) = mkRat (a:Int) E:=(Rat.mkRat_eq_div _ _).symm
 rw [e]
 exact FB_mk hE ((dg_len _ _).2 ha) ((dg_len _ _).2 hb)
theorem evI_FB {t:List Int} {k u j m:Nat} (hz:solE t k = 0) (hk:k ≤ 40) (hl:t.length ≤ 12) (hu:u ≤ k) (hm:m ≤ t.length):FB (evI m k (omg t k) u j) 12:=by
 rw [evI_nat]
 have h1:=inN_le (j:=j) hz hk hu m hm
 have h2:=oneS_lt hz hk hl
 refine FB_nat (oneS_pos hz) (Nat.lt_of_le_of_lt h1 ?_) (Nat.lt_trans h2 (by decide))
 have h3:m * (oneS t k * (2 ^ 40 * 2 ^ 40)) ≤ 12 * (18446744073709551616 ^ 10 * (2 ^ 40 * 2 ^ 40)):=Nat.mul_le_mul (by omega) (Nat.mul_le_mul_right _ (Nat.le_of_lt h2))
 exact Nat.lt_of_le_of_lt h3 (by decide)
theorem term_FB {t:List Int} {k u j i:Nat} (hz:solE t k = 0) (hk:k ≤ 40) (hl:t.length ≤ 12) (hu:u ≤ k) (hi:i < t.length):FB (omg t k i * ((chs u j:Rat) * fillC (k - u) (i + 1) j)) 12:=by
 have e:omg t k i * ((chs u j:Rat) * fillC (k - u) (i + 1) j) = ((wS t k (i + 1) * (chs u j * fillN (k - u) (i + 1) j):Nat):Rat) / (oneS t k:Rat):=by
  unfold omg natW;rw [fillC_nat,Rat.div_def,Rat.div_def];push_cast;grind
 rw [e]
 have h2:=oneS_lt hz hk hl
 have h3:=wS_le (d:=i + 1) hz (by omega) (by omega)
 refine FB_nat (oneS_pos hz) ?_ (Nat.lt_trans h2 (by decide))
 have h4:wS t k (i + 1) * (chs u j * fillN (k - u) (i + 1) j) ≤ 18446744073709551616 ^ 10 * (2 ^ 40 * 2 ^ 40):=Nat.mul_le_mul (by omega) (Nat.mul_le_mul (Nat.le_trans (chs_le _ _) (Nat.pow_le_pow_right (by decide) (by omega))) (Nat.le_trans (fillN_le _ _ _) (Nat.pow_le_pow_right (by decide) (by omega))))
 exact Nat.lt_of_le_of_lt h4 (by decide)
attribute [local irreducible] Fit pt own ro vw mpc lpt vels rels mow lrc dfr
attribute [local irreducible] lmp lme mit velg relg bnd owl dfrl
theorem crefuses_tr (tv:Value) (t:List Int) (k u:Nat) (hz:solE t k = 0) (hk:k ≤ 1024) (hu:u ≤ k):Tr Tryz.prog 212 [tv,I k,I u] [vw tv (Is t)] [] fun v D=>v = I 0∧D = []:=by
 have hC:=SoCheck_tr tv t k
 rw [hz] at hC
 have hk1:=(solE_zero hz).1
 refine Tr.enter env _ Tryz.func212 (by kernel_rfl) rfl Tryz.ntmps212 rfl (by repeat (first | exact has00 | refine has01 ?_)) fun w0=>?_
 repeat' first|(refine gca ?_;first|(refine ca hC ?_;rintro _ _ ⟨rfl,rfl⟩))|(refine wo ?_;first|(refine ao ?_;first|refine oa ?_)|refine oa ?_|refine gy ?_|(refine gsi (fun hB=>?_) (fun hB=>?_) <;> try (exfalso;omega)))|(refine gc ?_;first|refine cf ?_|(refine ci (fun hB=>?_) (fun hB=>?_) <;> try (exfalso;omega)))|refine sq ?_|refine rg ?_|refine xc ?_|refine nl ?_|refine sk ?_|refine bk ?_|refine rt ?_|refine xb ?_
 exact r1 ⟨rfl,rfl⟩
theorem cpair_tr (x y:Nat) (hx:x < 9223372036854775808) (hy:y < 9223372036854775808) (hy0:y ≠ 0):Tr Tryz.prog 217 [I x,I y] [] [] (FQ (mkRat x y)):=by
 have hP:=FPair_tr x y hx hy hy0
 unfold FQ2 at hP
 unfold FQ
 generalize mkRat (x:Int) y = q at *
 refine Tr.enter env _ Tryz.func217 (by kernel_rfl) rfl Tryz.ntmps217 rfl (by repeat (first | exact has00 | refine has01 ?_)) fun w0=>?_
 repeat' first|(refine gca ?_;first|(refine ca hP ?_;rintro _ _ ⟨vn,vd,rfl,hvn,hvd,rfl⟩))|refine al fun c=>?_|refine srz ?_|refine lda ?_|(refine wo ?_;first|refine oa ?_)|refine sq ?_|refine rg ?_|refine xc ?_|refine nl ?_|refine rt ?_
 exact rca1 (cs:=[.bool (decide (q.num < 0)),vn,vd]) (vs:=[.bool (decide (q.num < 0)),vn,vd]) (T:=TRt) ⟨vn,vd,rfl,hvn,hvd,rfl⟩
theorem plus_tr (q r:Rat) (v1 v2 v3 v4:Value) (h1:v1.oneCell' = true) (h2:v2.oneCell' = true) (h3:v3.oneCell' = true) (h4:v4.oneCell' = true) (hq:FB q 8589934592) (hr:FB r 8589934592) :
  Tr Tryz.prog 265 [rv q v1 v2,rv r v3 v4] [vw v1 (Us (dg q.num.natAbs)),vw v2 (Us (dg q.den)),vw v3 (Us (dg r.num.natAbs)),vw v4 (Us (dg r.den))] [] (FQ (q + r)):=by
 have hA:=fun lv=>FAdd2_tr q r lv v1 v2 v3 v4 hq hr
 unfold FQ2 at hA
 unfold FQ
 obtain ⟨s,hs⟩ : ∃ s,s = q + r:=⟨_,rfl⟩
 rw [← hs] at hA ⊢
 refine Tr.enter env _ Tryz.func265 (by kernel_rfl) rfl Tryz.ntmps265 rfl (by repeat (first | exact has00 | refine has01 ?_)) fun w0=>?_
 repeat' first|(refine gca ?_;first|(refine ca (hA _) ?_ (hp:=has1 (has_oww memA) (has1 hasA (has1 hasA (has1 hasA (has1 hasA has0)))));rintro _ _ ⟨n1,n2,rfl,hn1,hn2,rfl⟩))|refine bx fun b=>?_|refine al fun c=>?_|refine lda ?_|refine slws fun g2=>?_|refine srz ?_|(refine wo ?_;first|refine oa ?_)|refine sq ?_|refine rg ?_|refine xc ?_|refine nl ?_|refine rt ?_
 exact rca1 (cs:=[.bool (decide (s.num < 0)),n1,n2]) (vs:=[.bool (decide (s.num < 0)),n1,n2]) (T:=TRt) ⟨n1,n2,rfl,hn1,hn2,rfl⟩
theorem ChooseI_tr (n:Nat) (k:Int) (hn:n ≤ 65536):Tr Tryz.prog 137 [I n,I k] [] [] fun u D=>eNat u D (chsI n k) 0:=by
 by_cases h0:0 ≤ k∧k ≤ n
 ·obtain ⟨m,rfl⟩ : ∃ m:Nat,k = m:=⟨k.toNat,by omega⟩
  have:=Choose_tr n m hn (by omega)
  unfold chsI
  rw [if_neg (by omega),Int.toNat_natCast]
  exact this
 ·have e:chsI n k = 0:=by
   unfold chsI;split
   ·rfl
   ·exact chs_over (by omega)
  unfold eNat
  rw [e,dg_zero]
  refine Tr.enter env _ Tryz.func137 (by kernel_rfl) rfl Tryz.ntmps137 rfl (by repeat (first | exact has00 | refine has01 ?_)) fun w0=>?_
  refine TC.im (own_nil T64 _) ?_
  repeat' first|(refine wo ?_;first|(refine ao ?_;first|refine oa ?_)|refine oa ?_|refine gy ?_|refine gn ?_|(refine gsi (fun hB=>?_) (fun hB=>?_) <;> try (exfalso;omega)))|(refine gc ?_;first|refine ct ?_|(refine ci (fun hB=>?_) (fun hB=>?_) <;> try (exfalso;omega)))|refine sq ?_|refine rg ?_|refine xc ?_|refine nl ?_|refine sk ?_|refine rt ?_
  all_goals exact r2 ⟨nS,rfl,rfl,rfl⟩
theorem cmeets_tr (k u j d:Nat) (hk:k ≤ 40) (hu:u ≤ k) (hj:j ≤ u) (hd:d ≤ k):Tr Tryz.prog 264 [I k,I u,I j,I d] [] [] (FQ (mkRat ((chs u j * fillN (k - u) d j:Nat):Int) (chs k d))):=by
 have hC1:=Choose_tr u j (by omega) hj
 have hC2:=ChooseI_tr (k - u) ((d:Int) - j) (by omega)
 rw [chsI_fill] at hC2
 have hC3:=Choose_tr k d (by omega) hd
 have l1:=Nat.le_trans (chs_len u j) (show u + 1 ≤ 41 by omega)
 have l2:(dg (fillN (k - u) d j)).length ≤ 1:=dg_len1 (Nat.lt_of_le_of_lt (fillN_le _ _ _) (Nat.lt_of_le_of_lt (Nat.pow_le_pow_right (by decide) (show k - u ≤ 40 by omega)) (by decide)))
 have hM:=fun v1 v2=>NMul_tr v1 v2 (dg (chs u j)) (dg (fillN (k - u) d j)) (Dg_dg _) (Dg_dg _) (by omega) (by omega)
 rw [nv_dg,nv_dg] at hM
 have l3:=dg_mul_len l1 l2
 have hI:=fun o=>IMake_tr false o (dg (chs u j * fillN (k - u) d j)) (Dg_dg _) (by omega)
 have hR:=fun o dv=>FMake_tr ((chs u j * fillN (k - u) d j:Nat):Int) o dv (dg (chs k d)) (Dg_dg _) (by unfold dz;rw [Int.natAbs_natCast];omega) (by have:=chs_len k d;omega) (by rw [nv_dg];exact chs_pos hd)
 have hs:∀ n:Nat,sg false n = (n:Int):=fun n=>rfl
 simp only [nv_dg,hs] at hI hR
 unfold IR at hI
 unfold dz at hR
 simp only [Int.natAbs_natCast] at hI hR
 unfold eNat at hC1 hC2 hC3
 unfold FQ2 at hR
 have hn:decide (((chs u j * fillN (k - u) d j:Nat):Int) < 0) = false:=decide_eq_false (by omega)
 unfold iv at hR
 rw [hn] at hI hR
 clear l1 l2 l3 hn hs
 unfold FQ
 generalize mkRat ((chs u j * fillN (k - u) d j:Nat):Int) (chs k d) = q at *
 generalize dg (chs u j * fillN (k - u) d j) = lm at *
 generalize dg (chs u j) = lx1 at *
 generalize dg (fillN (k - u) d j) = lx2 at *
 generalize dg (chs k d) = lx3 at *
 have hku:(k:Int) - u = ((k - u:Nat):Int):=by omega
 refine Tr.enter env _ Tryz.func264 (by kernel_rfl) rfl Tryz.ntmps264 rfl (by repeat (first | exact has00 | refine has01 ?_)) fun w0=>?_
 repeat' first|(refine gca ?_;first|(refine ca hC1 ?_;rintro _ _ ⟨o1,rfl,ho1,rfl⟩)|(refine ca hC2 ?_;rintro _ _ ⟨o2,rfl,ho2,rfl⟩)|(refine ca hC3 ?_;rintro _ _ ⟨o3,rfl,ho3,rfl⟩)|(refine ca (hM o1 o2) ?_;rintro o4 _ ⟨ho4,rfl⟩)|(refine ca (hI o4) ?_;rintro _ _ ⟨o5,rfl,ho5,rfl⟩)|(refine ca (hR o5 o3) ?_;rintro _ _ ⟨vn,vd,rfl,hvn,hvd,rfl⟩))|refine al fun c=>?_|(refine aw (m:=(k:Int) - u) ?_;rw [hku])|refine srz ?_|refine lda ?_|(refine wo ?_;first|(refine ao ?_;first|refine aw ?_)|refine oa ?_)|refine sq ?_|refine rg ?_|refine xc ?_|refine nl ?_|refine rt ?_
 exact rca1 (cs:=[.bool (decide (q.num < 0)),vn,vd]) (vs:=[.bool (decide (q.num < 0)),vn,vd]) (T:=TRt) ⟨vn,vd,rfl,hvn,hvd,rfl⟩
end Go.Art
namespace Go.Art
open Go Go.Proofs Go.RowKit
theorem FB_one:FB 1 8589934592:=⟨by rw [show (1:Rat).num.natAbs = 1 from rfl];exact Nat.le_trans (dg_len1 (by decide)) (by decide),by rw [show (1:Rat).den = 1 from rfl];exact Nat.le_trans (dg_len1 (by decide)) (by decide)⟩
theorem has_lbds {F C:List Ch} (h:lbd C ∈ F):∀ (D:List Ch),(∀ c ∈ D,∀ b,¬ c.wr b∧¬ c.rd b)→(∀ c ∈ D,c ∈ C)→∀ c ∈ D,Has F c:=fun D hl hm c hc=>by
 haveI:Lent c:=⟨hl c hc⟩
 exact has_lbd (has_mem h) (hm c hc)
structure InS (α:Type) where
 i:Nat
 a:α
structure FoS where
 i:Nat
 vn:Value
 vd:Value
def inQ (t:List Int) (k u j:Nat):List Rat:=(List.range t.length).map fun i=>omg t k i * ((chs u j:Rat) * fillC (k - u) (i + 1) j)
theorem inQ_len (t:List Int) (k u j:Nat):(inQ t k u j).length = t.length:=by simp [inQ]
theorem inQ_get {t:List Int} {k u j i:Nat} (h:i < t.length):(inQ t k u j).getD i 0 = omg t k i * ((chs u j:Rat) * fillC (k - u) (i + 1) j):=by simp [inQ,List.getD_eq_getElem?_getD,h]
theorem inQ_sum (t:List Int) (k u j m:Nat) (hm:m ≤ t.length):((inQ t k u j).take m).foldl (· + ·) 0 = evI m k (omg t k) u j:=by
 have e:(inQ t k u j).take m = (List.range m).map fun i=>omg t k i * ((chs u j:Rat) * fillC (k - u) (i + 1) j):=by
  unfold inQ;rw [← List.map_take,List.take_range,Nat.min_eq_left hm]
 rw [foldl_addR,Rat.zero_add,e,sR_map];rfl
def rowQ (t:List Int) (k u j:Nat):List Rat:=(List.range (u + 1 - j)).map fun i=>evI t.length k (omg t k) u (j + i)
theorem rowQ_len (t:List Int) (k u j:Nat):(rowQ t k u j).length = u + 1 - j:=by simp [rowQ]
theorem rowQ_get {t:List Int} {k u j i:Nat} (h:i < u + 1 - j):(rowQ t k u j).getD i 0 = evI t.length k (omg t k) u (j + i):=by simp [rowQ,List.getD_eq_getElem?_getD,h]
theorem rowQ_sum (t:List Int) (k u j m:Nat) (hm:m ≤ u + 1 - j):((rowQ t k u j).take m).foldl (· + ·) 0 = sR (fun i=>evI t.length k (omg t k) u (j + i)) (List.range m):=by
 have e:(rowQ t k u j).take m = (List.range m).map fun i=>evI t.length k (omg t k) u (j + i):=by
  unfold rowQ;rw [← List.map_take,List.take_range,Nat.min_eq_left hm]
 rw [foldl_addR,Rat.zero_add,e,sR_map]
attribute [local irreducible] Fit pt own ro vw mpc lpt vels rels mow lrc dfr
attribute [local irreducible] lmp lme mit velg relg bnd owl dfrl
theorem FMul2_tr (q r:Rat) (lv v1 v2 v3 v4:Value) (hq:FB q 8589934592) (hr:FB r 8589934592) :
  Tr Tryz.prog 79 [lv] [vwf lv 2 (rrow q (v1,v2) ++ rrow r (v3,v4)),vw v1 (Us (dg q.num.natAbs)),vw v2 (Us (dg q.den)),vw v3 (Us (dg r.num.natAbs)),vw v4 (Us (dg r.den))] [] (FQ2 (q * r) 0):=by
 have h:=FMul_tr lv [q,r] [(v1,v2),(v3,v4)] rfl (fun i hi=>by
  match i,hi with
  | 0,_=>exact hq
  | 1,_=>exact hr) (fun i hi=>by
  match i,hi with
  | 0,_=>exact FB_one
  | 1,_=>
   show FB (1 * q) _
   rw [Rat.one_mul];exact hq)
 rw [show [q,r].foldl (· * ·) (1:Rat) = q * r by show 1 * q * r = q * r;rw [Rat.one_mul]] at h
 refine h.pre ?_ (by repeat (first | exact has00 | refine has01 ?_))
 refine has1 (has_vwf (List.Mem.head _)) (has1 (has_vfr_cons (has_vw (by simp)) (has_vw (by simp)) (has_vfr_cons (has_vw (by simp)) (has_vw (by simp)) has_vfr_nil)) has0)
theorem FMul3_tr (q r p:Rat) (lv v1 v2 v3 v4 v5 v6:Value) (hq:FB q 8589934592) (hr:FB r 8589934592) (hp:FB p 8589934592) (hqr:FB (q * r) 8589934592) :
  Tr Tryz.prog 79 [lv] [vwf lv 3 (rrow q (v1,v2) ++ rrow r (v3,v4) ++ rrow p (v5,v6)),vw v1 (Us (dg q.num.natAbs)),vw v2 (Us (dg q.den)),vw v3 (Us (dg r.num.natAbs)),vw v4 (Us (dg r.den)),vw v5 (Us (dg p.num.natAbs)),vw v6 (Us (dg p.den))] [] (FQ2 (q * r * p) 0):=by
 have h:=FMul_tr lv [q,r,p] [(v1,v2),(v3,v4),(v5,v6)] rfl (fun i hi=>by
  match i,hi with
  | 0,_=>exact hq
  | 1,_=>exact hr
  | 2,_=>exact hp) (fun i hi=>by
  match i,hi with
  | 0,_=>exact FB_one
  | 1,_=>
   show FB (1 * q) _
   rw [Rat.one_mul];exact hq
  | 2,_=>
   show FB (1 * q * r) _
   rw [Rat.one_mul];exact hqr)
 rw [show [q,r,p].foldl (· * ·) (1:Rat) = q * r * p by show 1 * q * r * p = q * r * p;rw [Rat.one_mul]] at h
 refine h.pre ?_ (by repeat (first | exact has00 | refine has01 ?_))
 refine has1 (has_vwf (List.Mem.head _)) (has1 (has_vfr_cons (has_vw (by simp)) (has_vw (by simp)) (has_vfr_cons (has_vw (by simp)) (has_vw (by simp)) (has_vfr_cons (has_vw (by simp)) (has_vw (by simp)) has_vfr_nil))) has0)
theorem in1_seq (p1 p2 p3 p4 p5:Nat) (tv:Value) (t:List Int) (k u j:Nat) (hz:solE t k = 0) (hk:k ≤ 40) (hl:t.length ≤ 12) (hu:u ≤ k) (hj:j ≤ u) :
  SeqQ Tryz.prog 263 #[ptr p1,ptr p2,ptr p3,ptr p4,ptr p5] (lbd [lpt p1 [tv] TLs,lpt p2 [I t.sum] TLI,lpt p3 [I k] TLI,lpt p4 [I u] TLI,lpt p5 [I j] TLI,vw tv (Is t)]) (own T64 nS (Us [])) (inQ t k u j):=by
 refine ⟨fun {α} V hV l J pl S a0 h0 hnb hy=>Tr.wk _ ?_⟩
 haveI:=hV
 haveI:∀ a,NoB (J a):=fun a=>⟨hnb a⟩
 refine Tr.pre (pre:=[V,lpt p1 [tv] TLs,lpt p2 [I t.sum] TLI,lpt p3 [I k] TLI,lpt p4 [I u] TLI,lpt p5 [I j] TLI,vw tv (Is t)]) ?_ (has1 (has_mem (by simp)) (has_lbds (C:=[lpt p1 [tv] TLs,lpt p2 [I t.sum] TLI,lpt p3 [I k] TLI,lpt p4 [I u] TLI,lpt p5 [I j] TLI,vw tv (Is t)]) (by simp) _ (by repeat (first | exact has00 | refine has01 ?_)) fun c hc=>hc)) (by repeat (first | exact has00 | refine has01 ?_))
 rw [inQ_len] at hy ⊢
 obtain ⟨z1,z2,z3,z4⟩:=solE_zero hz
 have hs0:=sum_posT z3 z4
 have hs1:=(sum_wOk z3).2
 obtain ⟨s,hs⟩ : ∃ s:Nat,t.sum = s:=⟨t.sum.toNat,by omega⟩
 have hstep:=fun i (hi:i < t.length)=>in_step (u:=u) (j:=j) hz hi
 have hterm:=fun i (hi:i < t.length)=>term_FB (u:=u) (j:=j) hz hk hl hu hi
 have hget:=fun i (hi:i < t.length)=>inQ_get (k:=k) (u:=u) (j:=j) hi
 have hmeet:=fun d (hd:d ≤ k)=>cmeets_tr k u j d hk hu hj hd
 have hb:∀ i,i < t.length→0 ≤ t.getD i 0∧t.getD i 0 ≤ 16777215:=fun i hi=>z3 _ (by rw [List.getD_eq_getElem?_getD,List.getElem?_eq_getElem hi];exact List.getElem_mem hi)
 have hF2:∀ d,d ≤ k→FB (mkRat ((chs u j * fillN (k - u) d j:Nat):Int) (chs k d)) 8589934592:=fun d hd=>by
  have c1:chs u j * fillN (k - u) d j ≤ 2 ^ 40 * 2 ^ 40:=Nat.mul_le_mul (Nat.le_trans (chs_le _ _) (Nat.pow_le_pow_right (by decide) (by omega))) (Nat.le_trans (fillN_le _ _ _) (Nat.pow_le_pow_right (by decide) (by omega)))
  refine (FB_mk (B:=2) (chs_pos hd) ((dg_len _ _).2 (Nat.lt_of_le_of_lt c1 (by decide))) ?_).le (by decide)
  exact (dg_len _ _).2 (Nat.lt_of_le_of_lt (Nat.le_trans (chs_le k d) (Nat.pow_le_pow_right (by decide) hk)) (by decide))
 have htl:t.length ≤ k:=by omega
 rw [hs] at hs0 hs1 hstep ⊢
 rw [Int.toNat_natCast] at hstep
 clear hz z1 z2 z3 z4
 refine Tr.enter env _ Tryz.func263 (by kernel_rfl) rfl Tryz.ntmps263 rfl (by repeat (first | exact has00 | refine has01 ?_)) fun w0=>?_
 repeat' first|(refine wo ?_;first|refine oa ?_|refine ldl ?_|refine lnm ?_)|refine sq ?_|refine rg ?_|refine xc ?_|refine nl ?_|refine bk ?_
 refine TC.loop (ι:=InS α) (fun g=>[(13,I g.i)]) (fun g=>[J g.a]) (fun g=>g.i ≤ t.length∧pl g.a g.i) (fun g=>t.length - g.i) ⟨0,a0⟩ [0,1,2,3,4,5,11,12] ⟨Nat.zero_le _,h0⟩ ?_
 rintro ⟨i,a⟩ ⟨hi,ha⟩
 dsimp only at hi ha ⊢
 by_cases hlt:i < t.length
 ·obtain ⟨w,hw⟩ : ∃ w:Nat,t.getD i 0 = w:=⟨(t.getD i 0).toNat,by have:=hb i hlt;omega⟩
  have hwb:=hb i hlt
  have hP:=cpair_tr w s (by omega) (by omega) (by omega)
  have hM:=hmeet (i + 1) (by omega)
  have hX:=hstep i hlt
  have hG:=hget i hlt
  have hFq:=hterm i hlt
  have hF1:FB (mkRat ((w:Nat):Int) s) 8589934592:=(FB_mk1 (by omega) (by omega) (by omega)).le (by decide)
  have hF3:=hF2 (i + 1) (by omega)
  rw [hw] at hX
  have hyi:=fun v1 v2 h1 h2=>hy a i v1 v2 h1 h2 ha hlt
  rw [hG,← hX] at hyi
  clear hmeet hstep hget hterm hF2 hb hG hFq hX hy hwb
  have hMul:=fun lv v1 v2 v3 v4=>FMul2_tr (mkRat ((w:Nat):Int) s) (mkRat ((chs u j * fillN (k - u) (i + 1) j:Nat):Int) (chs k (i + 1))) lv v1 v2 v3 v4 hF1 hF3
  clear hF1 hF3
  unfold FQ at hP hM
  unfold FQ2 at hMul
  generalize mkRat ((chs u j * fillN (k - u) (i + 1) j:Nat):Int) (chs k (i + 1)) = q2 at *
  generalize mkRat ((w:Nat):Int) s = q1 at *
  obtain ⟨q3,hq3⟩ : ∃ q3,q3 = q1 * q2:=⟨_,rfl⟩
  rw [← hq3] at hMul hyi
  repeat' first|refine lie hw ?_|(refine wo ?_;first|(refine ao ?_;first|refine oa ?_)|refine oa ?_|refine ixmn ?_)|(refine gc ?_;first|(refine ci (fun hB=>?_) (fun hB=>?_) <;> try (exfalso;omega)))|refine sq ?_|refine rg ?_|refine xc ?_|refine nl ?_|refine sk ?_|refine bk ?_
  refine rs (fun w=>w.heap[p2]? = some (.cells [I s].toArray TLI (0,0))∧w.heap[p3]? = some (.cells [I k].toArray TLI (0,0))∧w.heap[p4]? = some (.cells [I u].toArray TLI (0,0))∧w.heap[p5]? = some (.cells [I j].toArray TLI (0,0))) ?_ (fun w hw=>⟨lpt_at memA hw,lpt_at memA hw,lpt_at memA hw,lpt_at memA hw⟩)
  refine tka 0 ?_
  refine tkl 1 (cs:=[I s]) (fun w h=>h.1) ?_
  refine tkl 3 (cs:=[I k]) (fun w h=>h.2.1) ?_
  refine tkl 4 (cs:=[I u]) (fun w h=>h.2.2.1) ?_
  refine tkl 5 (cs:=[I j]) (fun w h=>h.2.2.2) ?_
  refine tka 6 ?_
  refine tkw 7 ((i + 1:Nat):Int) ?_
  refine t2 2 14 ?_ ?_
  ·refine ca hP ?_
   rintro _ _ ⟨n1,d1,rfl,hn1,hd1,rfl⟩
   refine nl ?_
   refine te (fun w hw=>⟨lpt_at memA hw,lpt_at memA hw,lpt_at memA hw,lpt_at memA hw⟩) ?_
   refine t2 8 14 ?_ ?_
   ·refine ca hM ?_
    rintro _ _ ⟨n2,d2,rfl,hn2,hd2,rfl⟩
    refine nl ?_
    refine te (fun w hw=>⟨lpt_at memA hw,lpt_at memA hw,lpt_at memA hw,lpt_at memA hw⟩) ?_
    refine t2 9 14 ?_ ?_
    ·refine slws (sz:=3) (xs:=rrow q1 (n1,d1) ++ rrow q2 (n2,d2)) fun g2=>?_
     refine nl ?_
     refine te (fun w hw=>⟨lpt_at memA hw,lpt_at memA hw,lpt_at memA hw,lpt_at memA hw⟩) ?_
     refine t2 10 14 ?_ ?_
     ·refine ca (hMul _ n1 d1 n2 d2) ?_ (hp:=has1 (has_oww memA) (has1 hasA (has1 hasA (has1 hasA (has1 hasA has0)))))
      rintro _ _ ⟨n3,d3,rfl,hn3,hd3,rfl⟩
      refine nl ?_
      refine te (fun w hw=>⟨lpt_at memA hw,lpt_at memA hw,lpt_at memA hw,lpt_at memA hw⟩) ?_
      refine tka 11 ?_
      refine tka 12 ?_
      refine tka 13 ?_
      refine t1 14 ?_
      refine al fun c9=>?_
      refine nl ?_
      refine te (fun w hw=>⟨lpt_at memA hw,lpt_at memA hw,lpt_at memA hw,lpt_at memA hw⟩) ?_
      refine t1 15 ?_
      refine srz ?_
      refine nl ?_
      refine te (fun w hw=>⟨lpt_at memA hw,lpt_at memA hw,lpt_at memA hw,lpt_at memA hw⟩) ?_
      refine tka 16 ?_
      refine t0 ?_
      repeat' first|refine lda ?_|(refine cy (hyi n3 d3 hn3 hd3) ?_ (hp:=has1 (has_mem memA) has0);rintro ok _ ⟨a2,rfl,⟨rfl,h3⟩ | ⟨rfl,h3⟩⟩)|(refine wo ?_;first|(refine ao ?_;first|refine aw ?_)|refine oa ?_)|(refine gc ?_;first|refine ct ?_|refine cf ?_)|refine sq ?_|refine rg ?_|refine xc ?_|refine nl ?_|refine sk ?_|refine rt ?_|refine xb ?_
      ·exact lp ⟨i + 1,a2⟩ ⟨hlt,h3⟩
      ·exact r0 ⟨a2,rfl,.inr h3⟩
     ·refine al fun c9=>?_
      refine nl ?_
      refine te (fun w hw=>⟨lpt_at memA hw,lpt_at memA hw,lpt_at memA hw,lpt_at memA hw⟩) ?_
      refine t1 10 ?_
      refine ca (hMul _ n1 d1 n2 d2) ?_ (hp:=has1 (has_oww memA) (has1 hasA (has1 hasA (has1 hasA (has1 hasA has0)))))
      rintro _ _ ⟨n3,d3,rfl,hn3,hd3,rfl⟩
      refine nl ?_
      refine te (fun w hw=>⟨lpt_at memA hw,lpt_at memA hw,lpt_at memA hw,lpt_at memA hw⟩) ?_
      refine tka 11 ?_
      refine tka 12 ?_
      refine tka 13 ?_
      refine t1 15 ?_
      refine srz ?_
      refine nl ?_
      refine te (fun w hw=>⟨lpt_at memA hw,lpt_at memA hw,lpt_at memA hw,lpt_at memA hw⟩) ?_
      refine tka 16 ?_
      refine t0 ?_
      repeat' first|refine lda ?_|(refine cy (hyi n3 d3 hn3 hd3) ?_ (hp:=has1 (has_mem memA) has0);rintro ok _ ⟨a2,rfl,⟨rfl,h3⟩ | ⟨rfl,h3⟩⟩)|(refine wo ?_;first|(refine ao ?_;first|refine aw ?_)|refine oa ?_)|(refine gc ?_;first|refine ct ?_|refine cf ?_)|refine sq ?_|refine rg ?_|refine xc ?_|refine nl ?_|refine sk ?_|refine rt ?_|refine xb ?_
      ·exact lp ⟨i + 1,a2⟩ ⟨hlt,h3⟩
      ·exact r0 ⟨a2,rfl,.inr h3⟩
    ·refine al fun c9=>?_
     refine nl ?_
     refine te (fun w hw=>⟨lpt_at memA hw,lpt_at memA hw,lpt_at memA hw,lpt_at memA hw⟩) ?_
     refine t1 9 ?_
     refine slws (sz:=3) (xs:=rrow q1 (n1,d1) ++ rrow q2 (n2,d2)) fun g2=>?_
     refine nl ?_
     refine te (fun w hw=>⟨lpt_at memA hw,lpt_at memA hw,lpt_at memA hw,lpt_at memA hw⟩) ?_
     refine t1 10 ?_
     refine ca (hMul _ n1 d1 n2 d2) ?_ (hp:=has1 (has_oww memA) (has1 hasA (has1 hasA (has1 hasA (has1 hasA has0)))))
     rintro _ _ ⟨n3,d3,rfl,hn3,hd3,rfl⟩
     refine nl ?_
     refine te (fun w hw=>⟨lpt_at memA hw,lpt_at memA hw,lpt_at memA hw,lpt_at memA hw⟩) ?_
     refine tka 11 ?_
     refine tka 12 ?_
     refine tka 13 ?_
     refine t1 15 ?_
     refine srz ?_
     refine nl ?_
     refine te (fun w hw=>⟨lpt_at memA hw,lpt_at memA hw,lpt_at memA hw,lpt_at memA hw⟩) ?_
     refine tka 16 ?_
     refine t0 ?_
     repeat' first|refine lda ?_|(refine cy (hyi n3 d3 hn3 hd3) ?_ (hp:=has1 (has_mem memA) has0);rintro ok _ ⟨a2,rfl,⟨rfl,h3⟩ | ⟨rfl,h3⟩⟩)|(refine wo ?_;first|(refine ao ?_;first|refine aw ?_)|refine oa ?_)|(refine gc ?_;first|refine ct ?_|refine cf ?_)|refine sq ?_|refine rg ?_|refine xc ?_|refine nl ?_|refine sk ?_|refine rt ?_|refine xb ?_
     ·exact lp ⟨i + 1,a2⟩ ⟨hlt,h3⟩
     ·exact r0 ⟨a2,rfl,.inr h3⟩
   ·refine al fun c9=>?_
    refine nl ?_
    refine te (fun w hw=>⟨lpt_at memA hw,lpt_at memA hw,lpt_at memA hw,lpt_at memA hw⟩) ?_
    refine t1 8 ?_
    refine ca hM ?_
    rintro _ _ ⟨n2,d2,rfl,hn2,hd2,rfl⟩
    refine nl ?_
    refine te (fun w hw=>⟨lpt_at memA hw,lpt_at memA hw,lpt_at memA hw,lpt_at memA hw⟩) ?_
    refine t1 9 ?_
    refine slws (sz:=3) (xs:=rrow q1 (n1,d1) ++ rrow q2 (n2,d2)) fun g2=>?_
    refine nl ?_
    refine te (fun w hw=>⟨lpt_at memA hw,lpt_at memA hw,lpt_at memA hw,lpt_at memA hw⟩) ?_
    refine t1 10 ?_
    refine ca (hMul _ n1 d1 n2 d2) ?_ (hp:=has1 (has_oww memA) (has1 hasA (has1 hasA (has1 hasA (has1 hasA has0)))))
    rintro _ _ ⟨n3,d3,rfl,hn3,hd3,rfl⟩
    refine nl ?_
    refine te (fun w hw=>⟨lpt_at memA hw,lpt_at memA hw,lpt_at memA hw,lpt_at memA hw⟩) ?_
    refine tka 11 ?_
    refine tka 12 ?_
    refine tka 13 ?_
    refine t1 15 ?_
    refine srz ?_
    refine nl ?_
    refine te (fun w hw=>⟨lpt_at memA hw,lpt_at memA hw,lpt_at memA hw,lpt_at memA hw⟩) ?_
    refine tka 16 ?_
    refine t0 ?_
    repeat' first|refine lda ?_|(refine cy (hyi n3 d3 hn3 hd3) ?_ (hp:=has1 (has_mem memA) has0);rintro ok _ ⟨a2,rfl,⟨rfl,h3⟩ | ⟨rfl,h3⟩⟩)|(refine wo ?_;first|(refine ao ?_;first|refine aw ?_)|refine oa ?_)|(refine gc ?_;first|refine ct ?_|refine cf ?_)|refine sq ?_|refine rg ?_|refine xc ?_|refine nl ?_|refine sk ?_|refine rt ?_|refine xb ?_
    ·exact lp ⟨i + 1,a2⟩ ⟨hlt,h3⟩
    ·exact r0 ⟨a2,rfl,.inr h3⟩
  ·refine al fun c9=>?_
   refine nl ?_
   refine te (fun w hw=>⟨lpt_at memA hw,lpt_at memA hw,lpt_at memA hw,lpt_at memA hw⟩) ?_
   refine t1 2 ?_
   refine ca hP ?_
   rintro _ _ ⟨n1,d1,rfl,hn1,hd1,rfl⟩
   refine nl ?_
   refine te (fun w hw=>⟨lpt_at memA hw,lpt_at memA hw,lpt_at memA hw,lpt_at memA hw⟩) ?_
   refine t1 8 ?_
   refine ca hM ?_
   rintro _ _ ⟨n2,d2,rfl,hn2,hd2,rfl⟩
   refine nl ?_
   refine te (fun w hw=>⟨lpt_at memA hw,lpt_at memA hw,lpt_at memA hw,lpt_at memA hw⟩) ?_
   refine t1 9 ?_
   refine slws (sz:=3) (xs:=rrow q1 (n1,d1) ++ rrow q2 (n2,d2)) fun g2=>?_
   refine nl ?_
   refine te (fun w hw=>⟨lpt_at memA hw,lpt_at memA hw,lpt_at memA hw,lpt_at memA hw⟩) ?_
   refine t1 10 ?_
   refine ca (hMul _ n1 d1 n2 d2) ?_ (hp:=has1 (has_oww memA) (has1 hasA (has1 hasA (has1 hasA (has1 hasA has0)))))
   rintro _ _ ⟨n3,d3,rfl,hn3,hd3,rfl⟩
   refine nl ?_
   refine te (fun w hw=>⟨lpt_at memA hw,lpt_at memA hw,lpt_at memA hw,lpt_at memA hw⟩) ?_
   refine tka 11 ?_
   refine tka 12 ?_
   refine tka 13 ?_
   refine t1 15 ?_
   refine srz ?_
   refine nl ?_
   refine te (fun w hw=>⟨lpt_at memA hw,lpt_at memA hw,lpt_at memA hw,lpt_at memA hw⟩) ?_
   refine tka 16 ?_
   refine t0 ?_
   repeat' first|refine lda ?_|(refine cy (hyi n3 d3 hn3 hd3) ?_ (hp:=has1 (has_mem memA) has0);rintro ok _ ⟨a2,rfl,⟨rfl,h3⟩ | ⟨rfl,h3⟩⟩)|(refine wo ?_;first|(refine ao ?_;first|refine aw ?_)|refine oa ?_)|(refine gc ?_;first|refine ct ?_|refine cf ?_)|refine sq ?_|refine rg ?_|refine xc ?_|refine nl ?_|refine sk ?_|refine rt ?_|refine xb ?_
   ·exact lp ⟨i + 1,a2⟩ ⟨hlt,h3⟩
   ·exact r0 ⟨a2,rfl,.inr h3⟩
 ·obtain rfl:i = t.length:=by omega
  repeat' first|(refine wo ?_;first|(refine ao ?_;first|refine oa ?_))|(refine gc ?_;first|(refine ci (fun hB=>?_) (fun hB=>?_) <;> try (exfalso;omega)))|refine sq ?_|refine rg ?_|refine xc ?_|refine nl ?_|refine xe ?_
  exact e0 ⟨a,rfl,.inl ha⟩
end Go.Art
namespace Go.Art
open Go Go.Proofs Go.RowKit
theorem sR_mono {f:Nat→Rat} (h:∀ i,0 ≤ f i) {m m':Nat} (hm:m ≤ m'):sR f (List.range m) ≤ sR f (List.range m'):=by
 obtain ⟨q,rfl⟩:=Nat.exists_eq_add_of_le hm
 rw [List.range_add,sR_app]
 have:=sR_nonneg (f:=f) (l:=(List.range q).map (m + ·)) fun x _=>h x
 grind
theorem FB_le1 {E B:Nat} {q:Rat} (h:FrQ E q) (hE:E ≠ 0) (h1:q ≤ 1) (hB:E < 18446744073709551616 ^ B):FB q B:=by
 obtain ⟨a,ha,rfl⟩:=h.le hE h1
 exact FB_nat hE (Nat.lt_of_le_of_lt ha hB) hB
theorem evI_nonneg (t:List Int) (k u j:Nat):0 ≤ evI t.length k (omg t k) u j:=(evI_fr t.length k _ (oneS t k) u j).nonneg
theorem rowQ_le {t:List Int} {k u m:Nat} (hz:solE t k = 0) (hu:u ≤ k) (hm:m ≤ u - 1):sR (fun i=>evI t.length k (omg t k) u (2 + i)) (List.range m) ≤ 1:=by
 have h1:=evQ_le (m:=t.length) (k:=k) (ω:=omg t k) (fun i _=>omg_nonneg t k i) (tabX_one hz) hu
 rw [evQ_sum,sR_congr (g:=fun i=>evI t.length k (omg t k) u (2 + i)) fun j _=>by rw [Nat.add_comm]] at h1
 exact Rat.le_trans (sR_mono (fun i=>evI_nonneg t k u (2 + i)) hm) h1
theorem rowQ_evQ (t:List Int) (k u:Nat):(rowQ t k u 2).foldl (· + ·) 0 = evQ t.length k (omg t k) u:=by
 have:=rowQ_sum t k u 2 (u + 1 - 2) (Nat.le_refl _)
 rw [List.take_of_length_le (by rw [rowQ_len];exact Nat.le_refl _)] at this
 rw [this,evQ_sum,show u + 1 - 2 = u - 1 by omega]
 exact sR_congr fun j _=>by rw [Nat.add_comm]
attribute [local irreducible] Fit pt own ro vw mpc lpt vels rels mow lrc dfr
attribute [local irreducible] lmp lme mit velg relg bnd owl dfrl
abbrev TF3:TypeId:=100
theorem cfold_tr (f:FuncId) (cap:Array Value) (U W:Ch) [Lent U] [NoB W] (qs:List Rat) (hS:SeqQ Tryz.prog f cap U W qs) (s:Rat) (v1 v2:Value) (h1:v1.oneCell' = true) (h2:v2.oneCell' = true) (hF:∀ i,i < qs.length→FB (qs.getD i 0) 8589934592) (hP:∀ i,i ≤ qs.length→FB ((qs.take i).foldl (· + ·) s) 8589934592) :
  Tr Tryz.prog 262 [.func (.func f) #[] cap,rv s v1 v2,.func (.func 265) #[] #[]] [U] [own T64 v1 (Us (dg s.num.natAbs)),own T64 v2 (Us (dg s.den)),W] (FQ (qs.foldl (· + ·) s)):=by
 obtain ⟨acc,hacc⟩ : ∃ acc:Nat→Rat,acc = fun i=>(qs.take i).foldl (· + ·) s:=⟨_,rfl⟩
 have ha0:acc 0 = s:=by rw [hacc];rfl
 have haN:acc qs.length = qs.foldl (· + ·) s:=by rw [hacc];simp
 have hst:∀ i,i < qs.length→acc i + qs.getD i 0 = acc (i + 1):=fun i hi=>by rw [hacc];exact (foldl_take (· + ·) s hi 0).symm
 have hPa:∀ i,i ≤ qs.length→FB (acc i) 8589934592:=fun i hi=>by rw [hacc];exact hP i hi
 rw [← haN,← ha0]
 clear hacc ha0 haN hP
 have hrun:=@SeqQ.run _ _ _ _ _ _ hS
 clear hS
 obtain ⟨M,hM⟩ : ∃ M,M = qs.length:=⟨_,rfl⟩
 unfold FQ
 refine Tr.enterM env _ Tryz.func262 (by kernel_rfl) rfl Tryz.ntmps262 rfl (by repeat (first | exact has00 | refine has01 ?_)) fun w0=>?_
 repeat' first|refine bx fun c5=>?_|refine al fun c6=>?_|(refine wo ?_;first|refine oa ?_)|refine sq ?_|refine rg ?_|refine xc ?_|refine nl ?_|refine bk ?_
 rename_i c4
 refine TC.range [lpt c5 [.func (.func 265) #[] #[]] TF3,U] [pt c4 (rrow (acc 0) (v1,v2)) TRt,own T64 v1 (Us (dg (acc 0).num.natAbs)),own T64 v2 (Us (dg (acc 0).den)),W] (fun l2 rec Dm pend B'=>∃ vn vd,B' = [dfr Dm,pt c4 (rrow (acc M) (vn,vd)) TRt,own T64 vn (Us (dg (acc M).num.natAbs)),own T64 vd (Us (dg (acc M).den))]∧pend = none∧vn.oneCell' = true∧vd.oneCell' = true) ?_ ?_ (hp:=has1 hasA (has1 (has_mem memA) has0))
 ·intro rec l2 Dm hr
  refine Tr.unbK (C:=[lrc l2 rec .ready none,dfr Dm,pt c4 (rrow (acc 0) (v1,v2)) TRt,own T64 v1 (Us (dg (acc 0).num.natAbs)),own T64 v2 (Us (dg (acc 0).den))]) (hrun (α:=FoS) (lpt c5 [.func (.func 265) #[] #[]] TF3) l2 (fun g=>bnd [lrc l2 rec .ready none,dfr Dm,pt c4 (rrow (acc g.i) (g.vn,g.vd)) TRt,own T64 g.vn (Us (dg (acc g.i).num.natAbs)),own T64 g.vd (Us (dg (acc g.i).den))]) (fun g i=>g.i = i∧g.vn.oneCell' = true∧g.vd.oneCell' = true) (fun _=>False) ⟨0,v1,v2⟩ ⟨rfl,h1,h2⟩ (fun p=>bnd_nob (nb1 (nb1 (nb1 (nb1 (nb1 nb0)))))) ?_) ?_
  ·rintro ⟨i,vn,vd⟩ j x1 x2 hx1 hx2 ⟨hji,hvn,hvd⟩ hj
   dsimp only at hji hvn hvd
   subst hji
   have hFj:=hF i hj
   have hPj:=hPa i (by omega)
   have hsj:=hst i hj
   have hA:=plus_tr (acc i) (qs.getD i 0) vn vd x1 x2 hvn hvd hx1 hx2 hPj hFj
   unfold FQ at hA
   rw [hsj] at hA
   clear hF hPa hst hrun hFj hPj hsj
   obtain ⟨q,hq⟩ : ∃ q,q = qs.getD i 0:=⟨_,rfl⟩
   rw [← hq] at hA ⊢
   refine Ty.bndL (K:=[own T64 x1 (Us (dg q.num.natAbs)),own T64 x2 (Us (dg q.den))]) (C:=[lrc l2 rec .ready none,dfr Dm,pt c4 (rrow (acc i) (vn,vd)) TRt,own T64 vn (Us (dg (acc i).num.natAbs)),own T64 vd (Us (dg (acc i).den))]) ?_
   refine Ty.intro env hr (by repeat (first | exact has00 | refine has01 ?_)) fun w1=>?_
   repeat' first|refine al fun c7=>?_|refine xbeg ?_|refine lda (cs:=rrow (acc i) (vn,vd)) ?_|refine lda (cs:=rrow q (x1,x2)) ?_|refine srz ?_ (hj:=Nat.le_of_ble_eq_true rfl)|(refine cav (cap:=#[]) (vs:=[rv (acc i) vn vd,rv q x1 x2]) hA ?_;rintro _ _ ⟨n1,n2,rfl,hn1,hn2,rfl⟩)|(refine wo ?_;first|refine ldl ?_)|refine rg ?_|refine nl ?_|refine bk ?_|refine xb ?_
   exact yn ⟨⟨i + 1,n1,n2⟩,rfl,.inl ⟨rfl,rfl,hn1,hn2⟩⟩
  ·rintro _ _ ⟨⟨i,vn,vd⟩,rfl,⟨rfl,g2,g3⟩ | h⟩
   ·exact ⟨_,rfl,.ready,none,_,rfl,by decide,vn,vd,by rw [hM],rfl,g2,g3⟩
   ·exact h.elim
 ·rintro l2 rec Dm pend B' ⟨vn,vd,rfl,rfl,g2,g3⟩
  show TX env _ _ _ _ _ _
  refine TX.im (dfrl_nil _) ?_
  refine TX.im (dfrl_push (D:=Dm) (Ds:=[]) fitA) ?_
  rw [← hM]
  generalize acc M = q at *
  repeat' first|refine lda (cs:=rrow q (vn,vd)) ?_|refine srz ?_ (hj:=Nat.le_of_ble_eq_true rfl)|refine sq ?_|refine rg ?_|refine xc ?_|refine nl ?_|refine rt ?_|refine xb ?_
  exact mca1 (Ds:=[Dm]) (cs:=rrow q (vn,vd)) (vs:=rrow q (vn,vd)) (T:=TRt) ⟨vn,vd,rfl,g2,g3,rfl⟩
end Go.Art
namespace Go.Art
open Go Go.Proofs Go.RowKit
theorem inQ_all (t:List Int) (k u j:Nat):(inQ t k u j).foldl (· + ·) 0 = evI t.length k (omg t k) u j:=by
 have:=inQ_sum t k u j t.length (Nat.le_refl _)
 rwa [List.take_of_length_le (by rw [inQ_len];exact Nat.le_refl _)] at this
theorem num_sign {q:Rat} (h:0 ≤ q) (h0:q ≠ 0):q.num.sign = 1∧0 < q.num:=by
 have h1:0 ≤ q.num:=Rat.num_nonneg.2 h
 have h2:q.num ≠ 0:=fun e=>h0 (Rat.num_eq_zero.1 e)
 have h3:0 < q.num:=by omega
 exact ⟨Int.sign_eq_one_of_pos h3,h3⟩
theorem two_mk (u:Nat):mkRat ((2:Nat):Int) u = 2 / (u:Rat):=by rw [Rat.mkRat_eq_div];rfl
theorem zero_mk:mkRat ((0:Nat):Int) 1 = 0:=by simp
theorem evI_le1 {t:List Int} {k u:Nat} (hz:solE t k = 0) (hu:u ≤ k) (h2:2 ≤ u):evI t.length k (omg t k) u 2 ≤ 1:=by
 have h1:=rowQ_le (m:=1) hz hu (by omega)
 simp only [List.range_succ,List.range_zero,List.nil_append,sR] at h1
 grind
attribute [local irreducible] Fit pt own ro vw mpc lpt vels rels mow lrc dfr
attribute [local irreducible] lmp lme mit velg relg bnd owl dfrl
abbrev plusV:Value:=.func (.func 265) #[] #[]
theorem in_tr (tv:Value) (htv:tv.oneCell' = true) (t:List Int) (k u j:Nat) (hz:solE t k = 0) (hk:k ≤ 40) (hl:t.length ≤ 12) (hu:u ≤ k) (hj:j ≤ u):Tr Tryz.prog 213 [tv,I k,I u,I j] [vw tv (Is t)] [] (FQ (evI t.length k (omg t k) u j)):=by
 obtain ⟨z1,z2,z3,z4⟩:=solE_zero hz
 have hT:=SoTotal_tr tv t (by omega) z3
 have hP:=cpair_tr 0 1 (by decide) (by decide) (by decide)
 rw [zero_mk] at hP
 have hseq:=fun p1 p2 p3 p4 p5=>in1_seq p1 p2 p3 p4 p5 tv t k u j hz hk hl hu hj
 have hfold:=fun p1 p2 p3 p4 p5 n1 d1 hn1 hd1=>cfold_tr 263 #[ptr p1,ptr p2,ptr p3,ptr p4,ptr p5] _ _ (inQ t k u j) (hseq p1 p2 p3 p4 p5) 0 n1 d1 hn1 hd1 (fun i hi=>by
  rw [inQ_len] at hi
  rw [inQ_get hi]
  exact (term_FB hz hk hl hu hi).le (by decide)) (fun i hi=>by
  rw [inQ_len] at hi
  rw [inQ_sum t k u j i hi]
  exact (evI_FB hz hk hl hu hi).le (by decide))
 simp only [inQ_all] at hfold
 unfold FQ at hfold hP ⊢
 generalize evI t.length k (omg t k) u j = q at *
 clear hseq z1 z2 z3 z4
 obtain ⟨z,hz0⟩ : ∃ z:Rat,z = 0:=⟨_,rfl⟩
 rw [← hz0] at hP hfold
 clear hz0
 refine Tr.enter env _ Tryz.func213 (by kernel_rfl) rfl Tryz.ntmps213 rfl (by repeat (first | exact has00 | refine has01 ?_)) fun w0=>?_
 refine TC.im (own_nil T64 _) ?_
 repeat' first|(refine gca ?_;first|(refine ca hT ?_;rintro _ _ ⟨rfl,rfl⟩)|(refine ca hP ?_;rintro _ _ ⟨n1,d1,rfl,hn1,hd1,rfl⟩))|refine bx1 fun b=>?_|refine al fun c=>?_|refine srz ?_|(refine wo ?_;first|refine oa ?_|refine ld ?_|refine sr ?_)|refine sq ?_|refine rg ?_|refine xc ?_|refine nl ?_
 rename_i c4 c5 c6 c8
 repeat' first|(refine cav (cap:=#[]) (vs:=[.func (.func 263) #[] #[ptr c4,ptr c,ptr c5,ptr c6,ptr b],rv z n1 d1,plusV]) (hfold c4 c c5 c6 b n1 d1 hn1 hd1) ?_ (hp:=has1 (lbd_of (has1 hasA (has1 hasA (has1 hasA (has1 hasA (has1 hasA (has1 hasA has0))))))) has0);rintro _ _ ⟨n2,d2,rfl,hn2,hd2,rfl⟩)|refine srz ?_|refine xc ?_|refine nl ?_|refine rt ?_
 exact rca1 (cs:=[.bool (decide (q.num < 0)),n2,d2]) (vs:=[.bool (decide (q.num < 0)),n2,d2]) (T:=TRt) ⟨n2,d2,rfl,hn2,hd2,rfl⟩
theorem row1_seq (pj pu pt' pk:Nat) (tv:Value) (htv:tv.oneCell' = true) (t:List Int) (k u j:Nat) (hz:solE t k = 0) (hk:k ≤ 40) (hl:t.length ≤ 12) (hu:u ≤ k) (hj:j ≤ 2) :
  SeqQ Tryz.prog 290 #[ptr pj,ptr pu,ptr pt',ptr pk] (lbd [lpt pu [I u] TLI,lpt pt' [tv] TLs,lpt pk [I k] TLI,vw tv (Is t)]) (pt pj [I j] TLI) (rowQ t k u j):=by
 refine ⟨fun {α} V hV l J pl S a0 h0 hnb hy=>?_⟩
 haveI:=hV
 haveI:∀ a,NoB (J a):=fun a=>⟨hnb a⟩
 refine Tr.pre (pre:=[V,lpt pu [I u] TLI,lpt pt' [tv] TLs,lpt pk [I k] TLI,vw tv (Is t)]) ?_ (has1 (has_mem (by simp)) (has_lbds (C:=[lpt pu [I u] TLI,lpt pt' [tv] TLs,lpt pk [I k] TLI,vw tv (Is t)]) (by simp) _ (by repeat (first | exact has00 | refine has01 ?_)) fun c hc=>hc)) (by repeat (first | exact has00 | refine has01 ?_))
 rw [rowQ_len] at hy ⊢
 have hin:=fun m (hm:m ≤ u)=>in_tr tv htv t k u m hz hk hl hu hm
 have hget:=fun i (hi:i < u + 1 - j)=>rowQ_get (t:=t) (k:=k) (u:=u) (j:=j) hi
 clear hz
 refine Tr.enter env _ Tryz.func290 (by kernel_rfl) rfl Tryz.ntmps290 rfl (by repeat (first | exact has00 | refine has01 ?_)) fun w0=>?_
 repeat' first|refine bk ?_
 refine TC.loop (ι:=InS α) (fun _=>[]) (fun g=>[pt pj [I ((j + g.i:Nat):Int)] TLI,J g.a]) (fun g=>g.i ≤ u + 1 - j∧pl g.a g.i) (fun g=>u + 1 - j - g.i) ⟨0,a0⟩ [0,1,2,3,4] ⟨Nat.zero_le _,h0⟩ ?_
 rintro ⟨i,a⟩ ⟨hi,ha⟩
 dsimp only at hi ha ⊢
 by_cases hlt:i < u + 1 - j
 ·have hN:=hin (j + i) (by omega)
  have hG:=hget i hlt
  have hyi:=fun v1 v2 h1 h2=>hy a i v1 v2 h1 h2 ha hlt
  rw [hG] at hyi
  unfold FQ at hN
  clear hin hget hG hy
  generalize evI t.length k (omg t k) u (j + i) = q at *
  repeat' first|(refine gca ?_;first|(refine ca hN ?_;rintro _ _ ⟨n1,d1,rfl,hn1,hd1,rfl⟩))|(refine cy (hyi n1 d1 hn1 hd1) ?_ (hp:=has1 (has_mem memA) has0);rintro ok _ ⟨a2,rfl,⟨rfl,h3⟩ | ⟨rfl,h3⟩⟩)|(refine aw (m:=((j + (i + 1):Nat):Int)) ?_)|(refine wo ?_;first|(refine ao ?_;first|refine oa ?_)|refine oa ?_|refine ld ?_|refine ldl ?_|refine sr ?_|refine gy ?_|(refine gsi (fun hB=>?_) (fun hB=>?_) <;> try (exfalso;omega)))|(refine gc ?_;first|refine ct ?_|refine cf ?_)|refine sq ?_|refine rg ?_|refine xc ?_|refine nl ?_|refine sk ?_|refine bk ?_|refine xe ?_|refine xb ?_
  ·exact lp ⟨i + 1,a2⟩ ⟨hlt,h3⟩
  ·exact e0 ⟨a2,rfl,.inr h3⟩
 ·obtain rfl:i = u + 1 - j:=by omega
  repeat' first|(refine wo ?_;first|(refine ao ?_;first|refine oa ?_)|refine oa ?_|refine ld ?_|refine ldl ?_|refine gn ?_|(refine gsi (fun hB=>?_) (fun hB=>?_) <;> try (exfalso;omega)))|(refine gc ?_;first|refine cf ?_)|refine sq ?_|refine rg ?_|refine xc ?_|refine nl ?_|refine xe ?_
  exact e0 ⟨a,rfl,.inl ha⟩
theorem row_tr (tv:Value) (htv:tv.oneCell' = true) (k u j:Int):Tr Tryz.prog 266 [tv,I k,I u,I j] [] [] fun v D=>∃ pj pu pt' pk,v = .func (.func 290) #[] #[ptr pj,ptr pu,ptr pt',ptr pk]∧D = [pt pj [I j] TLI,pt pu [I u] TLI,pt pk [I k] TLI,pt pt' [tv] TLs]:=by
 refine Tr.enter env _ Tryz.func266 (by kernel_rfl) rfl Tryz.ntmps266 rfl (by repeat (first | exact has00 | refine has01 ?_)) fun w0=>?_
 repeat' first|refine bx1 fun b=>?_|(refine wo ?_;first|refine oa ?_)|refine sq ?_|refine rg ?_|refine xc ?_|refine nl ?_|refine rt ?_
 exact r1 ⟨_,_,_,_,rfl,rfl⟩
theorem Cloud_tr (tv:Value) (htv:tv.oneCell' = true) (t:List Int) (k u:Nat) (hz:solE t k = 0) (hk:k ≤ 40) (hl:t.length ≤ 12) (hu:u ≤ k):Tr Tryz.prog 216 [tv,I k,I u] [vw tv (Is t)] [] (FQ2 (evQ t.length k (omg t k) u) 0):=by
 have hR:=crefuses_tr tv t k u hz (by omega) hu
 have hP:=cpair_tr 0 1 (by decide) (by decide) (by decide)
 rw [zero_mk] at hP
 have hW:=row_tr tv htv (k:Int) (u:Int) 2
 have hseq:=fun p1 p2 p3 p4=>row1_seq p1 p2 p3 p4 tv htv t k u 2 hz hk hl hu (by decide)
 have hO:=oneS_lt hz hk hl
 have hfold:=fun p1 p2 p3 p4 n1 d1 hn1 hd1=>cfold_tr 290 #[ptr p1,ptr p2,ptr p3,ptr p4] _ _ (rowQ t k u 2) (hseq p1 p2 p3 p4) 0 n1 d1 hn1 hd1 (fun i hi=>by
  rw [rowQ_len] at hi
  rw [rowQ_get hi]
  exact (evI_FB hz hk hl hu (Nat.le_refl _)).le (by decide)) (fun i hi=>by
  rw [rowQ_len] at hi
  rw [rowQ_sum t k u 2 i hi]
  exact (FB_le1 (FrQ.sum fun j _=>evI_fr t.length k _ (oneS t k) u (2 + j)) (oneS_pos hz) (rowQ_le hz hu (by omega)) hO).le (by decide))
 simp only [rowQ_evQ] at hfold
 unfold FQ at hfold hP
 unfold FQ2
 generalize evQ t.length k (omg t k) u = q at *
 clear hseq hO
 obtain ⟨z,hz0⟩ : ∃ z:Rat,z = 0:=⟨_,rfl⟩
 rw [← hz0] at hP hfold
 clear hz0 hz
 refine Tr.enter env _ Tryz.func216 (by kernel_rfl) rfl Tryz.ntmps216 rfl (by repeat (first | exact has00 | refine has01 ?_)) fun w0=>?_
 repeat' first|(refine gca ?_;first|(refine ca hR ?_;rintro _ _ ⟨rfl,rfl⟩)|(refine ca hW ?_;rintro _ _ ⟨pj,pu,pt',pk,rfl,rfl⟩)|(refine ca hP ?_;rintro _ _ ⟨n1,d1,rfl,hn1,hd1,rfl⟩))|refine al fun c=>?_|(refine cav (cap:=#[]) (vs:=[.func (.func 290) #[] #[ptr pj,ptr pu,ptr pt',ptr pk],rv z n1 d1,plusV]) (hfold pj pu pt' pk n1 d1 hn1 hd1) ?_ (hp:=has1 (lbd_of (has1 hasA (has1 hasA (has1 hasA (has1 hasA has0))))) has0);rintro _ _ ⟨n2,d2,rfl,hn2,hd2,rfl⟩)|refine srz ?_|(refine wo ?_;first|(refine ao ?_;first|refine oa ?_)|refine oa ?_)|(refine gc ?_;first|refine cf ?_)|refine sq ?_|refine rg ?_|refine xc ?_|refine nl ?_|refine sk ?_|refine rt ?_
 exact rca (cs:=[.bool (decide (q.num < 0)),n2,d2]) (vs:=[.bool (decide (q.num < 0)),n2,d2]) (T:=TRt) ⟨n2,d2,rfl,hn2,hd2,rfl⟩
theorem In_tr (tv:Value) (htv:tv.oneCell' = true) (t:List Int) (k u j:Nat) (hz:solE t k = 0) (hk:k ≤ 40) (hl:t.length ≤ 12) (hu:u ≤ k) (hj:j ≤ u):Tr Tryz.prog 167 [tv,I k,I u,I j] [vw tv (Is t)] [] (FQ2 (evI t.length k (omg t k) u j) 0):=by
 have hR:=crefuses_tr tv t k u hz (by omega) hu
 have hI:=in_tr tv htv t k u j hz hk hl hu hj
 unfold FQ at hI
 unfold FQ2
 generalize evI t.length k (omg t k) u j = q at *
 refine Tr.enter env _ Tryz.func167 (by kernel_rfl) rfl Tryz.ntmps167 rfl (by repeat (first | exact has00 | refine has01 ?_)) fun w0=>?_
 repeat' first|(refine gca ?_;first|(refine ca hR ?_;rintro _ _ ⟨rfl,rfl⟩)|(refine ca hI ?_;rintro _ _ ⟨n2,d2,rfl,hn2,hd2,rfl⟩))|refine al fun c=>?_|refine srz ?_|(refine wo ?_;first|(refine ao ?_;first|refine oa ?_)|refine oa ?_|refine gy ?_)|(refine gc ?_;first|refine cf ?_|(refine ci (fun hB=>?_) (fun hB=>?_) <;> try (exfalso;omega)))|refine sq ?_|refine rg ?_|refine xc ?_|refine nl ?_|refine sk ?_|refine rt ?_
 exact rca (cs:=[.bool (decide (q.num < 0)),n2,d2]) (vs:=[.bool (decide (q.num < 0)),n2,d2]) (T:=TRt) ⟨n2,d2,rfl,hn2,hd2,rfl⟩
theorem Free_tr (tv:Value) (htv:tv.oneCell' = true) (t:List Int) (k u:Nat) (hz:solE t k = 0) (hk:k ≤ 40) (hl:t.length ≤ 12) (h1:1 ≤ u) (hu:u ≤ k):Tr Tryz.prog 170 [tv,I k,I u] [vw tv (Is t)] [] (FQ2 (fT t k u) 0):=by
 have hC:=Cloud_tr tv htv t k u hz hk hl hu
 have hO:=oneS_lt hz hk hl
 have hO0:=oneS_pos hz
 have hQ1:=evQ_le (m:=t.length) (k:=k) (ω:=omg t k) (fun i _=>omg_nonneg t k i) (tabX_one hz) hu
 have hQ0:=evQ_nonneg (m:=t.length) (k:=k) (ω:=omg t k) (fun i _=>omg_nonneg t k i) u
 have hQF:=evQ_fr t.length k (fun i=>wS t k (i + 1)) (oneS t k) u
 have hQB:FB (evQ t.length k (omg t k) u) 10:=FB_le1 hQF hO0 hQ1 hO
 have hS:=fun o ho=>ISign_tr (evQ t.length k (omg t k) u).num o ho (by have:=hQB.1;omega)
 unfold FQ2 at hC
 by_cases he:evQ t.length k (omg t k) u = 0
 ·have hf:fT t k u = evQ t.length k (omg t k) u:=by unfold fT freeR;rw [if_pos he,he]
  rw [hf]
  have hs:(evQ t.length k (omg t k) u).num.sign = 0:=by rw [he];rfl
  rw [hs] at hS
  unfold FQ2
  unfold iv at hS
  generalize evQ t.length k (omg t k) u = q at *
  clear hQF hQB hQ1 hQ0 he hs hf hO hz
  refine Tr.enter env _ Tryz.func170 (by kernel_rfl) rfl Tryz.ntmps170 rfl (by repeat (first | exact has00 | refine has01 ?_)) fun w0=>?_
  repeat' first|(refine gca ?_;first|(refine ca hC ?_;rintro _ _ ⟨n1,d1,rfl,hn1,hd1,rfl⟩)|(refine ca (hS n1 hn1) ?_;rintro _ _ ⟨rfl,rfl⟩))|refine al fun c=>?_|refine srz ?_|refine lda (vs:=[.bool (decide (q.num < 0)),n1]) ?_|refine lda ?_|(refine wo ?_;first|(refine ao ?_;first|refine oa ?_)|refine oa ?_)|(refine gc ?_;first|refine ct ?_|refine cf ?_|(refine ci (fun hB=>?_) (fun hB=>?_) <;> try (exfalso;omega)))|refine sq ?_|refine rg ?_|refine xc ?_|refine nl ?_|refine bk ?_|refine rt ?_
  exact rca (cs:=[.bool (decide (q.num < 0)),n1,d1]) (vs:=[.bool (decide (q.num < 0)),n1,d1]) (T:=TRt) ⟨n1,d1,rfl,hn1,hd1,rfl⟩
 ·have hu2:2 ≤ u:=by
   rcases Nat.lt_or_ge u 2 with h | h
   ·exact absurd (by rw [evQ_sum,show u - 1 = 0 by omega];rfl) he
   ·exact h
  obtain ⟨hs,hpos⟩:=num_sign hQ0 he
  rw [hs] at hS
  have hP:=cpair_tr 2 u (by decide) (by omega) (by omega)
  have hI:=in_tr tv htv t k u 2 hz hk hl hu hu2
  have hIB:=(evI_FB (j:=2) hz hk hl hu (Nat.le_refl _)).le (show 12 ≤ 8589934592 by decide)
  have hF1:FB (mkRat ((2:Nat):Int) u) 8589934592:=(FB_mk1 (by omega) (by decide) (by omega)).le (by decide)
  have hMul:=fun lv v1 v2 v3 v4=>FMul2_tr (mkRat ((2:Nat):Int) u) (evI t.length k (omg t k) u 2) lv v1 v2 v3 v4 hF1 hIB
  have hXB:FB (mkRat ((2:Nat):Int) u * evI t.length k (omg t k) u 2) 12:=by
   obtain ⟨a,ha,hq⟩:=(evI_fr t.length k (fun i=>wS t k (i + 1)) (oneS t k) u 2).le hO0 (evI_le1 hz hu hu2)
   have e:mkRat ((2:Nat):Int) u * evI t.length k (omg t k) u 2 = ((2 * a:Nat):Rat) / ((u * oneS t k:Nat):Rat):=by
    rw [hq,two_mk]
    have z1:=nz hO0
    have z2:=nz (show u ≠ 0 by omega)
    push_cast;grind
   rw [e]
   refine FB_nat (Nat.mul_ne_zero (by omega) hO0) ?_ ?_
   ·exact Nat.lt_of_le_of_lt (Nat.mul_le_mul_left 2 (Nat.le_trans ha (Nat.le_of_lt hO))) (by decide)
   ·exact Nat.lt_of_le_of_lt (Nat.mul_le_mul (show u ≤ 40 by omega) (Nat.le_of_lt hO)) (by decide)
  have hDiv:=fun v1 v2 v3 v4 h1 h2 h3 h4=>FDiv_tr (mkRat ((2:Nat):Int) u * evI t.length k (omg t k) u 2) (evQ t.length k (omg t k) u) v1 v2 v3 v4 h1 h2 h3 h4 (hXB.le (by decide)) (hQB.le (by decide)) hpos
  have hf:fT t k u = mkRat ((2:Nat):Int) u * evI t.length k (omg t k) u 2 / evQ t.length k (omg t k) u:=by
   unfold fT freeR;rw [if_neg he,two_mk]
  rw [← hf] at hDiv
  unfold FQ at hP hI
  unfold FQ2 at hMul hDiv ⊢
  unfold iv at hS
  clear hf hXB hIB hF1 hQF hQB hQ1 hQ0 he hs hpos hO
  obtain ⟨x,hx⟩ : ∃ x,x = mkRat ((2:Nat):Int) u * evI t.length k (omg t k) u 2:=⟨_,rfl⟩
  rw [← hx] at hMul hDiv
  clear hx
  generalize mkRat ((2:Nat):Int) u = q1 at *
  generalize evI t.length k (omg t k) u 2 = q2 at *
  generalize fT t k u = f at *
  generalize evQ t.length k (omg t k) u = q at *
  refine Tr.enter env _ Tryz.func170 (by kernel_rfl) rfl Tryz.ntmps170 rfl (by repeat (first | exact has00 | refine has01 ?_)) fun w0=>?_
  repeat' first|(refine gca ?_;first|(refine ca hC ?_;rintro _ _ ⟨n1,d1,rfl,hn1,hd1,rfl⟩)|(refine ca (hS n1 hn1) ?_;rintro _ _ ⟨rfl,rfl⟩)|(refine ca hP ?_;rintro _ _ ⟨n2,d2,rfl,hn2,hd2,rfl⟩)|(refine ca hI ?_;rintro _ _ ⟨n3,d3,rfl,hn3,hd3,rfl⟩)|(refine ca (hMul _ n2 d2 n3 d3) ?_ (hp:=has1 (has_oww memA) (has1 hasA (has1 hasA (has1 hasA (has1 hasA has0)))));rintro _ _ ⟨n4,d4,rfl,hn4,hd4,rfl⟩)|(refine ca (hDiv n4 d4 n1 d1 hn4 hd4 hn1 hd1) ?_;rintro _ _ ⟨n5,d5,rfl,hn5,hd5,rfl⟩))|refine al fun c=>?_|refine srz ?_|refine lda (vs:=[.bool (decide (q.num < 0)),n1]) ?_|refine lda ?_|refine slws (sz:=3) (xs:=rrow q1 (n2,d2) ++ rrow q2 (n3,d3)) (fun g2=>?_)|(refine wo ?_;first|(refine ao ?_;first|refine oa ?_)|refine oa ?_)|(refine gc ?_;first|refine cf ?_|(refine ci (fun hB=>?_) (fun hB=>?_) <;> try (exfalso;omega)))|refine sq ?_|refine rg ?_|refine xc ?_|refine nl ?_|refine sk ?_|refine bk ?_|refine rt ?_|refine xb ?_
  exact rca (cs:=[.bool (decide (f.num < 0)),n5,d5]) (vs:=[.bool (decide (f.num < 0)),n5,d5]) (T:=TRt) ⟨n5,d5,rfl,hn5,hd5,rfl⟩
end Go.Art
namespace Go.Art
open Go Go.Proofs Go.RowKit
abbrev HV:=Value × Value
def gpc (q:Rat):Option HV→Ch
 | none=>bnd []
 | some h=>bnd [own T64 h.1 (Us (dg q.num.natAbs)),own T64 h.2 (Us (dg q.den))]
def gps (es:List (Option HV)) (qs:List Rat):List Ch:=List.zipWith (fun e q=>gpc q e) es qs
def gow (es:List (Option HV)) (qs:List Rat):Ch:=bnd (gps es qs)
def hsE (z:HV) (es:List (Option HV)):List HV:=es.map fun e=>e.getD z
theorem hsE_len (z:HV) (es:List (Option HV)):(hsE z es).length = es.length:=by simp [hsE]
theorem hsE_get {z:HV} {es:List (Option HV)} {i:Nat} (h:i < es.length):(hsE z es).getD i nS2 = (es.getD i none).getD z:=by simp [hsE,List.getD_eq_getElem?_getD,h]
theorem hsE_set (z:HV) (es:List (Option HV)) (i:Nat) (h:HV):hsE z (es.set i (some h)) = (hsE z es).set i h:=by unfold hsE;rw [List.map_set];rfl
theorem hsE_none (z:HV) (N:Nat):hsE z (List.replicate N none) = List.replicate N z:=by simp [hsE]
theorem gpc_nb (q:Rat):∀ e:Option HV,∀ b,¬ (gpc q e).bd b
 | none=>bnd_nob fun _ h=>nomatch h
 | some h=>bnd_nob (nb1 (nb1 nb0))
theorem gps_mem {c:Ch}:∀ {es:List (Option HV)} {qs:List Rat},c ∈ gps es qs→∃ q e,c = gpc q e
 | [],_,h=>nomatch h
 | _ :: _,[],h=>nomatch h
 | e :: es,q :: qs,h=>by
  rcases List.mem_cons.1 h with h | h
  ·exact ⟨q,e,h⟩
  ·exact gps_mem (es:=es) (qs:=qs) h
theorem gow_nb (es:List (Option HV)) (qs:List Rat):∀ b,¬ (gow es qs).bd b:=bnd_nob fun c hc=>by
 obtain ⟨q,e,rfl⟩:=gps_mem hc
 exact gpc_nb _ _
instance (es:List (Option HV)) (qs:List Rat):NoB (gow es qs):=⟨gow_nb es qs⟩
theorem gps_len {es:List (Option HV)} {qs:List Rat} (h:es.length = qs.length):(gps es qs).length = qs.length:=by simp [gps];omega
theorem gps_get {es:List (Option HV)} {qs:List Rat} {i:Nat} (h1:i < es.length) (h2:i < qs.length):(gps es qs)[i]? = some (gpc (qs.getD i 0) (es.getD i none)):=by
 unfold gps
 rw [List.getElem?_zipWith,List.getElem?_eq_getElem h1,List.getElem?_eq_getElem h2]
 simp [List.getD_eq_getElem?_getD,h1,h2]
theorem gps_set {e:Option HV} {q:Rat}:∀ {es:List (Option HV)} {qs:List Rat} {i:Nat},(gps es qs).set i (gpc q e) = gps (es.set i e) (qs.set i q)
 | [],qs,i=>by simp [gps]
 | a :: es,[],i=>by simp [gps]
 | a :: es,b :: qs,0=>by simp [gps]
 | a :: es,b :: qs,i + 1=>by
  have:=gps_set (e:=e) (q:=q) (es:=es) (qs:=qs) (i:=i)
  simpa [gps] using this
theorem gow_none (F:List Ch):∀ (N:Nat) (qs:List Rat),Im F (gow (List.replicate N none) qs :: F)
 | 0,qs=>bnd_nil F
 | N + 1,[]=>bnd_nil F
 | N + 1,q :: qs=>(gow_none F N qs).trans ((bnd_nil _).trans (bnd_cons (bnd []) (gps (List.replicate N none) qs) F))
theorem im_swap3 (a b c:Ch) (F:List Ch):Im (a :: b :: c :: F) (c :: a :: b :: F):=Im.perm (by
 have:([a,b] ++ c :: F).Perm (c :: ([a,b] ++ F)):=List.perm_middle
 exact this)
theorem gow_set {es:List (Option HV)} {qs:List Rat} (hl:es.length = qs.length) {i:Nat} (hi:i < qs.length) (q:Rat) (v1 v2:Value) {A F:List Ch} (hf:Fit A [own T64 v1 (Us (dg q.num.natAbs)),own T64 v2 (Us (dg q.den)),gow es qs] F):Im A (gow (es.set i (some (v1,v2))) (qs.set i q) :: F):=by
 refine Im.trans hf ?_
 show Im (own T64 v1 (Us (dg q.num.natAbs)) :: own T64 v2 (Us (dg q.den)) :: gow es qs :: F) _
 refine (im_swap3 _ _ _ F).trans ?_
 refine (bnd_take (gps_get (by omega) hi) _).trans ?_
 refine (Im.tail _ _).trans ?_
 refine (Im.perm (show List.Perm (bnd ((gps es qs).eraseIdx i) :: own T64 v1 (Us (dg q.num.natAbs)) :: own T64 v2 (Us (dg q.den)) :: F) ([own T64 v1 (Us (dg q.num.natAbs)),own T64 v2 (Us (dg q.den))] ++ bnd ((gps es qs).eraseIdx i) :: F) from (List.perm_middle (l₁:=[own T64 v1 (Us (dg q.num.natAbs)),own T64 v2 (Us (dg q.den))])).symm)).trans ?_
 refine (im_bnd [own T64 v1 (Us (dg q.num.natAbs)),own T64 v2 (Us (dg q.den))] _).trans ?_
 have:=bnd_put (C:=gps es qs) (i:=i) (gpc q (some (v1,v2))) (by rw [gps_len hl];exact hi) F
 rw [gps_set] at this
 exact this
theorem has_bndI {F C:List Ch} {c d:Ch} (h:Has F (bnd C)∨bnd C ∈ F) (hd:d ∈ C) (hc:Has [d] c):Has F c:=by
 have hP:∀ w,Sat F w→Sat C w:=fun w hw=>by
  rcases h with h | h
  ·exact h.P w hw
  ·exact hw.h _ h
 have hft:∀ b,fts C b→fts F b:=fun b hb=>by
  rcases h with h | h
  ·exact h.ft b (bnd_ft.2 hb)
  ·exact ⟨_,h,bnd_ft.2 hb⟩
 exact ⟨fun w hw=>hc.P w (Sat.one ((hP w hw).h d hd)),hc.wr,hc.rd,fun b hb=>by
  obtain ⟨x,hx,hf⟩:=hc.ft b hb
  obtain rfl:x = d:=by simpa using hx
  exact hft b ⟨x,hd,hf⟩⟩
structure Grd (n:Nat) (es:List (Option HV)) (qs:List Rat):Prop where
 el:es.length = (n + 1) * (n + 1)
 ql:qs.length = (n + 1) * (n + 1)
 z:∀ i,i < (n + 1) * (n + 1)→es.getD i none = none→qs.getD i 0 = 0
theorem has_gow {F:List Ch} {n:Nat} {es:List (Option HV)} {qs:List Rat} {z:HV} (hg:Grd n es qs) (h:gow es qs ∈ F) (hz1:Has F (vw z.1 (Us (dg (0:Rat).num.natAbs)))) (hz2:Has F (vw z.2 (Us (dg (0:Rat).den)))) {i:Nat} (hi:i < (n + 1) * (n + 1)) :
  Has F (vw ((hsE z es).getD i nS2).1 (Us (dg (qs.getD i 0).num.natAbs)))∧Has F (vw ((hsE z es).getD i nS2).2 (Us (dg (qs.getD i 0).den))):=by
 rw [hsE_get (by rw [hg.el];exact hi)]
 cases he:es.getD i none with
 | none=>
  rw [hg.z i hi he]
  exact ⟨hz1,hz2⟩
 | some p=>
  have h1:=gps_get (es:=es) (qs:=qs) (i:=i) (by rw [hg.el];exact hi) (by rw [hg.ql];exact hi)
  rw [he] at h1
  have h2:Has F (vw p.1 (Us (dg (qs.getD i 0).num.natAbs))):=has_bndI (.inr h) (List.mem_of_getElem? h1) (has_bndI (.inr (List.mem_singleton.2 rfl)) (List.Mem.head _) (has_own (List.mem_singleton.2 rfl)))
  have h3:Has F (vw p.2 (Us (dg (qs.getD i 0).den))):=has_bndI (.inr h) (List.mem_of_getElem? h1) (has_bndI (.inr (List.mem_singleton.2 rfl)) (List.Mem.tail _ (List.Mem.head _)) (has_own (List.mem_singleton.2 rfl)))
  exact ⟨h2,h3⟩
theorem has_vfr_of {F:List Ch}:∀ {hs:List HV} {qs:List Rat},hs.length = qs.length→(∀ i,i < qs.length→Has F (vw (hs.getD i nS2).1 (Us (dg (qs.getD i 0).num.natAbs)))∧Has F (vw (hs.getD i nS2).2 (Us (dg (qs.getD i 0).den))))→Has F (vfr hs qs)
 | [],[],_,_=>has_vfr_nil
 | [],_ :: _,h,_=>by simp at h
 | _ :: _,[],h,_=>by simp at h
 | (v1,v2) :: hs,q :: qs,h,H=>has_vfr_cons (H 0 (by simp)).1 (H 0 (by simp)).2 (has_vfr_of (by simpa using h) fun i hi=>by
  have:=H (i + 1) (by simpa using hi)
  simpa [List.getD_eq_getElem?_getD] using this)
theorem has_gvfr {F:List Ch} {n:Nat} {es:List (Option HV)} {qs:List Rat} {z:HV} (hg:Grd n es qs) (h:gow es qs ∈ F) (hz1:Has F (vw z.1 (Us (dg (0:Rat).num.natAbs)))) (hz2:Has F (vw z.2 (Us (dg (0:Rat).den)))):Has F (vfr (hsE z es) qs):=
 has_vfr_of (by rw [hsE_len,hg.el,hg.ql]) fun i hi=>has_gow hg h hz1 hz2 (by rw [hg.ql] at hi;exact hi)
theorem Grd.set {n:Nat} {es:List (Option HV)} {qs:List Rat} (h:Grd n es qs) {i:Nat} (hi:i < (n + 1) * (n + 1)) (q:Rat) (p:HV):Grd n (es.set i (some p)) (qs.set i q):=by
 refine ⟨by rw [List.length_set,h.el],by rw [List.length_set,h.ql],fun j hj he=>?_⟩
 rw [getD_setR _ _ _ _ (by rw [h.ql];exact hi)]
 by_cases e:j = i
 ·subst e
  have:(es.set j (some p)).getD j none = some p:=by rw [List.getD_eq_getElem?_getD,List.getElem?_set_self (by rw [h.el];exact hi)];rfl
  rw [this] at he;cases he
 ·rw [if_neg e]
  refine h.z j hj ?_
  rwa [List.getD_eq_getElem?_getD,List.getElem?_set_ne (Ne.symm e),← List.getD_eq_getElem?_getD] at he
theorem Grd.none (n:Nat):Grd n (List.replicate ((n + 1) * (n + 1)) none) (List.replicate ((n + 1) * (n + 1)) 0):=⟨by simp,by simp,fun i _ _=>getD_repl _ i⟩
structure SeqP (P:Program) (f:FuncId) (cap:Array Value) (U:Ch) (n:Nat) (qs:List Rat) (hs:List HV):Prop where
 run:∀ {α:Type} (V:Ch) [Lent V] (l:Nat) (J:α→Ch) (pl:α→Nat→Prop) (S:α→Prop) (a0:α),pl a0 0→(∀ a b,¬ (J a).bd b) →
  (∀ a i,pl a i→i < (n + 1) * (n + 1)→Ty P l [.agg #[I ((i / (n + 1):Nat):Int),I ((i % (n + 1):Nat):Int)],rv (qs.getD i 0) (hs.getD i nS2).1 (hs.getD i nS2).2] [V] [J a] fun ok B=>∃ a',B = [J a']∧((ok = true∧pl a' (i + 1))∨(ok = false∧S a'))) →
  Tr P f (yv l :: cap.toList) [V,U] [J a0] fun _ B=>∃ a,B = [J a]∧(pl a ((n + 1) * (n + 1))∨S a)
abbrev gV (n:Nat) (v:Value):Value:=.agg #[I (n:Int),v]
theorem rcs_setE {n:Nat} {z:HV} {es:List (Option HV)} {qs:List Rat} (h:Grd n es qs) {i:Nat} (hi:i < (n + 1) * (n + 1)) (q:Rat) (p:HV):(rcs qs (hsE z es)).take (3 * i) ++ rrow q p ++ (rcs qs (hsE z es)).drop (3 * i + 3) = rcs (qs.set i q) (hsE z (es.set i (some p))):=by
 rw [rcs_set (by rw [hsE_len,h.el,h.ql]) (by rw [h.ql];exact hi),hsE_set]
attribute [local irreducible] Fit pt own ro vw mpc lpt vels rels mow lrc dfr
attribute [local irreducible] lmp lme mit velg relg bnd owl dfrl gow
abbrev TGr:TypeId:=80
theorem whole_tr (x:Nat) (hx:x < 9223372036854775808):Tr Tryz.prog 58 [I x] [] [] (FQ (mkRat x 1)):=by
 have hP:=FPair_tr x 1 hx (by decide) (by decide)
 unfold FQ2 at hP
 unfold FQ
 have e1:((1:Nat):Int) = 1:=rfl
 rw [e1] at hP
 generalize mkRat (x:Int) 1 = q at *
 refine Tr.enter env _ Tryz.func58 (by kernel_rfl) rfl Tryz.ntmps58 rfl (by repeat (first | exact has00 | refine has01 ?_)) fun w0=>?_
 repeat' first|(refine gca ?_;first|(refine ca hP ?_;rintro _ _ ⟨vn,vd,rfl,hvn,hvd,rfl⟩))|refine al fun c=>?_|refine srz ?_|refine lda ?_|(refine wo ?_;first|refine oa ?_)|refine sq ?_|refine rg ?_|refine xc ?_|refine nl ?_|refine rt ?_
 exact rca1 (cs:=[.bool (decide (q.num < 0)),vn,vd]) (vs:=[.bool (decide (q.num < 0)),vn,vd]) (T:=TRt) ⟨vn,vd,rfl,hvn,hvd,rfl⟩
theorem some_tr (q:Rat) (v1 v2:Value) (h1:v1.oneCell' = true) (hB:(dg q.num.natAbs).length ≤ 1099511627776):Tr Tryz.prog 68 [rv q v1 v2] [vw v1 (Us (dg q.num.natAbs))] [] fun u D=>u = .bool (decide (q ≠ 0))∧D = []:=by
 have hS:=ISign_tr q.num v1 h1 hB
 have he:(!decide (q.num.sign = 0)) = decide (q ≠ 0):=by
  by_cases h:q = 0
  ·subst h;rfl
  ·have h2:q.num.sign ≠ 0:=fun e=>h (Rat.num_eq_zero.1 (Int.sign_eq_zero_iff_zero.1 e))
   rw [decide_eq_false h2,decide_eq_true h];rfl
 rw [← he]
 unfold iv at hS
 show Tr _ _ [.agg #[.bool (decide (q.num < 0)),v1,v2]] _ _ _
 clear he hB
 generalize q.num.sign = s at *
 generalize dg q.num.natAbs = l at *
 generalize decide (q.num < 0) = b at *
 refine Tr.enter env _ Tryz.func68 (by kernel_rfl) rfl Tryz.ntmps68 rfl (by repeat (first | exact has00 | refine has01 ?_)) fun w0=>?_
 repeat' first|(refine gca ?_;first|(refine ca hS ?_;rintro _ _ ⟨rfl,rfl⟩))|refine bx fun b1=>?_|refine lda (vs:=[.bool b,v1]) ?_|(refine wo ?_;first|(refine ao ?_;first|refine oa ?_)|refine oa ?_)|refine sq ?_|refine rg ?_|refine xc ?_|refine nl ?_|refine rt ?_
 exact r1 ⟨rfl,rfl⟩
theorem gat_tr (n:Nat) (v:Value) (xs:List Value) (i k:Nat) (hv:v.oneCell' = true) (hn:n ≤ 12) (hi:i ≤ n) (hk:k ≤ n):Tr Tryz.prog 169 [gV n v,I i,I k] [vwf v ((n + 1) * (n + 1)) xs] [] fun u D=>u = .pointer (some (adr v (3 * (i * (n + 1) + k))))∧D = []:=by
 have h1:(i:Int) * ((n:Int) + 1) = ((i * (n + 1):Nat):Int):=by push_cast;rfl
 have h2:=place_lt hi hk
 have h3:i * (n + 1) ≤ 12 * 13:=Nat.mul_le_mul (by omega) (by omega)
 have h4:(((i * (n + 1):Nat):Int) + (k:Int)) = ((i * (n + 1) + k:Nat):Int):=by push_cast;rfl
 have h5:(((i * (n + 1) + k:Nat):Int)).toNat = i * (n + 1) + k:=Int.toNat_natCast _
 generalize i * (n + 1) = m at *
 generalize (n + 1) * (n + 1) = N at *
 refine Tr.enter env _ Tryz.func169 (by kernel_rfl) rfl Tryz.ntmps169 rfl (by repeat (first | exact has00 | refine has01 ?_)) fun w0=>?_
 repeat' first|refine bx fun b1=>?_|(refine aw (m:=(m:Int)) ?_ (h:=by rw [← h1];rfl))|(refine ixws (i:=((m + k:Nat):Int)) (N:=N) (xs:=xs) ?_;rw [h5])|(refine wo ?_;first|(refine ao ?_;first|refine aw ?_)|refine oa ?_|refine ld ?_)|refine sq ?_|refine rg ?_|refine xc ?_|refine nl ?_|refine rt ?_
 exact r1 ⟨rfl,rfl⟩
end Go.Art
namespace Go.Art
open Go Go.Proofs Go.RowKit
theorem grid_row {n:Nat} {hs:List HV} {qs:List Rat} (h1:hs.length = qs.length) (h2:qs.length = (n + 1) * (n + 1)) {i:Nat} (hi:i < (n + 1) * (n + 1)):((rcs qs hs).drop (3 * i)).take 3 = rrow (qs.getD i 0) (hs.getD i nS2):=rcs_row h1 (by rw [h2];exact hi)
attribute [local irreducible] Fit pt own ro vw mpc lpt vels rels mow lrc dfr
attribute [local irreducible] lmp lme mit velg relg bnd owl dfrl gow
theorem made_tr (n N:Nat) (q:Rat) (z1 z2:Value) (h1:z1.oneCell' = true) (h2:z2.oneCell' = true) (hN:(n + 1) * (n + 1) = N) (hn:n ≤ 12):Tr Tryz.prog 166 [I n,rv q z1 z2] [] []
  fun u D=>∃ v,u = gV n v∧v.oneCell' = true∧D = [oww TRt 3 v N (rcs (List.replicate N q) (List.replicate N (z1,z2)))]:=by
 have hNi:((n:Int) + 1) * ((n:Int) + 1) = (N:Int):=by rw [← hN];push_cast;rfl
 have hNb:N ≤ 169:=by rw [← hN];exact Nat.mul_le_mul (show n + 1 ≤ 13 by omega) (show n + 1 ≤ 13 by omega)
 have hrep:∀ i m,(rcs (List.replicate i q) (List.replicate i (z1,z2)) ++ zrs (m + 1)).take (3 * i) ++ rrow q (z1,z2) ++ (rcs (List.replicate i q) (List.replicate i (z1,z2)) ++ zrs (m + 1)).drop (3 * i + 3) = rcs (List.replicate (i + 1) q) (List.replicate (i + 1) (z1,z2)) ++ zrs m:=fun i m=>by
  have:=rcs_fill (qs:=List.replicate i q) (hs:=List.replicate i (z1,z2)) (by simp) m q (z1,z2)
  rw [List.length_replicate] at this
  rw [this,List.replicate_succ',List.replicate_succ']
 have hr0:rcs (List.replicate 0 q) (List.replicate 0 (z1,z2)) = []:=rfl
 refine Tr.enter env _ Tryz.func166 (by kernel_rfl) rfl Tryz.ntmps166 rfl (by repeat (first | exact has00 | refine has01 ?_)) fun w0=>?_
 repeat' first|refine bx fun b=>?_|refine al fun c=>?_|(refine aw (m:=(N:Int)) ?_ (h:=by rw [← hNi];rfl))|(refine mkw (sz:=3) (c:=(N:Int)) (fun v hv=>?_);rw [Int.toNat_natCast,zrs_eq])|refine bdm ?_|refine srz ?_|refine lnw (N:=N) (xs:=zrs N) ?_ (hm:=has_oww memA)|(refine wo ?_;first|(refine ao ?_;first|refine aw ?_)|refine oa ?_|refine ld ?_)|refine sq ?_|refine rg ?_|refine xc ?_|refine nl ?_|refine bk ?_
 rename_i c4
 refine TC.loop (ι:=Nat) (fun i=>[(18,I i)]) (fun i=>[oww TRt 3 v N (rcs (List.replicate i q) (List.replicate i (z1,z2)) ++ zrs (N - i))]) (fun i=>i ≤ N) (fun i=>N - i) 0 [3,4,5,17] (Nat.zero_le _) ?_ (hf:=by rw [hr0,List.nil_append,Nat.sub_zero];exact fitA)
 rintro i hi
 by_cases hlt:i < N
 ·obtain ⟨m,hm⟩ : ∃ m,N - i = m + 1:=⟨N - i - 1,by omega⟩
  have hr:=hrep i m
  rw [hm]
  repeat' first|refine lda (cs:=rrow q (z1,z2)) ?_|refine ixws (i:=(i:Int)) (N:=N) (xs:=rcs (List.replicate i q) (List.replicate i (z1,z2)) ++ zrs (m + 1)) ?_ (hm:=has_oww memA)|refine sow (sz:=3) (m:=3 * i) (N:=N) (xs:=rcs (List.replicate i q) (List.replicate i (z1,z2)) ++ zrs (m + 1)) (vs:=rrow q (z1,z2)) (by omega) ?_ (h1:=one_cons rfl (one_cons h1 (one_cons h2 one_nil)))|(refine wo ?_;first|(refine ao ?_;first|refine aw ?_|refine oa ?_)|refine oa ?_|refine ld ?_)|(refine gc ?_;first|(refine ci (fun hB=>?_) (fun hB=>?_) <;> try (exfalso;omega)))|refine sq ?_|refine rg ?_|refine xc ?_|refine nl ?_|refine sk ?_|refine bk ?_|refine xb ?_
  rw [hr]
  exact lp (i + 1) hlt (hf:=by rw [show N - (i + 1) = m by omega];exact fitA)
 ·obtain rfl:i = N:=by omega
  rw [Nat.sub_self,zrs_zero,List.append_nil]
  repeat' first|refine lda (cs:=[I n,v]) ?_|refine srz ?_|(refine wo ?_;first|(refine ao ?_;first|refine oa ?_))|(refine gc ?_;first|(refine ci (fun hB=>?_) (fun hB=>?_) <;> try (exfalso;omega)))|refine sq ?_|refine rg ?_|refine xc ?_|refine nl ?_|refine xe ?_|refine rt ?_
  exact rca1 (b:=c4) (cs:=[I n,v]) (vs:=[I n,v]) (T:=TGr) ⟨v,rfl,hv,rfl⟩
theorem places_tr (n:Nat) (v:Value) (hv:v.oneCell' = true):Tr Tryz.prog 59 [gV n v] [] [] fun u D=>∃ b,u = .func (.func 108) #[] #[ptr b]∧D = [pt b [I n,v] TGr]:=by
 refine Tr.enter env _ Tryz.func59 (by kernel_rfl) rfl Tryz.ntmps59 rfl (by repeat (first | exact has00 | refine has01 ?_)) fun w0=>?_
 repeat' first|refine bx fun b=>?_|(refine wo ?_;first|refine oa ?_)|refine sq ?_|refine rg ?_|refine xc ?_|refine nl ?_|refine rt ?_
 exact r1 ⟨_,rfl,rfl⟩
theorem places1_seq (b n:Nat) (v:Value) (qs:List Rat) (hs:List HV) (hl:hs.length = qs.length) (hq:qs.length = (n + 1) * (n + 1)) (hn:n ≤ 12) (ho:∀ i,i < qs.length→(hs.getD i nS2).1.oneCell' = true∧(hs.getD i nS2).2.oneCell' = true) :
  SeqP Tryz.prog 108 #[ptr b] (lbd [lpt b [I n,v] TGr,vwf v ((n + 1) * (n + 1)) (rcs qs hs)]) n qs hs:=by
 refine ⟨fun {α} V hV l J pl S a0 h0 hnb hy=>?_⟩
 haveI:=hV
 haveI:∀ a,NoB (J a):=fun a=>⟨hnb a⟩
 refine Tr.pre (pre:=[V,lpt b [I n,v] TGr,vwf v ((n + 1) * (n + 1)) (rcs qs hs)]) ?_ (has1 (has_mem (by simp)) (has_lbds (C:=[lpt b [I n,v] TGr,vwf v ((n + 1) * (n + 1)) (rcs qs hs)]) (by simp) _ (by repeat (first | exact has00 | refine has01 ?_)) fun c hc=>hc)) (by repeat (first | exact has00 | refine has01 ?_))
 have hrow:=fun i (hi:i < (n + 1) * (n + 1))=>grid_row (i:=i) hl hq hi
 have hNb:(n + 1) * (n + 1) ≤ 169:=Nat.mul_le_mul (show n + 1 ≤ 13 by omega) (show n + 1 ≤ 13 by omega)
 rw [hq] at ho
 obtain ⟨N,hN⟩ : ∃ N,N = (n + 1) * (n + 1):=⟨_,rfl⟩
 simp only [← hN] at hy hrow hNb ho ⊢
 clear hN
 generalize rcs qs hs = xs at *
 refine Tr.enter env _ Tryz.func108 (by kernel_rfl) rfl Tryz.ntmps108 rfl (by repeat (first | exact has00 | refine has01 ?_)) fun w0=>?_
 repeat' first|refine lnw (N:=N) (xs:=xs) ?_|(refine wo ?_;first|refine oa ?_|refine ldl ?_)|refine sq ?_|refine rg ?_|refine xc ?_|refine nl ?_|refine bk ?_
 refine TC.loop (ι:=InS α) (fun g=>[(8,I g.i)]) (fun g=>[J g.a]) (fun g=>g.i ≤ N∧pl g.a g.i) (fun g=>N - g.i) ⟨0,a0⟩ [0,1,6,7] ⟨Nat.zero_le _,h0⟩ ?_
 rintro ⟨i,a⟩ ⟨hi,ha⟩
 dsimp only at hi ha ⊢
 by_cases hlt:i < N
 ·have hr:=hrow i hlt
  have hyi:=hy a i ha hlt
  have ho1:=ho i hlt
  have d1:(i:Int) / ((n + 1:Nat):Int) = ((i / (n + 1):Nat):Int):=(Int.natCast_ediv _ _).symm
  have d2:(i:Int) % ((n + 1:Nat):Int) = ((i % (n + 1):Nat):Int):=(Int.natCast_emod _ _).symm
  clear hrow hy ho
  generalize i / (n + 1) = c at *
  generalize i % (n + 1) = r at *
  generalize qs.getD i 0 = q at *
  generalize hs.getD i nS2 = h at *
  obtain ⟨x1,x2⟩:=h
  dsimp only at ho1 hyi
  obtain ⟨ho1,ho2⟩:=ho1
  repeat' first|refine ixws (i:=(i:Int)) (N:=N) (xs:=xs) ?_|refine ldaw (N:=N) (xs:=xs) (m:=3 * i) hr ?_|refine al fun c4=>?_|refine srz ?_ (hj:=Nat.le_of_ble_eq_true rfl)|(refine wo ?_;first|(refine ao ?_;first|refine oa ?_)|refine oa ?_)|(refine gc ?_;first|(refine ci (fun hB=>?_) (fun hB=>?_) <;> try (exfalso;omega)))|refine sq ?_|refine rg ?_|refine xc ?_|refine nl ?_|refine sk ?_|refine bk ?_
  refine rs (fun w=>w.heap[b]? = some (.cells [I n,v].toArray TGr (0,0))∧w.heap[c4]? = some (.cells (rrow q (x1,x2)).toArray TRt (0,0))) ?_ (fun w hw=>⟨lpt_at memA hw,pt_at memA hw⟩)
  refine tka 0 ?_
  refine tka 1 ?_
  refine tka 2 ?_
  refine tkl 3 (cs:=[I n,v]) (fun w h=>h.1) ?_
  refine tkw 4 ((n + 1:Nat):Int) ?_
  refine tke 5 (v:=I c) (by rw [d1]) (fun w _=>R_quo64 (m:=(i:Int)) (q:=((n + 1:Nat):Int)) rfl rfl (by omega)) ?_
  refine tka 6 ?_
  refine tka 7 ?_
  refine tkl 8 (cs:=[I n,v]) (fun w h=>h.1) ?_
  refine tkw 9 ((n + 1:Nat):Int) ?_
  refine tke 10 (v:=I r) (by rw [d2]) (fun w _=>R_rem64 (m:=(i:Int)) (q:=((n + 1:Nat):Int)) rfl rfl (by omega)) ?_
  refine tk 11 (v:=.agg #[I c,I r]) (fun w h=>R_buildArr (E:=env) rfl rfl rfl rfl rfl) ?_
  refine tk 12 (v:=.agg (rrow q (x1,x2)).toArray) (fun w h=>R_loadA (E:=env) (vs:=rrow q (x1,x2)) rfl rfl rfl rfl h.2 rfl rfl) ?_
  refine t1 13 ?_
  refine cy hyi ?_ (hp:=has1 (has_mem memA) has0)
  rintro ok _ ⟨a2,rfl,h3⟩
  refine nl ?_
  refine te (fun w hw=>⟨lpt_at memA hw,pt_at memA hw⟩) ?_
  refine tka 14 ?_
  refine t0 ?_
  rcases h3 with ⟨rfl,h3⟩ | ⟨rfl,h3⟩
  ·repeat' first|(refine wo ?_;first|(refine ao ?_;first|refine aw ?_)|refine oa ?_)|(refine gc ?_;first|refine cf ?_)|refine rg ?_|refine xc ?_|refine nl ?_|refine sk ?_|refine xb ?_
   exact lp ⟨i + 1,a2⟩ ⟨hlt,h3⟩
  ·repeat' first|(refine gc ?_;first|refine ct ?_)|refine xc ?_|refine rt ?_
   exact r0 ⟨a2,rfl,.inr h3⟩
 ·obtain rfl:i = N:=by omega
  repeat' first|(refine wo ?_;first|(refine ao ?_;first|refine oa ?_))|(refine gc ?_;first|(refine ci (fun hB=>?_) (fun hB=>?_) <;> try (exfalso;omega)))|refine sq ?_|refine rg ?_|refine xc ?_|refine nl ?_|refine xe ?_
  exact e0 ⟨a,rfl,.inl ha⟩
end Go.Art
namespace Go.Art
open Go Go.Proofs Go.RowKit
def pows (p:Rat) (i:Nat):List Rat:=(List.range (i + 1)).map fun j=>p ^ j
theorem pows_len (p:Rat) (i:Nat):(pows p i).length = i + 1:=by simp [pows]
theorem pows_get {p:Rat} {i j:Nat} (h:j ≤ i):(pows p i).getD j 0 = p ^ j:=by simp [pows,List.getD_eq_getElem?_getD,Nat.lt_succ_of_le h]
theorem pows_succ (p:Rat) (i:Nat):pows p (i + 1) = pows p i ++ [p ^ (i + 1)]:=by unfold pows;rw [List.range_succ,List.map_append];rfl
theorem pows_zero (p:Rat):pows p 0 = [1]:=by simp [pows,Rat.pow_zero]
structure Hole (C:Value→List Value) (w:Nat):Prop where
 get:∀ a,(C a)[w]? = some a
 set:∀ a b,SetAt b (C a) w (C b)
theorem hole0 (b:Value):Hole (fun a=>[a,b]) 0:=⟨fun _=>rfl,fun _ _=>.z _ _⟩
theorem hole1 (b:Value):Hole (fun a=>[b,a]) 1:=⟨fun _=>rfl,fun _ _=>.s _ (.z _ _)⟩
structure PwG where
 i:Nat
 a:Value
 hs:List HV
section
variable {P:Program} {E:Env P} {n:Sh} {X:Cx} {s:List K} {fr:Fr} {A A':List Ch} {ops:Array Oper} {rest:List Oper} {d:Nat} {ty t t' el:TypeId} {pos:String} {after:Array Edge} {z v u:Value} {x y:Operand} {b j k sz by_ N:Nat} {w:World} {xs:List Value}
theorem R_ixa {m:Nat} {i:Int} {k1:IntKind} (ht:lk E.und t = some (.array m el)) (he:lk E.inf el = some (z,1,by_)) (hx:ev fr x = some (ptr b)) (hy:ev fr y = some (.int k1 i)) (h:0 ≤ i∧i < m) :
  OpV P n fr (.indexAddr t x y) ty w (.pointer (some ⟨b,i.toNat,none⟩)) w:=⟨fun a ha _ _ _ _=>by
 obtain ⟨inf,hi,_,hsz,_⟩:=E.info he
 simp only [execOp,ha.ev hx,ha.ev hy]
 simp [Instr.indexAt,asIntOf,run_underlying (P:=P) (E.un ht) w,h,sizeOf,typeInfo,hi,hsz,Instr.sureAddr,Addr.add_lit]⟩
theorem ixa {m:Nat} {i:Int} {k1:IntKind} (k:TO E n X s ops rest ((d,.pointer (some ⟨b,i.toNat,none⟩)) :: fr) A) (hx:ev fr x = some (ptr b):=by rfl) (hy:ev fr y = some (.int k1 i):=by rfl) (hb:0 ≤ i∧i < m:=by omega)
  (ht:lk E.und t = some (.array m el):=by rfl) (he:lk E.inf el = some (z,1,by_):=by rfl) (hd:Nat.blt d n.n = true:=by rfl):TO E n X s ops (⟨some d,.indexAddr t x y,ty,pos,after,none⟩ :: rest) fr A:=TO.val (fun w _=>R_ixa ht he hx hy hb) k hd
theorem R_lenW (ht:lk E.und t = some (.slice el)) (hx:ev fr x = some v) (hm:SlW w v N xs):OpV P n fr (.call ⟨.builtin .len,#[x],#[t]⟩) ty w (I N) w:=⟨fun a ha _ _ _ _=>by
 obtain ⟨_,cap,rfl,_⟩:=hm
 simp only [execOp,resolve]
 simp [ha.ev hx,invoke,builtin,Builtin.len_,run_underlying (P:=P) (E.un ht) w,goInt]⟩
end
attribute [local irreducible] Fit pt own ro vw mpc lpt vels rels mow lrc dfr
attribute [local irreducible] lmp lme mit velg relg bnd owl dfrl gow
abbrev TPw:TypeId:=223
abbrev TPf:TypeId:=224
theorem power_tr (C:Value→List Value) (w m:Nat) (hC:Hole C w) (hw:w < 2) (p:Rat) (v1 v2:Value) (h1:v1.oneCell' = true) (h2:v2.oneCell' = true) (pw i0:Nat) (a0:Value) (hs0:List HV) (ha0:a0.oneCell' = true) (hl0:hs0.length = i0 + 1) (hm:m ≤ 12) (hi0:i0 ≤ 12) (hB:∀ j,j ≤ 13→FB (p ^ j) 8589934592) :
  Tr Tryz.prog 214 [I w,I m,rv p v1 v2,ptr pw] [vw v1 (Us (dg p.num.natAbs)),vw v2 (Us (dg p.den))] [pt pw (C a0) TPw,oww TRt 3 a0 (i0 + 1) (rcs (pows p i0) hs0),ofr hs0 (pows p i0)]
  fun u D=>∃ i a hs,u = rv (p ^ m) (hs.getD m nS2).1 (hs.getD m nS2).2∧a.oneCell' = true∧hs.length = i + 1∧m ≤ i∧i ≤ 12∧D = [pt pw (C a) TPw,oww TRt 3 a (i + 1) (rcs (pows p i) hs),ofr hs (pows p i)]:=by
 have hFp:FB p 8589934592:=by have:=hB 1 (by decide);rwa [show p ^ 1 = p by rw [Rat.pow_succ,Rat.pow_zero,Rat.one_mul]] at this
 refine Tr.enter env _ Tryz.func214 (by kernel_rfl) rfl Tryz.ntmps214 rfl (by repeat (first | exact has00 | refine has01 ?_)) fun w0=>?_
 repeat' first|refine bx fun c6=>?_|refine al fun c7=>?_|refine sq ?_|refine rg ?_|refine xc ?_|refine nl ?_|refine bk ?_
 refine TC.loop (ι:=PwG) (fun _=>[]) (fun g=>[pt pw (C g.a) TPw,oww TRt 3 g.a (g.i + 1) (rcs (pows p g.i) g.hs),ofr g.hs (pows p g.i)]) (fun g=>g.a.oneCell' = true∧g.hs.length = g.i + 1∧g.i ≤ 12) (fun g=>m - g.i) ⟨i0,a0,hs0⟩ [0,1,3,6,7] ⟨ha0,hl0,hi0⟩ ?_
 rintro ⟨i,a,hs⟩ ⟨ha,hl,hi⟩
 dsimp only at ha hl hi ⊢
 have hpl:=pows_len p i
 have hlq:hs.length = (pows p i).length:=by rw [hpl,hl]
 have hget:=hC.get a
 by_cases hlt:i < m
 ·have hrow:=rcs_row hlq (i:=i) (by omega)
  rw [pows_get (Nat.le_refl i)] at hrow
  have hfr:=fun (F:List Ch) (h:ofr hs (pows p i) ∈ F)=>has_fr (has_ofr hlq h) hlq (i:=i) (by omega)
  rw [pows_get (Nat.le_refl i)] at hfr
  have hMul:=fun lv n1 d1=>FMul2_tr (p ^ i) p lv n1 d1 v1 v2 (hB i (by omega)) hFp
  rw [← Rat.pow_succ] at hMul
  have hps:=pows_succ p i
  have hra:=fun h=>rcs_app (qs:=pows p i) (rs:=[p ^ (i + 1)]) (hs:=hs) (gs:=[h]) hlq
  simp only [← hps,rcs_one] at hra
  unfold FQ2 at hMul
  generalize hs.getD i nS2 = h at *
  obtain ⟨x1,x2⟩:=h
  dsimp only at hfr
  repeat' first|(refine ixa (m:=2) (i:=(w:Int)) ?_;rw [Int.toNat_natCast])|refine ld (cs:=C a) (j:=w) ?_ (hj:=hget)|refine lnw (N:=i + 1) (xs:=rcs (pows p i) hs) ?_ (hm:=has_oww memA)|(refine wo ?_;first|(refine ao ?_;first|refine oa ?_)|refine oa ?_)|(refine gc ?_;first|(refine ci (fun hB=>?_) (fun hB=>?_) <;> try (exfalso;omega)))|refine sq ?_|refine rg ?_|refine xc ?_|refine nl ?_|refine sk ?_|refine bk ?_
  refine cutY (ι:=Nat × HV) (fun g=>g.2.1.oneCell' = true∧g.2.2.oneCell' = true) (fun g=>[(0,I w),(1,I m),(3,ptr pw),(6,ptr c6),(7,ptr c7),(8,ptr g.1)]) (fun g=>[pt g.1 (rrow (p ^ (i + 1)) (g.2.1,g.2.2)) TRt,own T64 g.2.1 (Us (dg (p ^ (i + 1)).num.natAbs)),own T64 g.2.2 (Us (dg (p ^ (i + 1)).den)),pt pw (C a) TPw,oww TRt 3 a (i + 1) (rcs (pows p i) hs),ofr hs (pows p i),pt c7 [.bool false,nS,nS] TRt,pt c6 (rrow p (v1,v2)) TRt,vw v1 (Us (dg p.num.natAbs)),vw v2 (Us (dg p.den))]) ?_ ?_
  ·rintro ⟨c8,n3,d3⟩ ⟨hn3,hd3⟩
   dsimp only at hn3 hd3 ⊢
   repeat' first|(refine wo ?_;first|(refine ao ?_;first|refine aw ?_|refine aw6 ?_|refine oa ?_|refine adiv ?_|refine amod ?_|refine shr1 ?_|refine shr ?_|refine umod ?_|refine isl ?_|refine ipe ?_|refine ipn ?_|refine ibe ?_)|refine acw ?_|refine ucv ?_|refine anw ?_|refine oa ?_|refine ld ?_|refine ldl ?_|refine lnm ?_|refine ixmn ?_|refine ixm ?_|refine li ?_|refine lb ?_|refine lv ?_|refine ln ?_|refine ixn ?_|refine ix ?_|refine le ?_|refine sr ?_|refine soi ?_|refine sob ?_|refine scm ?_|refine sclm ?_|refine schm ?_|refine gy ?_|refine gn ?_|refine gnn ?_|refine gu ?_|(refine gsi (fun hB=>?_) (fun hB=>?_) <;> try (exfalso;omega))|(refine gsn (fun hB=>?_) (fun hB=>?_) <;> try (exfalso;omega))|(refine gs (fun hB=>?_) (fun hB=>?_) <;> try (exfalso;omega)))|(refine gc ?_;first|refine ct ?_|refine cf ?_|(refine ci (fun hB=>?_) (fun hB=>?_) <;> try (exfalso;omega))|(refine cn (fun hB=>?_) (fun hB=>?_) <;> try (exfalso;omega))|(refine cb (fun hB=>?_) (fun hB=>?_) <;> try (exfalso;omega)))|refine sq ?_|refine rg ?_|refine xc ?_|refine nl ?_|refine sk ?_|refine bk ?_|refine xe ?_|refine rt ?_|refine xb ?_
   refine rs (fun w'=>w'.heap[c8]? = some (.cells (rrow (p ^ (i + 1)) (n3,d3)).toArray TRt (0,0))) ?_ (fun w' hw=>pt_at memA hw)
   refine tka 0 ?_
   refine tka 1 ?_
   refine tk 2 (v:=.pointer (some ⟨pw,w,none⟩)) (fun w' h=>R_ixa (E:=env) (m:=2) (i:=(w:Int)) rfl rfl rfl rfl ⟨by omega,by omega⟩) ?_
   refine tk 4 (v:=.agg (rrow (p ^ (i + 1)) (n3,d3)).toArray) (fun w' h=>R_loadA (E:=env) (vs:=rrow (p ^ (i + 1)) (n3,d3)) rfl rfl rfl rfl h rfl rfl) ?_
   refine t2 3 5 ?_ ?_
   ·refine ld (cs:=C a) (j:=w) ?_ (hj:=hget)
    refine nl ?_
    refine te (fun w' hw=>pt_at memA hw) ?_
    refine t1 5 ?_
    refine slws (sz:=3) (xs:=rrow (p ^ (i + 1)) (n3,d3)) fun g3=>?_
    refine nl ?_
    refine te (fun w' hw=>pt_at memA hw) ?_
    refine t1 6 ?_
    refine apw (sz:=3) (M:=1) (N:=i + 1) (xs:=rcs (pows p i) hs) (ys:=rrow (p ^ (i + 1)) (n3,d3)) (by decide) rfl (one_cons rfl (one_cons hn3 (one_cons hd3 one_nil))) (fun o2 ho2=>?_) (hu:=has_oww memA)
    refine nl ?_
    refine te (fun w' hw=>pt_at memA hw) ?_
    refine tk 7 (v:=.pointer (some ⟨pw,w,none⟩)) (fun w' h=>R_ixa (E:=env) (m:=2) (i:=(w:Int)) rfl rfl rfl rfl ⟨by omega,by omega⟩) ?_
    refine t1 8 ?_
    refine sr (cs:=C a) (cs':=C o2) ?_ (hs:=hC.set a o2)
    refine nl ?_
    refine te (fun w' hw=>pt_at memA hw) ?_
    refine t0 ?_
    repeat' first|refine xb ?_
    refine TX.im (ofr_snoc hlq (p ^ (i + 1)) n3 d3 fitA) ?_
    rw [← hps,← hra]
    exact lp ⟨i + 1,o2,hs ++ [(n3,d3)]⟩ ⟨ho2,by simp [hl],(by omega:i + 1 ≤ 12)⟩
   ·refine slws (sz:=3) (xs:=rrow (p ^ (i + 1)) (n3,d3)) fun g3=>?_
    refine nl ?_
    refine te (fun w' hw=>pt_at memA hw) ?_
    refine t1 3 ?_
    refine ld (cs:=C a) (j:=w) ?_ (hj:=hget)
    refine nl ?_
    refine te (fun w' hw=>pt_at memA hw) ?_
    refine t1 6 ?_
    refine apw (sz:=3) (M:=1) (N:=i + 1) (xs:=rcs (pows p i) hs) (ys:=rrow (p ^ (i + 1)) (n3,d3)) (by decide) rfl (one_cons rfl (one_cons hn3 (one_cons hd3 one_nil))) (fun o2 ho2=>?_) (hu:=has_oww memA)
    refine nl ?_
    refine te (fun w' hw=>pt_at memA hw) ?_
    refine tk 7 (v:=.pointer (some ⟨pw,w,none⟩)) (fun w' h=>R_ixa (E:=env) (m:=2) (i:=(w:Int)) rfl rfl rfl rfl ⟨by omega,by omega⟩) ?_
    refine t1 8 ?_
    refine sr (cs:=C a) (cs':=C o2) ?_ (hs:=hC.set a o2)
    refine nl ?_
    refine te (fun w' hw=>pt_at memA hw) ?_
    refine t0 ?_
    repeat' first|refine xb ?_
    refine TX.im (ofr_snoc hlq (p ^ (i + 1)) n3 d3 fitA) ?_
    rw [← hps,← hra]
    exact lp ⟨i + 1,o2,hs ++ [(n3,d3)]⟩ ⟨ho2,by simp [hl],(by omega:i + 1 ≤ 12)⟩
  ·intro b' kb
   refine rs (fun w'=>w'.heap[pw]? = some (.cells (C a).toArray TPw (0,0))∧SlW w' a (i + 1) (rcs (pows p i) hs)∧w'.heap[c6]? = some (.cells (rrow p (v1,v2)).toArray TRt (0,0))) ?_ (fun w' hw=>⟨pt_at memA hw,(has_oww (e:=TRt) (sz:=3) (v:=a) (n:=i + 1) (xs:=rcs (pows p i) hs) memA).P w' hw,pt_at memA hw⟩)
   refine tka 0 ?_
   refine tk 1 (v:=.pointer (some ⟨pw,w,none⟩)) (fun w' h=>R_ixa (E:=env) (m:=2) (i:=(w:Int)) rfl rfl rfl rfl ⟨by omega,by omega⟩) ?_
   refine tkl 2 (cs:=C a) (v:=a) (fun w' h=>h.1) ?_ (hj:=hget)
   refine tka 3 ?_
   refine tk 4 (v:=.pointer (some ⟨pw,w,none⟩)) (fun w' h=>R_ixa (E:=env) (m:=2) (i:=(w:Int)) rfl rfl rfl rfl ⟨by omega,by omega⟩) ?_
   refine tkl 5 (cs:=C a) (v:=a) (fun w' h=>h.1) ?_ (hj:=hget)
   refine tk 6 (v:=I ((i + 1:Nat):Int)) (fun w' h=>R_lenW (E:=env) rfl rfl h.2.1) ?_
   refine tkw 7 (i:Int) ?_
   refine tk 8 (v:=.pointer (some (adr a (3 * i)))) (fun w' h=>R_idxW (E:=env) (i:=(i:Int)) rfl rfl rfl rfl h.2.1 ⟨by omega,by omega⟩) ?_
   refine tk 9 (v:=.agg (rrow (p ^ i) (x1,x2)).toArray) (fun w' h=>R_loadW (E:=env) rfl rfl rfl rfl h.2.1 hrow rfl) ?_
   refine tk 10 (v:=.agg (rrow p (v1,v2)).toArray) (fun w' h=>R_loadA (E:=env) (vs:=rrow p (v1,v2)) rfl rfl rfl rfl h.2.2 rfl rfl) ?_
   refine t2 11 16 ?_ ?_
   ·refine slws (sz:=3) (xs:=rrow (p ^ i) (x1,x2) ++ rrow p (v1,v2)) fun g2=>?_
    refine nl ?_
    refine te (fun w' hw=>⟨pt_at memA hw,(has_oww (e:=TRt) (sz:=3) (v:=a) (n:=i + 1) (xs:=rcs (pows p i) hs) memA).P w' hw,pt_at memA hw⟩) ?_
    refine t2 12 16 ?_ ?_
    ·refine ca (hMul _ x1 x2) ?_ (hp:=has1 (has_oww memA) (has1 (hfr _ memA).1 (has1 (hfr _ memA).2 (has1 hasA (has1 hasA has0)))))
     rintro _ _ ⟨n3,d3,rfl,hn3,hd3,rfl⟩
     refine nl ?_
     refine te (fun w' hw=>⟨pt_at memA hw,(has_oww (e:=TRt) (sz:=3) (v:=a) (n:=i + 1) (xs:=rcs (pows p i) hs) memA).P w' hw,pt_at memA hw⟩) ?_
     refine tka 13 ?_
     refine tka 14 ?_
     refine tka 15 ?_
     refine t1 16 ?_
     refine al fun c8=>?_
     refine nl ?_
     refine te (fun w' hw=>⟨pt_at memA hw,(has_oww (e:=TRt) (sz:=3) (v:=a) (n:=i + 1) (xs:=rcs (pows p i) hs) memA).P w' hw,pt_at memA hw⟩) ?_
     refine t1 17 ?_
     refine srz ?_
     refine nl ?_
     refine te (fun w' hw=>⟨pt_at memA hw,(has_oww (e:=TRt) (sz:=3) (v:=a) (n:=i + 1) (xs:=rcs (pows p i) hs) memA).P w' hw,pt_at memA hw⟩) ?_
     refine tka 18 ?_
     refine t0 ?_
     repeat' first|refine xc ?_
     exact kb (c8,n3,d3) ⟨hn3,hd3⟩ _ _ (by (repeat (refine Sub.cons rfl (by first | rfl | go_num) ?_));exact Sub.nil) fitA
    ·refine al fun c8=>?_
     refine nl ?_
     refine te (fun w' hw=>⟨pt_at memA hw,(has_oww (e:=TRt) (sz:=3) (v:=a) (n:=i + 1) (xs:=rcs (pows p i) hs) memA).P w' hw,pt_at memA hw⟩) ?_
     refine t1 12 ?_
     refine ca (hMul _ x1 x2) ?_ (hp:=has1 (has_oww memA) (has1 (hfr _ memA).1 (has1 (hfr _ memA).2 (has1 hasA (has1 hasA has0)))))
     rintro _ _ ⟨n3,d3,rfl,hn3,hd3,rfl⟩
     refine nl ?_
     refine te (fun w' hw=>⟨pt_at memA hw,(has_oww (e:=TRt) (sz:=3) (v:=a) (n:=i + 1) (xs:=rcs (pows p i) hs) memA).P w' hw,pt_at memA hw⟩) ?_
     refine tka 13 ?_
     refine tka 14 ?_
     refine tka 15 ?_
     refine t1 17 ?_
     refine srz ?_
     refine nl ?_
     refine te (fun w' hw=>⟨pt_at memA hw,(has_oww (e:=TRt) (sz:=3) (v:=a) (n:=i + 1) (xs:=rcs (pows p i) hs) memA).P w' hw,pt_at memA hw⟩) ?_
     refine tka 18 ?_
     refine t0 ?_
     repeat' first|refine xc ?_
     exact kb (c8,n3,d3) ⟨hn3,hd3⟩ _ _ (by (repeat (refine Sub.cons rfl (by first | rfl | go_num) ?_));exact Sub.nil) fitA
   ·refine al fun c8=>?_
    refine nl ?_
    refine te (fun w' hw=>⟨pt_at memA hw,(has_oww (e:=TRt) (sz:=3) (v:=a) (n:=i + 1) (xs:=rcs (pows p i) hs) memA).P w' hw,pt_at memA hw⟩) ?_
    refine t1 11 ?_
    refine slws (sz:=3) (xs:=rrow (p ^ i) (x1,x2) ++ rrow p (v1,v2)) fun g2=>?_
    refine nl ?_
    refine te (fun w' hw=>⟨pt_at memA hw,(has_oww (e:=TRt) (sz:=3) (v:=a) (n:=i + 1) (xs:=rcs (pows p i) hs) memA).P w' hw,pt_at memA hw⟩) ?_
    refine t1 12 ?_
    refine ca (hMul _ x1 x2) ?_ (hp:=has1 (has_oww memA) (has1 (hfr _ memA).1 (has1 (hfr _ memA).2 (has1 hasA (has1 hasA has0)))))
    rintro _ _ ⟨n3,d3,rfl,hn3,hd3,rfl⟩
    refine nl ?_
    refine te (fun w' hw=>⟨pt_at memA hw,(has_oww (e:=TRt) (sz:=3) (v:=a) (n:=i + 1) (xs:=rcs (pows p i) hs) memA).P w' hw,pt_at memA hw⟩) ?_
    refine tka 13 ?_
    refine tka 14 ?_
    refine tka 15 ?_
    refine t1 17 ?_
    refine srz ?_
    refine nl ?_
    refine te (fun w' hw=>⟨pt_at memA hw,(has_oww (e:=TRt) (sz:=3) (v:=a) (n:=i + 1) (xs:=rcs (pows p i) hs) memA).P w' hw,pt_at memA hw⟩) ?_
    refine tka 18 ?_
    refine t0 ?_
    repeat' first|refine xc ?_
    exact kb (c8,n3,d3) ⟨hn3,hd3⟩ _ _ (by (repeat (refine Sub.cons rfl (by first | rfl | go_num) ?_));exact Sub.nil) fitA
 ·have hrow:=rcs_row hlq (i:=m) (by omega)
  rw [pows_get (show m ≤ i by omega)] at hrow
  refine TC.fact (fun w' hw=>fr_one (hs:=hs) (qs:=pows p i) (has_ofr hlq memA) hlq (i:=m) (by omega) w' hw) fun hone=>?_
  obtain ⟨y,hy⟩ : ∃ y,y = hs.getD m nS2:=⟨_,rfl⟩
  rw [← hy] at hrow hone
  obtain ⟨x1,x2⟩:=y
  dsimp only at hone
  obtain ⟨hone1,hone2⟩:=hone
  repeat' first|(refine ixa (m:=2) (i:=(w:Int)) ?_;rw [Int.toNat_natCast])|refine ld (cs:=C a) (j:=w) ?_ (hj:=hget)|refine lnw (N:=i + 1) (xs:=rcs (pows p i) hs) ?_ (hm:=has_oww memA)|refine ixws (i:=(m:Int)) (N:=i + 1) (xs:=rcs (pows p i) hs) ?_ (hm:=has_oww memA)|refine ldaw (N:=i + 1) (xs:=rcs (pows p i) hs) (m:=3 * m) hrow ?_ (hm:=has_oww memA)|refine srz ?_ (hj:=Nat.le_of_ble_eq_true rfl)|(refine wo ?_;first|(refine ao ?_;first|refine oa ?_)|refine oa ?_)|(refine gc ?_;first|(refine ci (fun hB=>?_) (fun hB=>?_) <;> try (exfalso;omega)))|refine sq ?_|refine rg ?_|refine xc ?_|refine nl ?_|refine xe ?_|refine rt ?_
  exact rca1 (b:=c7) (cs:=rrow (p ^ m) (x1,x2)) (vs:=rrow (p ^ m) (x1,x2)) (T:=TRt) ⟨i,a,hs,by rw [← hy],ha,hl,by omega,hi,rfl⟩
end Go.Art
