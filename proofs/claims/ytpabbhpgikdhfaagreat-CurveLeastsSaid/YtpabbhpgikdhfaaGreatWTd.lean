/- Texts put together: Rn Ro Rp Ma Mc Sp Vd Fa Ac Aw Df Zu Fc Fd Fp Qq Rx Rw Hp Hq Ak Mk KPick KSame Qr Qs Gl Gs Qv Qw KCopy KOver Qx Rz. Conditions: none. -/
import Derived.Test.YtpabbhpgikdhfaaGreatWTc
set_option linter.unusedSimpArgs false
set_option linter.unusedVariables false
namespace Go.Art
open Go Go.Proofs Go.RowKit
theorem Ty.bnd {P:Program} {l:Nat} {vs:List Value} {pre C:List Ch} {R:Bool→List Ch→Prop} (h:Ty P l vs pre C fun b D=>R b [bnd D]):Ty P l vs pre [bnd C] R:=by
 refine ⟨fun w hw=>?_,h.lent⟩
 have e:∀ {w:World} {D:List Ch},Sat [Go.Art.bnd D] w ↔ Sat D w:=fun {w D}=>by
  rw [bnd_sat,List.append_nil]
 have h1:Sat (pre ++ C) w:=by
  obtain ⟨a1,a2,a3⟩:=Sat.app.1 hw
  have a4:=e.1 a2
  refine Sat.app.2 ⟨a1,a4,fun a ha c hc=>?_⟩
  have a5:=a3 a ha (Go.Art.bnd C) (List.Mem.head _)
  exact ⟨fun b hb hf=>a5.1 b hb (bnd_ft.2 ⟨c,hc,hf⟩),fun b hb hf=>a5.2 b ⟨c,hc,hb⟩ hf⟩
 have e1:∀ {D:List Ch} {b:Nat},wrs [Go.Art.bnd D] b ↔ wrs D b:=fun {D b}=>by have:=bnd_wrs (C:=D) (F:=[]) (b:=b);rwa [List.append_nil] at this
 have e2:∀ {D:List Ch} {b:Nat},rds [Go.Art.bnd D] b ↔ rds D b:=fun {D b}=>by have:=bnd_rds (C:=D) (F:=[]) (b:=b);rwa [List.append_nil] at this
 refine (h.run w h1).mono fun b w' ⟨B,hR,hS,hM,hB⟩=>⟨[Go.Art.bnd B],hR,e.2 hS,⟨hM.os,hM.tape,hM.output,hM.size,fun k hk hn=>hM.block k hk fun hm=>hn (e1.2 hm),fun x hx=>?_,fun x hx=>?_⟩,fun c hc x hx=>?_⟩
 ·rcases hM.wr x (e1.1 hx) with h2 | h2
  ·exact .inl (e1.2 h2)
  ·exact .inr h2
 ·rcases hM.rd x (e2.1 hx) with h2 | h2 | h2
  ·exact .inl (e1.2 h2)
  ·exact .inr (.inl (e2.2 h2))
  ·exact .inr (.inr h2)
 ·obtain rfl:=List.mem_singleton.1 hc
  obtain ⟨y,hy,h2⟩:=hx
  exact hB y hy x h2
theorem Tr.unb {P:Program} {f:FuncId} {args:List Value} {pre C:List Ch} {R R':Value→List Ch→Prop} (h:Tr P f args pre [Go.Art.bnd C] R) (k:∀ v D,R v D→∃ C',D = [Go.Art.bnd C']∧R' v C'):Tr P f args pre C R':=by
 refine ⟨fun w hw=>?_,h.lent⟩
 have hw':Sat (pre ++ [Go.Art.bnd C]) w:=by
  have h1:Sat (C ++ pre) w:=hw.perm List.perm_append_comm
  exact (bnd_sat.2 h1).perm (List.perm_append_comm (l₁:=[Go.Art.bnd C]) (l₂:=pre))
 have e1:∀ (C:List Ch) (b:Nat),wrs [Go.Art.bnd C] b ↔ wrs C b:=fun C b=>by have:=bnd_wrs (C:=C) (F:=[]) (b:=b);rwa [List.append_nil] at this
 have e2:∀ (C:List Ch) (b:Nat),rds [Go.Art.bnd C] b ↔ rds C b:=fun C b=>by have:=bnd_rds (C:=C) (F:=[]) (b:=b);rwa [List.append_nil] at this
 refine (h.run w hw').mono fun v w' ⟨B,hR,hS,hM,hB⟩=>?_
 obtain ⟨C',rfl,hR'⟩:=k v B hR
 refine ⟨C',hR',by have:=bnd_sat.1 hS;rwa [List.append_nil] at this,?_,fun c hc b hb=>hB _ (List.Mem.head _) b ⟨c,hc,hb⟩⟩
 exact ⟨hM.os,hM.tape,hM.output,hM.size,fun k hk hn=>hM.block k hk fun h=>hn ((e1 C k).1 h),fun b hb=>(hM.wr b ((e1 C' b).2 hb)).imp_left (e1 C b).1,
  fun b hb=>(hM.rd b ((e2 C' b).2 hb)).imp (e1 C b).1 (Or.imp_left (e2 C b).1)⟩
theorem bnd_nob {C:List Ch} (h:∀ c ∈ C,∀ b,¬ c.bd b) (b:Nat):¬ (bnd C).bd b:=fun ⟨c,hc,hb⟩=>h c hc b hb
structure SeqL (P:Program) (f:FuncId) (cap:Array Value) (pre:List Ch) (L:List (List Int)):Prop where
 run:∀ {α:Type} (l:Nat) (J:α→Ch) (pl:α→Nat→Prop) (S:α→Prop) (a0:α),pl a0 0→(∀ a b,¬ (J a).bd b) →
  (∀ a i x,pl a i→i < L.length→Ty P l [x] [vw x (Is (L.getD i []))] [J a] fun ok B=>∃ a',B = [J a']∧((ok = true∧pl a' (i + 1))∨(ok = false∧S a'))) →
  Tr P f (yv l :: cap.toList) pre [J a0] fun _ B=>∃ a,B = [J a]∧(pl a L.length∨S a)
 lent:∀ c ∈ pre,∀ b,¬ c.wr b∧¬ c.rd b
def endsL:Nat→Nat→List Int→List (List Int)
 | 0,_,b=>[b]
 | d + 1,k,b=>(List.range k).flatMap fun i:Nat=>endsL d (k - 1) (b ++ [(i:Int)])
theorem fm_succ {α:Type} (f:Nat→List α) (i:Nat):(List.range (i + 1)).flatMap f = (List.range i).flatMap f ++ f i:=by
 rw [List.range_succ,List.flatMap_append];simp
abbrev TLs:TypeId:=22
abbrev TYl:TypeId:=151
structure EnG (α:Type) where
 i:Nat
 a:α
 Ds:List Nat
attribute [local irreducible] Fit pt own ro vw mpc lpt vels rels mow lrc dfr
attribute [local irreducible] lmp lme mit velg relg bnd owl dfrl
end Go.Art
namespace Go.Art
open Go Go.Proofs Go.RowKit
def lvlL (tot:Int) (cut oth:List Int) (k c x:Nat):List (List Int):=endsL (alPick tot cut oth c x + 1).toNat k [(c:Int),(x:Int)]
def colL (tot:Int) (cut oth:List Int) (k c:Nat):List (List Int):=(List.range tot.toNat).flatMap fun x:Nat=>lvlL tot cut oth k c x
def allL (tot:Int) (cut oth:List Int) (k:Nat):List (List Int):=(List.range cut.length).flatMap fun c:Nat=>colL tot cut oth k c
structure AlG (α:Type) where
 i:Nat
 a:α
 Ds:List Nat
attribute [local irreducible] Fit pt own ro vw mpc lpt vels rels mow lrc dfr
attribute [local irreducible] lmp lme mit velg relg bnd owl dfrl lvlL colL
end Go.Art
namespace Go.Art
open Go Go.Proofs Go.RowKit
def rowsW (tot:Int) (cut oth:List Int) (k:Int):List (List Int) × Int:=
 if rwE tot cut oth k = 0 then (if 4096 < (allL tot cut oth k.toNat).length then ([],4) else (allL tot cut oth k.toNat,0)) else ([],rwE tot cut oth k)
abbrev TLL:TypeId:=56
abbrev TEr:TypeId:=27
structure RwsG where
 v:Value
 hs:List Value
 i:Nat
 st:Bool
attribute [local irreducible] Fit pt own ro vw mpc lpt vels rels mow lrc dfr
attribute [local irreducible] lmp lme mit velg relg bnd owl dfrl allL rwE
end Go.Art
namespace Go.Art
open Go Go.Proofs Go.RowKit
def risL:Nat→Nat→Nat→List Int→List (List Int)
 | 0,_,_,b=>[b]
 | d + 1,f,k,b=>(List.range (k - d - f)).flatMap fun j:Nat=>risL d (f + j + 1) k (b ++ [((f + j:Nat):Int)])
def risR:Nat→Nat→Nat→List (List Int)
 | 0,_,_=>[[]]
 | d + 1,f,k=>(List.range (k - f)).flatMap fun j:Nat=>(risR d (f + j + 1) k).map fun l=>((f + j:Nat):Int) :: l
theorem risR_len:∀ (d f k:Nat),(risR d f k).length = chs (k - f) d
 | 0,f,k=>by cases hk:k - f <;> rfl
 | d + 1,f,k=>by
  have key:∀ n f,k - f = n→(risR (d + 1) f k).length = chs n (d + 1):=by
   intro n
   induction n with
   | zero=>
    intro f hf
    show ((List.range (k - f)).flatMap _).length = _
    rw [hf];rfl
   | succ n ih=>
    intro f hf
    have h1:=ih (f + 1) (by omega)
    have h2:risR (d + 1) f k = (risR d (f + 1) k).map (fun l=>((f:Nat):Int) :: l) ++ risR (d + 1) (f + 1) k:=by
     show (List.range (k - f)).flatMap (fun j:Nat=>(risR d (f + j + 1) k).map fun l=>((f + j:Nat):Int) :: l) = _
     rw [hf,List.range_succ_eq_map,List.flatMap_cons,List.flatMap_map]
     congr 1
     show _ = (List.range (k - (f + 1))).flatMap (fun j:Nat=>(risR d (f + 1 + j + 1) k).map fun l=>((f + 1 + j:Nat):Int) :: l)
     rw [show k - (f + 1) = n by omega]
     refine congrArg (fun g=>(List.range n).flatMap g) (funext fun j=>?_)
     rw [show f + (j + 1) = f + 1 + j by omega]
    rw [h2,List.length_append,List.length_map,h1,risR_len d (f + 1) k,show k - (f + 1) = n by omega]
    rfl
  exact key _ f rfl
theorem risR_mem:∀ (d f k:Nat) (l:List Int),l ∈ risR d f k→l.length = d∧∀ x ∈ l,(f:Int) ≤ x∧x < k
 | 0,f,k,l,h=>by rw [List.mem_singleton.1 h];exact ⟨rfl,fun x hx=>nomatch hx⟩
 | d + 1,f,k,l,h=>by
  obtain ⟨j,hj,h1⟩:=List.mem_flatMap.1 h
  obtain ⟨m,hm,rfl⟩:=List.mem_map.1 h1
  obtain ⟨g1,g2⟩:=risR_mem d (f + j + 1) k m hm
  have hj:=List.mem_range.1 hj
  refine ⟨by simp [g1],fun x hx=>?_⟩
  rcases List.mem_cons.1 hx with rfl | hx
  ·omega
  ·have:=g2 x hx;omega
def setP (t:List Int) (k n:Nat):List (List Int):=(List.range n).flatMap fun i:Nat=>if t.getD i 0 = 0 then [] else risR (i + 1) 0 k
def setsW (t:List Int) (k:Int):List (List Int) × Int:=
 if solE t k = 0 then (if 4096 < (setP t k.toNat t.length).length then ([],4) else (setP t k.toNat t.length,0)) else ([],13)
open Go Go.Proofs Go.RowKit
def natG (W:List (List Int)→Bool) (L:List (List Int × Nat)):Nat→List (List Int)→Nat→Nat
 | 0,b,m=>if W b then m else 0
 | n + 1,b,m=>(L.map fun s=>natG W L n (b ++ [s.1]) (m * s.2)).sum
def digs (m:Nat):Nat→Nat→List Nat
 | 0,_=>[]
 | n + 1,j=>digs m n (j / m) ++ [j % m]
def selS (L:List (List Int × Nat)) (l:List Nat):List (List Int):=l.map fun i=>(L.getD i ([],0)).1
def prdW (L:List (List Int × Nat)) (l:List Nat):Nat:=l.foldl (fun a i=>a * (L.getD i ([],0)).2) 1
def tupN (W:List (List Int)→Bool) (L:List (List Int × Nat)) (l:List Nat):Nat:=if W (selS L l) then prdW L l else 0
def accN (W:List (List Int)→Bool) (L:List (List Int × Nat)) (n j:Nat):Nat:=((List.range j).map fun i=>tupN W L (digs L.length n i)).sum
def sumR (m:Nat) (f:List Nat→Nat):Nat→List Nat→Nat
 | 0,b=>f b
 | n + 1,b=>((List.range m).map fun i=>sumR m f n (b ++ [i])).sum
open Go Go.RowKit
section
variable {P:Program} {E:Env P} {n:Sh} {X:Cx} {s:List K} {fr:Fr} {A:List Ch} {c:Code} {e:Exit}
end
end Go.Art
namespace Go.Art
open Go Go.Proofs Go.RowKit
def tupsL (m n:Nat):List (List Int):=(List.range (m ^ n)).map fun j=>(digs m n j).map Int.ofNat
def curD (m n q p:Nat):List Int:=(digs m n p).map Int.ofNat ++ List.replicate q 0
def lbd (C:List Ch):Ch where
 wr:=fun _=>False
 rd:=fun _=>False
 bd:=fun b=>fts C b
 P:=fun w=>∀ c ∈ C,c.P w
 loc:=fun h hb c hc=>c.loc (h c hc) fun b hf=>hb b (.inr (.inr ⟨c,hc,hf⟩))
 lt:=fun h hb=>by
  rcases hb with hb | hb | ⟨c,hc,hf⟩
  ·exact hb.elim
  ·exact hb.elim
  ·exact c.lt (h c hc) hf
instance (C:List Ch):Lent (lbd C):=⟨fun _=>⟨fun h=>h,fun h=>h⟩⟩
theorem has_mem {F:List Ch} {c:Ch} [h:Lent c] (hm:c ∈ F):Has F c:=⟨fun _ hw=>hw.h c hm,fun b=>(h.lent b).1,fun b=>(h.lent b).2,fun _ hb=>⟨c,hm,hb⟩⟩
theorem has_lbd {F C:List Ch} {c:Ch} [hl:Lent c] (h:Has F (lbd C)) (hc:c ∈ C):Has F c:=⟨fun w hw=>h.P w hw c hc,fun b=>(hl.lent b).1,fun b=>(hl.lent b).2,fun b hb=>h.ft b (.inr (.inr ⟨c,hc,hb⟩))⟩
theorem lbd_of {F C:List Ch} (h:∀ c ∈ C,Has F c):Has F (lbd C):=⟨fun w hw c hc=>(h c hc).P w hw,fun _ h=>h,fun _ h=>h,fun b hb=>by
 rcases hb with hb | hb | ⟨c,hc,hf⟩
 ·exact hb.elim
 ·exact hb.elim
 ·exact (h c hc).ft b hf⟩
theorem Ty.pre {P:Program} {l:Nat} {vs:List Value} {pre pre' A:List Ch} {R:Bool→List Ch→Prop} (h:Ty P l vs pre A R) (hp:∀ c ∈ pre,Has pre' c) (hl:∀ c ∈ pre',∀ b,¬ c.wr b∧¬ c.rd b):Ty P l vs pre' A R:=
 ⟨fun w hw=>h.run w (lend (hw.perm List.perm_append_comm) hp),hl⟩
structure SeqV (P:Program) (f:FuncId) (cap:Array Value) (pre:List Ch) (L:List (List Int)):Prop where
 run:∀ {α:Type} (V:Ch) [Lent V] (l:Nat) (J:α→Ch) (pl:α→Nat→Prop) (S:α→Prop) (a0:α),pl a0 0→(∀ a b,¬ (J a).bd b) →
  (∀ a i x,pl a i→i < L.length→Ty P l [x] [vw x (Is (L.getD i [])),V] [J a] fun ok B=>∃ a',B = [J a']∧((ok = true∧pl a' (i + 1))∨(ok = false∧S a'))) →
  Tr P f (yv l :: cap.toList) (V :: pre) [J a0] fun _ B=>∃ a,B = [J a]∧(pl a L.length∨S a)
structure TpG (α:Type) where
 j:Nat
 a:α
structure TqG where
 q:Nat
 p:Nat
attribute [local irreducible] Fit pt own ro vw mpc lpt vels rels mow lrc dfr
attribute [local irreducible] lmp lme mit velg relg bnd owl dfrl
end Go.Art
namespace Go.Art
open Go Go.Proofs Go.RowKit
def FB (q:Rat) (B:Nat):Prop:=(dg q.num.natAbs).length ≤ B∧(dg q.den).length ≤ B
theorem FB.le {q:Rat} {B C:Nat} (h:FB q B) (k:B ≤ C):FB q C:=⟨Nat.le_trans h.1 k,Nat.le_trans h.2 k⟩
theorem sg_mulN (z:Int) (m:Nat):sg (!(decide (z < 0) == false)) (z.natAbs * m) = z * m:=by
 have:=sg_mul z (m:Int)
 rwa [show decide ((m:Int) < 0) = false from decide_eq_false (by omega),Int.natAbs_natCast] at this
theorem sg_dz (z:Int):sg (decide (z < 0)) (nv (dz z)) = z:=by
 unfold sg;rw [nv_dg]
 by_cases h:z < 0
 ·rw [if_pos (by simpa using h)];omega
 ·rw [if_neg (by simpa using h)];omega
attribute [local irreducible] Fit pt own ro vw mpc lpt vels rels mow lrc dfr
attribute [local irreducible] lmp lme mit velg relg
theorem FCheck_tr (q:Rat) (vn vd:Value) (hn:vn.oneCell' = true) (hd:vd.oneCell' = true) (hB:FB q 549755813888):Tr Tryz.prog 92 [rv q vn vd] [vw vn (Us (dg q.num.natAbs)),vw vd (Us (dg q.den))] [] fun u D=>u = I 0∧D = []:=by
 have hC:=ICheck_tr (decide (q.num < 0)) vn (dz q.num)
 rw [if_neg (icheck_ok q.num)] at hC
 have hK:=Check_tr vd (dg q.den)
 rw [if_neg (Tm_top (Tm_dg _))] at hK
 have hl:=dg_len_pos q.den_nz
 have hG:=NGcd_tr vn vd (dg q.num.natAbs) (dg q.den) (Dg_dg _) (Dg_dg _) hB.1 hB.2
 rw [nv_dg,nv_dg,show Nat.gcd q.num.natAbs q.den = 1 from q.reduced] at hG
 have hM:=fun v1 v2=>Cmp_tr v1 v2 (dg 1) [1] (Dg_dg _) (Dg.one (by decide))
 rw [nv_dg,show nv [1] = 1 from rfl,show cmpN 1 1 = 0 by decide] at hM
 obtain ⟨b,hb⟩ : ∃ b,b = decide (q.num < 0):=⟨_,rfl⟩
 show Tr _ _ [.agg #[.bool (decide (q.num < 0)),vn,vd]] _ _ _
 rw [← hb] at hC ⊢
 unfold dz at hC
 generalize dg q.num.natAbs = l1 at *
 generalize dg q.den = l2 at *
 clear hB hb
 refine Tr.enter env _ Tryz.func92 (by kernel_rfl) rfl Tryz.ntmps92 rfl (by repeat (first | exact has00 | refine has01 ?_)) fun w0=>?_
 repeat' first|(refine gca ?_;first|(refine ca hC ?_;rintro _ _ ⟨rfl,rfl⟩)|(refine ca hK ?_;rintro _ _ ⟨rfl,rfl⟩)|(refine ca hG ?_;rintro g _ ⟨hg,rfl⟩)|(refine ca one_tr ?_;rintro o _ ⟨ho,rfl⟩)|(refine ca (hM g o) ?_;rintro _ _ ⟨rfl,rfl⟩))|refine bx fun q=>?_|refine lda ?_|(refine wo ?_;first|(refine ao ?_;first|refine oa ?_)|refine oa ?_|refine ld ?_|refine lnm ?_|refine gy ?_|(refine gsi (fun hB=>?_) (fun hB=>?_) <;> try (exfalso;omega)))|(refine gc ?_;first|refine cf ?_)|refine sq ?_|refine rg ?_|refine xc ?_|refine nl ?_|refine sk ?_|refine rt ?_
 exact r1 ⟨rfl,rfl⟩
theorem sumW_tr (v:Value) (hv:v.oneCell' = true):Tr Tryz.prog 120 [v] [] [] fun u D=>u = .agg #[.bool false,v]∧D = []:=by
 refine Tr.enter env _ Tryz.func120 (by kernel_rfl) rfl Tryz.ntmps120 rfl (by repeat (first | exact has00 | refine has01 ?_)) fun w0=>?_
 repeat' first|refine al fun c=>?_|refine bdz ?_|refine srz ?_|(refine wo ?_;first|refine oa ?_)|refine sq ?_|refine rg ?_|refine xc ?_|refine nl ?_|refine rt ?_
 exact rca1 (cs:=[.bool false,v]) (vs:=[.bool false,v]) (T:=TIt) ⟨rfl,rfl⟩
theorem FSum_tr (q r:Rat) (v1 v2 v3 v4:Value) (h1:v1.oneCell' = true) (h2:v2.oneCell' = true) (h3:v3.oneCell' = true) (h4:v4.oneCell' = true) (hq:FB q 8589934592) (hr:FB r 8589934592) :
  Tr Tryz.prog 71 [rv q v1 v2,rv r v3 v4] [vw v1 (Us (dg q.num.natAbs)),vw v2 (Us (dg q.den)),vw v3 (Us (dg r.num.natAbs)),vw v4 (Us (dg r.den))] [] (FQ (q + r)):=by
 have hM1:=IMulF_tr (decide (q.num < 0)) false v1 v4 (dg q.num.natAbs) (dg r.den) (Dg_dg _) (Dg_dg _) (by have:=hq.1;omega) (by have:=hr.2;omega)
 have hM2:=IMulF_tr (decide (r.num < 0)) false v3 v2 (dg r.num.natAbs) (dg q.den) (Dg_dg _) (Dg_dg _) (by have:=hr.1;omega) (by have:=hq.2;omega)
 have hM3:=NMul_tr v2 v4 (dg q.den) (dg r.den) (Dg_dg _) (Dg_dg _) (by have:=hq.2;omega) (by have:=hr.2;omega)
 rw [nv_dg,nv_dg] at hM1 hM2 hM3
 rw [sg_mulN] at hM1 hM2
 have l1:(dz (q.num * r.den)).length ≤ 17179869184:=dz_mul hq.1 (by unfold dz;rw [Int.natAbs_natCast];exact hr.2)
 have l2:(dz (r.num * q.den)).length ≤ 17179869184:=dz_mul hr.1 (by unfold dz;rw [Int.natAbs_natCast];exact hq.2)
 have l3:(dg (q.den * r.den)).length ≤ 17179869184:=dg_mul_len hq.2 hr.2
 have l4:(dz (q.num * r.den + r.num * q.den)).length ≤ 17179869185:=by
  unfold dz at *
  exact Nat.le_trans (dg_mono (Int.natAbs_add_le _ _)) (dg_add_len l1 l2)
 have hA:=fun o1 o2 g1 g2=>IAdd_tr (q.num * r.den) (r.num * q.den) o1 o2 g1 g2 (by omega) (by omega)
 have hL:=fun o d=>lowest_tr (decide (q.num * r.den + r.num * q.den < 0)) o d (dz (q.num * r.den + r.num * q.den)) (dg (q.den * r.den)) (Dg_dg _) (Dg_dg _) (by omega) (by omega) (by rw [nv_dg];exact Nat.mul_ne_zero q.den_nz r.den_nz)
 rw [sg_dz,nv_dg,← Rat.add_def'] at hL
 obtain ⟨s,hs⟩ : ∃ s,s = q + r:=⟨_,rfl⟩
 rw [← hs] at hL ⊢
 clear hs l1 l2 l3 l4 hq hr
 unfold IR at hM1 hM2 hA
 unfold FQ at hL
 show Tr _ _ [.agg #[.bool (decide (q.num < 0)),v1,v2],.agg #[.bool (decide (r.num < 0)),v3,v4]] _ _ _
 generalize q.num * r.den + r.num * q.den = z3 at *
 generalize q.num * r.den = z1 at *
 generalize r.num * q.den = z2 at *
 generalize dg (q.den * r.den) = l3 at *
 generalize dg q.num.natAbs = lq at *
 generalize dg q.den = lqd at *
 generalize dg r.num.natAbs = lr at *
 generalize dg r.den = lrd at *
 generalize decide (q.num < 0) = b1 at *
 generalize decide (r.num < 0) = b2 at *
 refine Tr.enter env _ Tryz.func71 (by kernel_rfl) rfl Tryz.ntmps71 rfl (by repeat (first | exact has00 | refine has01 ?_)) fun w0=>?_
 repeat' first|refine bx fun q=>?_|refine al fun c=>?_|(refine wo ?_;first|refine oa ?_)|refine sq ?_|refine rg ?_|refine xc ?_|refine nl ?_
 rename_i q1
 refine cutY (ι:=Nat × Value) (fun g=>g.2.oneCell' = true) (fun g=>[(2,ptr q1),(3,ptr q),(4,ptr c),(6,ptr g.1)]) (fun g=>[pt q1 [.bool b1,v1,v2] TRt,pt q [.bool b2,v3,v4] TRt,pt c [.bool false,nS,nS] TRt,pt g.1 [.bool (decide (z3 < 0)),g.2] TIt,own T64 g.2 (Us (dz z3)),vw v2 (Us lqd),vw v4 (Us lrd)]) ?_ ?_
 ·rintro ⟨c2,o3⟩ ho3
  dsimp only at ho3 ⊢
  repeat' first|refine sq ?_
  refine rs (fun w=>w.heap[q1]? = some (.cells [.bool b1,v1,v2].toArray TRt (0,0))∧w.heap[q]? = some (.cells [.bool b2,v3,v4].toArray TRt (0,0))∧w.heap[c2]? = some (.cells [.bool (decide (z3 < 0)),o3].toArray TIt (0,0))) ?_ (fun w hw=>⟨pt_at memA hw,pt_at memA hw,pt_at memA hw⟩)
  refine tk 0 (v:=.agg #[.bool (decide (z3 < 0)),o3]) (fun w h=>R_loadA (E:=env) (vs:=[.bool (decide (z3 < 0)),o3]) rfl rfl rfl rfl h.2.2 rfl rfl) ?_
  refine tka 1 ?_
  refine tkl 2 (cs:=[.bool b1,v1,v2]) (fun w h=>h.1) ?_
  refine tka 3 ?_
  refine tkl 4 (cs:=[.bool b2,v3,v4]) (fun w h=>h.2.1) ?_
  refine t1 5 ?_
  refine ca hM3 ?_
  rintro d3 _ ⟨hd3,rfl⟩
  refine nl ?_
  refine te (fun w hw=>⟨pt_at memA hw,pt_at memA hw,pt_at memA hw⟩) ?_
  refine t1 6 ?_
  refine ca (hL o3 d3) ?_
  rintro _ _ ⟨vn,vd,rfl,hvn,hvd,rfl⟩
  refine nl ?_
  refine te (fun w hw=>⟨pt_at memA hw,pt_at memA hw,pt_at memA hw⟩) ?_
  refine t1 7 ?_
  refine srz ?_
  refine nl ?_
  refine te (fun w hw=>⟨pt_at memA hw,pt_at memA hw,pt_at memA hw⟩) ?_
  refine t0 ?_
  repeat' first|refine xc ?_|refine rt ?_
  exact rca1 (cs:=[.bool (decide (s.num < 0)),vn,vd]) (vs:=[.bool (decide (s.num < 0)),vn,vd]) (T:=TRt) ⟨vn,vd,rfl,hvn,hvd,rfl⟩
 ·intro b' kb
  refine rs (fun w=>w.heap[q1]? = some (.cells [.bool b1,v1,v2].toArray TRt (0,0))∧w.heap[q]? = some (.cells [.bool b2,v3,v4].toArray TRt (0,0))) ?_ (fun w hw=>⟨pt_at memA hw,pt_at memA hw⟩)
  refine tka 0 ?_
  refine tk 1 (v:=.agg #[.bool b1,v1]) (fun w h=>R_loadA (E:=env) (vs:=[.bool b1,v1]) rfl rfl rfl rfl h.1 rfl rfl) ?_
  refine tka 2 ?_
  refine tka 3 ?_
  refine tkl 4 (cs:=[.bool b2,v3,v4]) (fun w h=>h.2) ?_
  refine tka 7 ?_
  refine tk 8 (v:=.agg #[.bool b2,v3]) (fun w h=>R_loadA (E:=env) (vs:=[.bool b2,v3]) rfl rfl rfl rfl h.2 rfl rfl) ?_
  refine tka 9 ?_
  refine tka 10 ?_
  refine tkl 11 (cs:=[.bool b1,v1,v2]) (fun w h=>h.1) ?_
  refine t2 5 15 ?_ ?_
  ·refine cav (cap:=#[]) (vs:=[v4]) (sumW_tr v4 h4) ?_
   rintro _ _ ⟨rfl,rfl⟩
   refine nl ?_
   refine te (fun w hw=>⟨pt_at memA hw,pt_at memA hw⟩) ?_
   refine t2 6 15 ?_ ?_
   ·refine ca hM1 ?_
    rintro _ _ ⟨o1,rfl,ho1,rfl⟩
    refine nl ?_
    refine te (fun w hw=>⟨pt_at memA hw,pt_at memA hw⟩) ?_
    refine t2 12 15 ?_ ?_
    ·refine cav (cap:=#[]) (vs:=[v2]) (sumW_tr v2 h2) ?_
     rintro _ _ ⟨rfl,rfl⟩
     refine nl ?_
     refine te (fun w hw=>⟨pt_at memA hw,pt_at memA hw⟩) ?_
     refine t2 13 15 ?_ ?_
     ·refine ca hM2 ?_
      rintro _ _ ⟨o2,rfl,ho2,rfl⟩
      refine nl ?_
      refine te (fun w hw=>⟨pt_at memA hw,pt_at memA hw⟩) ?_
      refine t2 14 15 ?_ ?_
      ·refine ca (hA o1 o2 ho1 ho2) ?_
       rintro _ _ ⟨o3,rfl,ho3,rfl⟩
       refine nl ?_
       refine te (fun w hw=>⟨pt_at memA hw,pt_at memA hw⟩) ?_
       refine t1 15 ?_
       refine al fun c2=>?_
       refine nl ?_
       refine te (fun w hw=>⟨pt_at memA hw,pt_at memA hw⟩) ?_
       refine t1 16 ?_
       refine srz ?_
       refine nl ?_
       refine te (fun w hw=>⟨pt_at memA hw,pt_at memA hw⟩) ?_
       refine t0 ?_
       repeat' first|refine xc ?_
       exact kb (c2,o3) ho3 _ _ (by (repeat (refine Sub.cons rfl (by first | rfl | go_num) ?_));exact Sub.nil) fitA
      ·refine al fun c2=>?_
       refine nl ?_
       refine te (fun w hw=>⟨pt_at memA hw,pt_at memA hw⟩) ?_
       refine t1 14 ?_
       refine ca (hA o1 o2 ho1 ho2) ?_
       rintro _ _ ⟨o3,rfl,ho3,rfl⟩
       refine nl ?_
       refine te (fun w hw=>⟨pt_at memA hw,pt_at memA hw⟩) ?_
       refine t1 16 ?_
       refine srz ?_
       refine nl ?_
       refine te (fun w hw=>⟨pt_at memA hw,pt_at memA hw⟩) ?_
       refine t0 ?_
       repeat' first|refine xc ?_
       exact kb (c2,o3) ho3 _ _ (by (repeat (refine Sub.cons rfl (by first | rfl | go_num) ?_));exact Sub.nil) fitA
     ·refine al fun c2=>?_
      refine nl ?_
      refine te (fun w hw=>⟨pt_at memA hw,pt_at memA hw⟩) ?_
      refine t1 13 ?_
      refine ca hM2 ?_
      rintro _ _ ⟨o2,rfl,ho2,rfl⟩
      refine nl ?_
      refine te (fun w hw=>⟨pt_at memA hw,pt_at memA hw⟩) ?_
      refine t1 14 ?_
      refine ca (hA o1 o2 ho1 ho2) ?_
      rintro _ _ ⟨o3,rfl,ho3,rfl⟩
      refine nl ?_
      refine te (fun w hw=>⟨pt_at memA hw,pt_at memA hw⟩) ?_
      refine t1 16 ?_
      refine srz ?_
      refine nl ?_
      refine te (fun w hw=>⟨pt_at memA hw,pt_at memA hw⟩) ?_
      refine t0 ?_
      repeat' first|refine xc ?_
      exact kb (c2,o3) ho3 _ _ (by (repeat (refine Sub.cons rfl (by first | rfl | go_num) ?_));exact Sub.nil) fitA
    ·refine al fun c2=>?_
     refine nl ?_
     refine te (fun w hw=>⟨pt_at memA hw,pt_at memA hw⟩) ?_
     refine t1 12 ?_
     refine cav (cap:=#[]) (vs:=[v2]) (sumW_tr v2 h2) ?_
     rintro _ _ ⟨rfl,rfl⟩
     refine nl ?_
     refine te (fun w hw=>⟨pt_at memA hw,pt_at memA hw⟩) ?_
     refine t1 13 ?_
     refine ca hM2 ?_
     rintro _ _ ⟨o2,rfl,ho2,rfl⟩
     refine nl ?_
     refine te (fun w hw=>⟨pt_at memA hw,pt_at memA hw⟩) ?_
     refine t1 14 ?_
     refine ca (hA o1 o2 ho1 ho2) ?_
     rintro _ _ ⟨o3,rfl,ho3,rfl⟩
     refine nl ?_
     refine te (fun w hw=>⟨pt_at memA hw,pt_at memA hw⟩) ?_
     refine t1 16 ?_
     refine srz ?_
     refine nl ?_
     refine te (fun w hw=>⟨pt_at memA hw,pt_at memA hw⟩) ?_
     refine t0 ?_
     repeat' first|refine xc ?_
     exact kb (c2,o3) ho3 _ _ (by (repeat (refine Sub.cons rfl (by first | rfl | go_num) ?_));exact Sub.nil) fitA
   ·refine al fun c2=>?_
    refine nl ?_
    refine te (fun w hw=>⟨pt_at memA hw,pt_at memA hw⟩) ?_
    refine t1 6 ?_
    refine ca hM1 ?_
    rintro _ _ ⟨o1,rfl,ho1,rfl⟩
    refine nl ?_
    refine te (fun w hw=>⟨pt_at memA hw,pt_at memA hw⟩) ?_
    refine t1 12 ?_
    refine cav (cap:=#[]) (vs:=[v2]) (sumW_tr v2 h2) ?_
    rintro _ _ ⟨rfl,rfl⟩
    refine nl ?_
    refine te (fun w hw=>⟨pt_at memA hw,pt_at memA hw⟩) ?_
    refine t1 13 ?_
    refine ca hM2 ?_
    rintro _ _ ⟨o2,rfl,ho2,rfl⟩
    refine nl ?_
    refine te (fun w hw=>⟨pt_at memA hw,pt_at memA hw⟩) ?_
    refine t1 14 ?_
    refine ca (hA o1 o2 ho1 ho2) ?_
    rintro _ _ ⟨o3,rfl,ho3,rfl⟩
    refine nl ?_
    refine te (fun w hw=>⟨pt_at memA hw,pt_at memA hw⟩) ?_
    refine t1 16 ?_
    refine srz ?_
    refine nl ?_
    refine te (fun w hw=>⟨pt_at memA hw,pt_at memA hw⟩) ?_
    refine t0 ?_
    repeat' first|refine xc ?_
    exact kb (c2,o3) ho3 _ _ (by (repeat (refine Sub.cons rfl (by first | rfl | go_num) ?_));exact Sub.nil) fitA
  ·refine al fun c2=>?_
   refine nl ?_
   refine te (fun w hw=>⟨pt_at memA hw,pt_at memA hw⟩) ?_
   refine t1 5 ?_
   refine cav (cap:=#[]) (vs:=[v4]) (sumW_tr v4 h4) ?_
   rintro _ _ ⟨rfl,rfl⟩
   refine nl ?_
   refine te (fun w hw=>⟨pt_at memA hw,pt_at memA hw⟩) ?_
   refine t1 6 ?_
   refine ca hM1 ?_
   rintro _ _ ⟨o1,rfl,ho1,rfl⟩
   refine nl ?_
   refine te (fun w hw=>⟨pt_at memA hw,pt_at memA hw⟩) ?_
   refine t1 12 ?_
   refine cav (cap:=#[]) (vs:=[v2]) (sumW_tr v2 h2) ?_
   rintro _ _ ⟨rfl,rfl⟩
   refine nl ?_
   refine te (fun w hw=>⟨pt_at memA hw,pt_at memA hw⟩) ?_
   refine t1 13 ?_
   refine ca hM2 ?_
   rintro _ _ ⟨o2,rfl,ho2,rfl⟩
   refine nl ?_
   refine te (fun w hw=>⟨pt_at memA hw,pt_at memA hw⟩) ?_
   refine t1 14 ?_
   refine ca (hA o1 o2 ho1 ho2) ?_
   rintro _ _ ⟨o3,rfl,ho3,rfl⟩
   refine nl ?_
   refine te (fun w hw=>⟨pt_at memA hw,pt_at memA hw⟩) ?_
   refine t1 16 ?_
   refine srz ?_
   refine nl ?_
   refine te (fun w hw=>⟨pt_at memA hw,pt_at memA hw⟩) ?_
   refine t0 ?_
   repeat' first|refine xc ?_
   exact kb (c2,o3) ho3 _ _ (by (repeat (refine Sub.cons rfl (by first | rfl | go_num) ?_));exact Sub.nil) fitA
end Go.Art
namespace Go.Art
open Go Go.RowKit
def adr (v:Value) (m:Nat):Addr:=(addrAt v 0).add m
theorem adr_add (v:Value) (m o:Nat):(adr v m).add o = adr v (m + o):=Deep.add_add _ _ _
def SlW (w:World) (v:Value) (n:Nat) (xs:List Value):Prop:=
 ∃ a cap,v = .slice a n cap∧n ≤ cap∧cap ≤ maxLen∧(0 < n→∃ x,a = some x)∧∀ i u,xs[i]? = some u→∃ x,a = some x∧w.cell? (x.add i) = some u
theorem SlW.cell {w:World} {v:Value} {n:Nat} {xs:List Value} (h:SlW w v n xs) {i:Nat} {u:Value} (hi:xs[i]? = some u):w.cell? (adr v i) = some u:=by
 obtain ⟨a,cap,rfl,_,_,_,hc⟩:=h
 obtain ⟨x,rfl,hx⟩:=hc i u hi
 show w.cell? ((x.add 0).add i) = _
 rw [Deep.add_add,Nat.zero_add];exact hx
theorem SlW.len {w:World} {v:Value} {n:Nat} {xs:List Value} (h:SlW w v n xs):n ≤ 9223372036854775807:=by
 obtain ⟨_,cap,_,h1,h2,_⟩:=h
 unfold maxLen at h2;omega
theorem add_block (x:Addr) (i:Nat):(x.add i).block = x.block:=by unfold Addr.add;split <;> rfl
def vwf (v:Value) (n:Nat) (xs:List Value):Ch where
 wr:=fun _=>False
 rd:=fun _=>False
 bd:=fun x=>xs ≠ []∧v.ownBlock = some x
 P:=fun w=>SlW w v n xs
 loc:=fun {w w'} h hb=>by
  obtain ⟨a,cap,rfl,h1,h2,h0,h3⟩:=h
  refine ⟨a,cap,rfl,h1,h2,h0,fun i u hi=>?_⟩
  obtain ⟨x,rfl,hx⟩:=h3 i u hi
  exact ⟨x,rfl,(World.cell?_of_block (by rw [add_block];exact hb _ (.inr (.inr ⟨by rintro rfl;simp at hi,rfl⟩)))).trans hx⟩
 lt:=fun {w b} h hb=>by
  rcases hb with hb | hb | ⟨h4,h5⟩
  ·exact hb.elim
  ·exact hb.elim
  ·obtain ⟨a,cap,rfl,h1,h2,h0,h3⟩:=h
   cases xs with
   | nil=>exact absurd rfl h4
   | cons u r=>
    obtain ⟨x,rfl,hx⟩:=h3 0 u rfl
    have:=World.block_lt_of_cell? w _ hx
    rw [add_block] at this
    simp only [Value.ownBlock,Option.some.injEq] at h5
    rw [← h5];exact this
instance (v:Value) (n:Nat) (xs:List Value):Lent (vwf v n xs):=⟨fun _=>⟨fun h=>h,fun h=>h⟩⟩
theorem has_vwf {F:List Ch} {v:Value} {n:Nat} {xs:List Value} (h:vwf v n xs ∈ F):Has F (vwf v n xs):=⟨fun _ hw=>hw.h _ h,fun _ h=>h,fun _ h=>h,fun _ hb=>⟨_,h,hb⟩⟩
theorem flat_row:∀ {rs:List (List Value)} {sz:Nat},(∀ r ∈ rs,r.length = sz)→∀ {i:Nat} {r:List Value},rs[i]? = some r→(rs.flatten.drop (sz * i)).take sz = r
 | [],_,_,i,r,h=>by simp at h
 | a :: rs,sz,hl,0,r,h=>by
  simp at h;subst h
  have:=hl a (by simp)
  simp [List.take_append,this,List.take_of_length_le]
 | a :: rs,sz,hl,i + 1,r,h=>by
  have ha:=hl a (by simp)
  have ih:=flat_row (rs:=rs) (sz:=sz) (fun r hr=>hl r (by simp [hr])) (i:=i) (r:=r) (by simpa using h)
  rw [List.flatten_cons,show sz * (i + 1) = a.length + sz * i by rw [ha,Nat.mul_succ];omega,List.drop_append,List.drop_eq_nil_of_le (by omega),List.nil_append,Nat.add_sub_cancel_left]
  exact ih
theorem flat_at {rs:List (List Value)} {sz i o:Nat} {r:List Value} {u:Value} (hl:∀ r ∈ rs,r.length = sz) (h:rs[i]? = some r) (ho:r[o]? = some u):rs.flatten[sz * i + o]? = some u:=by
 have h1:=flat_row hl h
 have h2:((rs.flatten.drop (sz * i)).take sz)[o]? = some u:=by rw [h1];exact ho
 rw [List.getElem?_take] at h2
 split at h2
 ·rwa [List.getElem?_drop] at h2
 ·cases h2
section
variable {P:Program} {E:Env P} {n:Sh} {X:Cx} {s:List K} {fr:Fr} {A A':List Ch} {ops:Array Oper} {rest:List Oper} {d m N sz by_:Nat} {ty t el:TypeId} {pos:String} {after:Array Edge} {v u z:Value} {x y:Operand} {xs vs:List Value} {dt:TypeDesc} {k1:IntKind} {w:World} {fs:Array Field} {f:Nat} {fld:Field}
theorem R_idxW {i:Int} (ht:lk E.und t = some (.slice el)) (he:lk E.inf el = some (z,sz,by_)) (hx:ev fr x = some v) (hy:ev fr y = some (.int k1 i)) (hS:SlW w v N xs) (h:0 ≤ i∧i < N):OpV P n fr (.indexAddr t x y) ty w (.pointer (some (adr v (sz * i.toNat)))) w:=⟨fun b hb _ _ _ _=>by
 obtain ⟨a,cap,rfl,h1,h2,h0,hc⟩:=hS
 obtain ⟨inf,hi,_,hsz,_⟩:=E.info he
 obtain ⟨ad,rfl⟩:=h0 (by omega)
 simp only [execOp,hb.ev hx,hb.ev hy]
 simp [Instr.indexAt,asIntOf,run_underlying (P:=P) (E.un ht) w,h,sizeOf,typeInfo,hi,hsz,adr,addrAt,Deep.add_add,Nat.mul_comm]⟩
theorem R_loadW (ht:lk E.und t = some dt) (hg:aggB dt = true) (hi:lk E.inf t = some (z,sz,by_)) (hx:ev fr x = some (.pointer (some (adr v m)))) (hS:SlW w v N xs) (hv:(xs.drop m).take sz = vs) (hl:vs.length = sz):OpV P n fr (.load t x) ty w (.agg vs.toArray) w:=⟨fun a ha _ _ _ _=>by
 obtain ⟨inf,h1,_,h2,_⟩:=E.info hi
 have h3:=run_loadCells_list (P:=P) w (adr v m) vs (fun j u hm=>by
  rw [adr_add]
  refine hS.cell ?_
  rw [← hv,List.getElem?_take] at hm
  split at hm
  ·rw [List.getElem?_drop] at hm;simpa using hm
  ·cases hm)
 rw [hl] at h3
 simp only [execOp,ha.ev hx]
 simp [Instr.loadAt,Instr.sureAddr,loadVar,aggB_t (w:=w) ht hg,sizeOf,typeInfo,h1,h2,h3]⟩
end
end Go.Art
namespace Go.Art
open Go Go.Proofs Go.RowKit
def OwnV (w:World) (e:TypeId) (sz:Nat) (v:Value) (n:Nat) (xs:List Value):Prop:=
 (v = .slice none 0 0∧n = 0∧xs = []) ∨
 ∃ b cap cur,v = .slice (some ⟨b,0,none⟩) n cap∧w.heap[b]? = some (.cells cur e (0,0))∧n ≤ cap∧cap ≤ maxLen∧cur.size = cap * sz∧xs.length = n * sz∧cur.toList.take (n * sz) = xs
theorem OwnV.blt {w:World} {e:TypeId} {sz n:Nat} {v:Value} {xs:List Value} (h:OwnV w e sz v n xs) {b:Nat} (hb:v.ownBlock = some b):b < w.heap.size:=by
 rcases h with ⟨rfl,_⟩ | ⟨b',cap,cur,rfl,h2,_⟩
 ·cases hb
 ·cases hb;exact lt_of_heap h2
theorem OwnV.keep {w w':World} {e:TypeId} {sz n:Nat} {v:Value} {xs:List Value} (h:OwnV w e sz v n xs) (hb:∀ b,v.ownBlock = some b→w'.heap[b]? = w.heap[b]?):OwnV w' e sz v n xs:=by
 rcases h with h | ⟨b,cap,cur,rfl,h2,h3⟩
 ·exact .inl h
 ·exact .inr ⟨b,cap,cur,rfl,(hb b rfl).trans h2,h3⟩
theorem OwnV.one {w:World} {e:TypeId} {sz n:Nat} {v:Value} {xs:List Value} (h:OwnV w e sz v n xs):v.oneCell' = true:=by
 rcases h with ⟨rfl,_⟩ | ⟨_,_,_,rfl,_⟩ <;> rfl
theorem OwnV.slw {w:World} {e:TypeId} {sz n:Nat} {v:Value} {xs:List Value} (h:OwnV w e sz v n xs):SlW w v n xs:=by
 rcases h with ⟨rfl,rfl,rfl⟩ | ⟨b,cap,cur,rfl,hb,h2,h3,h4,h5,h6⟩
 ·exact ⟨none,0,rfl,Nat.le_refl _,by unfold maxLen;omega,fun h=>absurd h (Nat.lt_irrefl _),fun i u h=>by simp at h⟩
 ·refine ⟨some ⟨b,0,none⟩,cap,rfl,h2,h3,fun _=>⟨_,rfl⟩,fun i u hi=>⟨_,rfl,?_⟩⟩
  rw [Addr.add_lit,Nat.zero_add,cell_of_row w b i cur e (0,0) hb]
  rw [← h6,List.getElem?_take] at hi
  split at hi
  ·simpa using hi
  ·cases hi
def oww (e:TypeId) (sz:Nat) (v:Value) (n:Nat) (xs:List Value):Ch where
 wr:=fun x=>v.ownBlock = some x
 rd:=fun _=>False
 bd:=fun _=>False
 P:=fun w=>OwnV w e sz v n xs
 loc:=fun h hb=>h.keep fun b h=>hb b (.inl h)
 lt:=fun h hb=>by rcases hb with hb | hb | hb;exact h.blt hb;exact hb.elim;exact hb.elim
instance (e:TypeId) (sz:Nat) (v:Value) (n:Nat) (xs:List Value):NoB (oww e sz v n xs):=⟨fun _ h=>h⟩
theorem has_oww {F:List Ch} {e:TypeId} {sz:Nat} {v:Value} {n:Nat} {xs:List Value} (h:oww e sz v n xs ∈ F):Has F (vwf v n xs):=
 ⟨fun _ hw=>OwnV.slw (hw.h (oww e sz v n xs) h),fun _ h=>h,fun _ h=>h,fun b hb=>⟨_,h,by rcases hb with hb | hb | hb;exact hb.elim;exact hb.elim;exact .inl hb.2⟩⟩
theorem oww_nil (e:TypeId) (sz:Nat) (A:List Ch):Im A (oww e sz (.slice none 0 0) 0 [] :: A):=by
 have h0:∀ b,¬ (oww e sz (.slice none 0 0) 0 []).ft b:=by rintro b (h | h | h);cases h;exact h;exact h
 refine ⟨fun w hw=>Sat.cons.2 ⟨.inl ⟨rfl,rfl,rfl⟩,fun a _=>⟨fun b hb=>absurd (.inl hb) (h0 b),fun b _ hf=>h0 b hf⟩,hw⟩,fun b hb=>?_,fun b hb=>?_,fun b hb=>?_⟩
 ·obtain ⟨x,hx,hb⟩:=hb
  rcases List.mem_cons.1 hx with rfl | hx
  ·exact absurd (.inl hb) (h0 b)
  ·exact ⟨x,hx,hb⟩
 ·obtain ⟨x,hx,hb⟩:=hb
  rcases List.mem_cons.1 hx with rfl | hx
  ·exact absurd (.inr (.inl hb)) (h0 b)
  ·exact .inr ⟨x,hx,hb⟩
 ·obtain ⟨x,hx,hb⟩:=hb
  rcases List.mem_cons.1 hx with rfl | hx
  ·exact absurd hb (h0 b)
  ·exact ⟨x,hx,hb⟩
structure Wid (sz:Nat) (vs:List Value) (xs:List Value):Prop where
 eq:vs.flatMap (fun v=>v.cells.toList) = xs
 all:∀ v ∈ vs,v.cells.size = sz
theorem Wid.nil {sz:Nat}:Wid sz [] []:=⟨rfl,fun _ h=>nomatch h⟩
theorem Wid.agg {sz:Nat} {cs:List Value} {vs xs:List Value} (hs:cs.length = sz) (k:Wid sz vs xs):Wid sz (.agg cs.toArray :: vs) (cs ++ xs):=⟨by rw [List.flatMap_cons,k.eq];rfl,fun v hv=>by
 rcases List.mem_cons.1 hv with rfl | hv
 ·exact hs
 ·exact k.all v hv⟩
theorem Wid.len {sz:Nat} {vs xs:List Value} (h:Wid sz vs xs):xs.length = vs.length * sz:=by
 obtain ⟨h1,h2⟩:=h
 subst h1
 induction vs with
 | nil=>simp
 | cons v r ih=>rw [List.flatMap_cons,List.length_append,ih (fun u hu=>h2 u (by simp [hu])),List.length_cons,Nat.succ_mul,Array.length_toList,h2 v (by simp)];omega
theorem fill_wide {sz:Nat}:∀ (vs:List Value) (j:Nat) (cells:Array Value),(∀ v ∈ vs,v.cells.size = sz)→(j + vs.length) * sz ≤ cells.size →
  Instr.fill (fun i=>some (i * sz,sz)) cells (idxP j vs) = some (cells.toList.take (j * sz) ++ vs.flatMap (fun v=>v.cells.toList) ++ cells.toList.drop ((j + vs.length) * sz)).toArray
 | [],j,cells,_,_=>by simp [idxP,Instr.fill]
 | v :: r,j,cells,h1,hl=>by
  have hv:=h1 v (by simp)
  have hle:(j + (r.length + 1)) * sz = j * sz + sz + r.length * sz:=by rw [Nat.add_mul,Nat.succ_mul];omega
  simp only [List.length_cons] at hl
  rw [hle] at hl
  have hb:¬ (j * sz + sz > cells.size):=by omega
  simp only [idxP,Instr.fill,hv]
  simp only [ne_eq,not_true_eq_false,decide_false,Bool.false_or,decide_eq_true_eq,hb,if_false]
  have hcl:v.cells.toList.length = sz:=by rw [Array.length_toList];exact hv
  have e:(v.cells.zipIdx.foldl (fun cs (x:Value × Nat)=>cs.setIfInBounds (j * sz + x.2) x.1) cells) = (cells.toList.take (j * sz) ++ v.cells.toList ++ cells.toList.drop (j * sz + sz)).toArray:=by
   have:=foldl_set v.cells.toList (j * sz) 0 cells (by rw [hcl];omega)
   simp only [Nat.add_zero] at this
   rw [hcl] at this
   rw [← Array.foldl_toList,Array.toList_zipIdx]
   exact this
  show Instr.fill _ (v.cells.zipIdx.foldl (fun cs (x:Value × Nat)=>cs.setIfInBounds (j * sz + x.2) x.1) cells) _ = _
  have hct:cells.toList.length = cells.size:=Array.length_toList
  have hrec:=fill_wide r (j + 1) (cells.toList.take (j * sz) ++ v.cells.toList ++ cells.toList.drop (j * sz + sz)).toArray (fun u hu=>h1 u (by simp [hu])) (by
   have:(j + 1 + r.length) * sz = j * sz + sz + r.length * sz:=by rw [Nat.add_mul,Nat.succ_mul]
   rw [this,List.size_toArray]
   simp only [List.length_append,List.length_take,List.length_drop,hcl,hct]
   omega)
  rw [e,hrec]
  congr 2
  have e1:(j + 1) * sz = j * sz + sz:=Nat.succ_mul _ _
  have e2:(j + 1 + r.length) * sz = j * sz + sz + r.length * sz:=by rw [Nat.add_mul,Nat.succ_mul]
  have hl1:(cells.toList.take (j * sz) ++ v.cells.toList).length = j * sz + sz:=by simp only [List.length_append,List.length_take,hcl,hct];omega
  rw [List.flatMap_cons,List.length_cons,hle,e1,e2]
  simp only [List.toList_toArray]
  rw [List.take_left' hl1,List.drop_append,List.drop_eq_nil_of_le (by omega),List.nil_append,hl1,List.drop_drop,Nat.add_sub_cancel_left]
  simp only [List.append_assoc]
section
variable {P:Program} {E:Env P} {n:Sh} {X:Cx} {s:List K} {fr:Fr} {A A':List Ch} {ops:Array Oper} {rest:List Oper} {d m N M sz by_:Nat} {ty t el e:TypeId} {pos:String} {after:Array Edge} {v u z:Value} {x y:Operand} {xs ys vs:List Value} {dt:TypeDesc} {k1:IntKind} {w:World}
theorem has_len {F:List Ch} (h:Has F (vwf v N xs)) (w:World) (hw:Sat F w):N ≤ 9223372036854775807:=(h.P w hw).len
theorem lnw (k:TO E n X s ops rest ((d,I N) :: fr) A) (hx:ev fr x = some v:=by rfl) (hm:Has A (vwf v N xs):=by exact hasA) (ht:lk E.und t = some (.slice el):=by rfl) (hd:Nat.blt d n.n = true:=by rfl) :
  TO E n X s ops (⟨some d,.call ⟨.builtin .len,#[x],#[t]⟩,ty,pos,after,none⟩ :: rest) fr A:=TO.val (v:=I N) (fun w h=>⟨fun a ha _ _ _ _=>by
 obtain ⟨_,cap,rfl,_⟩:=(hm.P w h:SlW w v N xs)
 simp only [execOp,resolve]
 simp [ha.ev hx,invoke,builtin,Builtin.len_,run_underlying (P:=P) (E.un ht) w,goInt]⟩) k hd
theorem ixws {i:Int} (k:TO E n X s ops rest ((d,.pointer (some (adr v (sz * i.toNat)))) :: fr) A) (hx:ev fr x = some v:=by rfl) (hy:ev fr y = some (.int k1 i):=by rfl) (hm:Has A (vwf v N xs):=by exact hasA) (hb:0 ≤ i∧i < N:=by omega)
  (ht:lk E.und t = some (.slice el):=by rfl) (he:lk E.inf el = some (z,sz,by_):=by rfl) (hd:Nat.blt d n.n = true:=by rfl):TO E n X s ops (⟨some d,.indexAddr t x y,ty,pos,after,none⟩ :: rest) fr A:=TO.val (fun w h=>R_idxW ht he hx hy (hm.P w h) hb) k hd
theorem ldaw (hv:(xs.drop m).take sz = vs) (k:TO E n X s ops rest ((d,.agg vs.toArray) :: fr) A) (hx:ev fr x = some (.pointer (some (adr v m))):=by rfl) (hm:Has A (vwf v N xs):=by exact hasA) (ht:lk E.und t = some dt:=by rfl) (hg:aggB dt = true:=by rfl) (hi:lk E.inf t = some (z,sz,by_):=by rfl) (hl:vs.length = sz:=by rfl) (hd:Nat.blt d n.n = true:=by rfl) :
  TO E n X s ops (⟨some d,.load t x,ty,pos,after,none⟩ :: rest) fr A:=TO.val (fun w h=>R_loadW ht hg hi hx (hm.P w h) hv hl) k hd
theorem slws {parts:List (Nat × Operand)} (k:∀ g,TO E n X s ops rest ((d,.slice (some ⟨g,0,none⟩) m m) :: fr) (oww e sz (.slice (some ⟨g,0,none⟩) m m) m xs :: A)) (hp:parts = idxP 0 (parts.map (·.2)):=by rfl) (hv:evs fr (parts.map (·.2)) = some vs:=by rfl)
  (hw:Wid sz vs xs:=by (repeat (first | exact Wid.nil | (apply Wid.agg;focus rfl)));first | done | fail) (hk:vs.length = m:=by rfl) (hk0:Nat.blt 0 (m * sz) = true:=by rfl) (hkm:Nat.ble (m * sz) 16777216 = true:=by rfl) (ht:lk E.und t = some (.slice e):=by rfl) (he:lk E.inf e = some (z,sz,by_):=by rfl) (hd:Nat.blt d n.n = true:=by rfl) :
  TO E n X s ops (⟨some d,.buildSlice t m parts.toArray,ty,pos,after,none⟩ :: rest) fr A:=⟨fun w hw'=>by
 subst hk
 obtain ⟨inf,hi,hiz,his,_⟩:=E.info he
 have hkm':=Nat.le_of_ble_eq_true hkm
 have hk0':=nblt_lt hk0
 have hwl:=hw.len
 refine SO_v hd (w':=w.alloc (.cells xs.toArray e)) ⟨fun a ha' _ _ _ _=>?_⟩ ((k w.heap.size).run _ (hw'.new (Upd.alloc w _) (.inr ⟨w.heap.size,vs.length,xs.toArray,rfl,heap_alloc_new w _,Nat.le_refl _,?_,by simp [hwl],hwl,by simp [← hwl]⟩) (by rintro b (h | h | h);(have h:some w.heap.size = some b:=h);cases h;exact Nat.le_refl _;exact h.elim;exact h.elim) (fun _ h=>h)))
 ·have hmap:(parts.map fun (x:Nat × Operand)=>(x.1,a.eval x.2)) = idxP 0 vs:=by
   have hev:=ha'.evs hv
   have gen:∀ (l:List Operand) (i:Nat),(idxP i l).map (fun (x:Nat × Operand)=>(x.1,a.eval x.2)) = idxP i (l.map a.eval):=by
    intro l
    induction l with
    | nil=>intro i;rfl
    | cons o r ih=>intro i;simp [idxP,ih]
   rw [hp,gen,hev]
  have hfill:=fill_wide (sz:=sz) vs 0 ((Array.range (vs.length * sz)).map (z.cells[· % z.cells.size]!)) hw.all (by simp)
  rw [hw.eq] at hfill
  have hres:((List.take (0 * sz) ((Array.range (vs.length * sz)).map (z.cells[· % z.cells.size]!)).toList ++ xs ++ List.drop ((0 + vs.length) * sz) ((Array.range (vs.length * sz)).map (z.cells[· % z.cells.size]!)).toList).toArray) = xs.toArray:=by
   rw [List.drop_eq_nil_of_le (by simp)];simp
  rw [hres] at hfill
  have hn0:¬ vs.length * sz = 0:=by omega
  have hn1:¬ 2 ^ 24 < vs.length * sz:=by omega
  have hn2:¬ (vs.length = 0∨sz = 0):=fun h=>hn0 (by rcases h with h | h <;> rw [h] <;> simp)
  have hgo:(Instr.buildSlice t vs.length ((parts.toArray.map fun (x:Nat × Operand)=>(x.1,a.eval x.2)))).run P w = .ok (.slice (some ⟨w.heap.size,0,none⟩) vs.length vs.length) (w.alloc (.cells xs.toArray e)):=by
   have hl:((parts.toArray.map fun (x:Nat × Operand)=>(x.1,a.eval x.2))).toList = idxP 0 vs:=by simp [hmap]
   simp only [Instr.buildSlice,hl]
   simp [run_underlying (P:=P) (E.un ht) w,sizeOf,typeInfo,hi,his,zeroValue,hiz,hn0,hn1,hn2,hfill,newRow,newObj,Sem.run]
  simp only [execOp]
  show Sem.run P (do let v ← Instr.buildSlice t vs.length ((parts.toArray.map fun (x:Nat × Operand)=>(x.1,a.eval x.2)));pure (Next.value v)) w = _
  rw [List.map_toArray] at hgo
  simp [hgo]
 ·unfold maxLen
  have:vs.length ≤ vs.length * sz:=Nat.le_mul_of_pos_right _ (Nat.pos_of_ne_zero fun h=>by rw [h] at hk0';simp at hk0')
  omega⟩
theorem run_appendV (t':TypeId) (w:World) (ht:lk E.und t = some (.slice e)) (he:lk E.inf e = some (z,sz,by_)) (hz:z.cells.size = sz) (hown:OwnV w e sz v N xs) (hu:SlW w u M ys) (hys:ys.length = M * sz) (h1:∀ c ∈ ys,c.oneCell' = true) (hM:0 < M)
  (hby:(N + M) * by_ ≤ 140737488355328) (h63:N + M ≤ 4611686018427387903) :
  ∃ v' w',(Builtin.append_ #[t,t] t' #[v,u]).run P w = .ok v' w'∧OwnV w' e sz v' (N + M) (xs ++ ys)∧Upd w w' v.ownBlock.toList∧∀ b,v'.ownBlock = some b→v.ownBlock = some b∨w.heap.size ≤ b:=by
 obtain ⟨inf,hi,hiz,his,hib⟩:=E.info he
 have ht':=E.un ht
 obtain ⟨a,c,rfl,hc1,hc2,h0,hcell⟩:=hu
 obtain ⟨ad,rfl⟩:=h0 hM
 have hnews:∀ j c,ys[j]? = some c→w.cell? (ad.add j) = some c:=fun j c hj=>by
  obtain ⟨y,hy,hc⟩:=hcell j c hj
  cases hy;exact hc
 have hl:ys.length = M * inf.size:=by rw [his,hys]
 subst hib
 have hupd:∀ (o:Obj) (S:List Nat),Upd w (w.drew.alloc o) S:=fun o S=>((Upd.drew w).trans (Upd.alloc w.drew o)).weak (by simp)
 have grow:∀ (old:Nat),xs.length = N * sz→OwnV (w.drew.alloc (.cells (xs.toArray ++ ys.toArray ++ Builtin.zeroCells z.cells (grownCap w (N + M) old e - (N + M))) e)) e sz
   (.slice (some ⟨w.heap.size,0,none⟩) (N + M) (grownCap w (N + M) old e)) (N + M) (xs ++ ys):=by
  intro old hxs
  have hge:=grownCap_ge w (N + M) old e
  obtain ⟨q,hq⟩:=Nat.exists_eq_add_of_le hge
  refine .inr ⟨w.heap.size,grownCap w (N + M) old e,_,rfl,heap_alloc_new w.drew _,hge,grownCap_le_maxLen w _ old e (by unfold maxLen;omega),?_,?_,?_⟩
  ·simp only [Array.size_append,List.size_toArray,size_zeroCells,hz,hxs,hys,hq,Nat.add_sub_cancel_left,Nat.add_mul]
  ·rw [List.length_append,hxs,hys,Nat.add_mul]
  ·simp only [Array.toList_append]
   exact List.take_left' (by rw [List.length_append,hxs,hys,Nat.add_mul])
 rcases hown with ⟨rfl,rfl,rfl⟩ | ⟨b,cap,cur,rfl,hb,h2,h3,h4,h5,h6⟩
 ·have hr:=run_append_nil (P:=P) w t t' e inf z ht' hi hiz ad M c ys hl hnews hM (by omega) (by rw [Nat.zero_add] at hby;omega)
  have hg:=grow 0 (by simp)
  simp only [Nat.zero_add,List.nil_append,Array.empty_append] at hg ⊢
  exact ⟨_,_,hr,hg,hupd _ _,fun b' hb'=>by cases hb';exact .inr (Nat.le_refl _)⟩
 ·by_cases hroom:N + M ≤ cap
  ·have hle:(N + M) * sz ≤ cap * sz:=Nat.mul_le_mul_right sz hroom
   rw [Nat.add_mul] at hle
   have hr:=run_append_room (P:=P) w t t' e inf ht' hi b N cap cur hb ad M c ys hl hnews h1 hroom (by rw [his,h4,hys];exact hle)
   rw [his] at hr
   have hct:cur.toList.length = cur.size:=Array.length_toList
   refine ⟨_,_,hr,.inr ⟨b,cap,_,rfl,setRow_heap w b cur _ e _ hb,hroom,h3,?_,?_,?_⟩,Upd.setRow w b _,fun _ h=>.inl h⟩
   ·simp only [List.size_toArray,List.length_append,List.length_take,List.length_drop,hct,hys];omega
   ·rw [List.length_append,h5,hys,Nat.add_mul]
   ·rw [h6]
    exact List.take_left' (by rw [List.length_append,h5,hys,Nat.add_mul])
  ·have hc:∀ j c,xs[j]? = some c→w.cell? ((⟨b,0,none⟩ : Addr).add j) = some c:=fun j c hj=>by
    rw [Addr.add_lit,Nat.zero_add,cell_of_row w b j cur e (0,0) hb]
    rw [← h6,List.getElem?_take] at hj
    split at hj
    ·simpa using hj
    ·cases hj
   have hr:=run_append_grow (P:=P) w t t' e inf z ht' hi hiz ⟨b,0,none⟩ N cap xs (by rw [his];exact h5) hc ad M c ys hl hnews (by omega) (by omega) (growslice_fits (by omega) hby)
   exact ⟨_,_,hr,grow cap h5,hupd _ _,fun b' hb'=>by cases hb';exact .inr (Nat.le_refl _)⟩
theorem apw (hM:0 < M) (hys:ys.length = M * sz) (h1:∀ c ∈ ys,c.oneCell' = true) (k:∀ v',v'.oneCell' = true→TO E n X s ops rest ((d,v') :: fr) (oww e sz v' (N + M) (xs ++ ys) :: A')) (hx:ev fr x = some v:=by rfl) (hy:ev fr y = some u:=by rfl) (hm:Tk (oww e sz v N xs) A A':=by exact tkA) (hu:Has A' (vwf u M ys):=by exact hasA)
  (ht:lk E.und t = some (.slice e):=by rfl) (he:lk E.inf e = some (z,sz,by_):=by rfl) (hz:z.cells.size = sz:=by rfl) (hby:(N + M) * by_ ≤ 140737488355328:=by omega) (h63:N + M ≤ 4611686018427387903:=by omega) (hd:Nat.blt d n.n = true:=by rfl) :
  TO E n X s ops (⟨some d,.call ⟨.builtin .append,#[x,y],#[t,t]⟩,ty,pos,after,none⟩ :: rest) fr A:=⟨fun w hw=>by
 have h2:=hw.im hm
 have h3:OwnV w e sz v N xs:=h2.mem (List.Mem.head _)
 have h4:SlW w u M ys:=hu.P w (Sat.cons.1 h2.sat).2.2
 obtain ⟨v',w',hr,hO,hU,hW⟩:=run_appendV (P:=P) ty w ht he hz h3 h4 hys h1 hM hby h63
 refine SO_v hd (w':=w') (v:=v') ⟨fun a ha' _ _ _ _=>?_⟩ ((k v' hO.one).run w' (h2.set hU (fun b hb=>.inl (by show v.ownBlock = some b;simpa using hb)) hO ?_ (fun _ h=>h)))
 ·simp only [execOp,resolve]
  simp [ha'.ev hx,ha'.ev hy,invoke,builtin,hr]
 ·rintro b (hb' | hb' | hb')
  ·exact hW b hb'
  ·exact hb'.elim
  ·exact hb'.elim⟩
theorem wide_take {c vs:List Value} {m sz L:Nat} (hl:vs.length = sz) (hm:m + sz ≤ L) (hL:L ≤ c.length):(c.take m ++ vs ++ c.drop (m + sz)).take L = (c.take L).take m ++ vs ++ (c.take L).drop (m + sz):=by
 rw [List.take_append,List.take_of_length_le (by simp;omega),List.take_take,Nat.min_eq_left (by omega),List.drop_take]
 congr 2
 simp;omega
theorem sow (hmN:m + sz ≤ N * sz) (k:TO E n X s ops rest fr (oww e sz v N (xs.take m ++ vs ++ xs.drop (m + sz)) :: A')) (ha:ev fr x = some (.pointer (some (adr v m))):=by rfl) (hm:Tk (oww e sz v N xs) A A':=by exact tkA) (hx:ev fr y = some (.agg vs.toArray):=by rfl) (hi:lk E.inf t = some (z,sz,by_):=by rfl) (hl:vs.length = sz:=by rfl) (hs0:Nat.blt 0 sz = true:=by rfl)
  (h1:∀ v ∈ vs,v.oneCell' = true:=by simp;first | done | rfl | assumption):TO E n X s ops (⟨none,.store t x y,ty,pos,after,none⟩ :: rest) fr A:=⟨fun w hw=>by
 have hw2:=hw.im hm
 have hs1:=nblt_lt hs0
 have hO:OwnV w e sz v N xs:=hw2.mem (List.Mem.head _)
 rcases hO with ⟨_,rfl,_⟩ | ⟨b,cap,cur,rfl,hb,g2,g3,g4,g5,g6⟩
 ·rw [Nat.zero_mul] at hmN;omega
 ·have hA:adr (.slice (some ⟨b,0,none⟩) N cap) m = ⟨b,m,none⟩:=by simp [adr,addrAt,Addr.add_lit]
  rw [hA] at ha
  have hle:N * sz ≤ cap * sz:=Nat.mul_le_mul_right sz g2
  have hct:cur.toList.length = cur.size:=Array.length_toList
  refine SO_storeA (cs:=cur.toList) (T:=e) hi ha hx hl h1 hb (by omega) fun w' hU hH=>k.run w' (hw2.set hU (fun y hy=>.inl (by show some b = some y;rw [List.mem_singleton.1 hy])) (.inr ⟨b,cap,_,rfl,hH,g2,g3,?_,?_,?_⟩) (by rintro y (h | h | h);exact .inl h;exact h.elim;exact h.elim) (fun _ h=>h))
  ·simp only [List.size_toArray,List.length_append,List.length_take,List.length_drop,hct,hl];omega
  ·simp only [List.length_append,List.length_take,List.length_drop,hl,g5];omega
  ·rw [← g6]
   exact wide_take hl hmN (by omega)⟩
theorem madeW (z:Array Value) (n:Nat):(madeCells z (n * z.size)).toList = (List.replicate n z.toList).flatten:=by
 have hlen:((List.replicate n z.toList).flatten).length = n * z.size:=by simp
 refine List.ext_getElem (by rw [hlen];simp [size_madeCells]) fun i h1 h2=>?_
 have h3:i < n * z.size:=by rwa [hlen] at h2
 have hz:0 < z.size:=Nat.pos_of_ne_zero fun h=>by rw [h] at h3;simp at h3
 have hdiv:i / z.size < n:=(Nat.div_lt_iff_lt_mul hz).2 h3
 have hmod:=Nat.mod_lt i hz
 have h4:=flat_at (rs:=List.replicate n z.toList) (sz:=z.size) (i:=i / z.size) (o:=i % z.size) (r:=z.toList) (u:=z[i % z.size]) (fun r hr=>by rw [List.eq_of_mem_replicate hr];simp) (by rw [List.getElem?_replicate,if_pos hdiv]) (by simp [hmod])
 rw [Nat.div_add_mod,List.getElem?_eq_getElem h2] at h4
 rw [Option.some.inj h4]
 simp [madeCells,hmod]
theorem mkw {c:Int} (k:∀ v',v'.oneCell' = true→TO E n X s ops rest ((d,v') :: fr) (oww e sz v' c.toNat (List.replicate c.toNat z.cells.toList).flatten :: A)) (hx:ev fr x = some (.int k1 c):=by rfl) (hy:ev fr y = some (.int k1 c):=by rfl) (ht:lk E.und t = some (.slice e):=by rfl) (he:lk E.inf e = some (z,sz,by_):=by rfl) (hz:z.cells.size = sz:=by rfl)
  (h0:0 ≤ c:=by omega) (hby:by_ * c.toNat ≤ 281474976710656:=by omega) (h63:c ≤ 4611686018427387903:=by omega) (hd:Nat.blt d n.n = true:=by rfl) :
  TO E n X s ops (⟨some d,.makeSlice t x y,ty,pos,after,none⟩ :: rest) fr A:=⟨fun w hw=>by
 obtain ⟨inf,hi,hiz,his,hib⟩:=E.info he
 have hm:c = ((c.toNat:Nat):Int):=by omega
 obtain ⟨w',hr,hown,hg⟩:=run_make_full (P:=P) w 0 t e inf z sz (E.un ht) hi hiz his k1 k1 c.toNat (by rw [hib];exact hby) (by unfold maxLen;omega) (Nat.zero_le _)
 have hU:Ext w w':=⟨hg.os,hg.tape,hg.output,hg.size,fun k hk _=>hg.block k hk (by simp)⟩
 subst hz
 rw [madeW] at hown
 refine SO_v hd (w':=w') ⟨fun a ha' _ _ _ _=>?_⟩ ((k _ rfl).run _ (hw.new hU (c:=oww e z.cells.size (.slice (some ⟨w.heap.size,0,none⟩) c.toNat c.toNat) c.toNat _) ?_ (by rintro b (h | h | h);(have h:some w.heap.size = some b:=h);cases h;exact Nat.le_refl _;exact h.elim;exact h.elim) (fun _ h=>h)))
 ·rw [← hm] at hr
  simp only [execOp,ha'.ev hx,ha'.ev hy]
  simp [hr]
 ·rcases hown.2 with ⟨h1,_⟩ | ⟨g,cap,cur,h1,_,h2,h3,h4,h5,h6⟩
  ·cases h1
  ·simp only [Value.slice.injEq,Option.some.injEq,Addr.mk.injEq,true_and,and_true] at h1
   obtain ⟨rfl,rfl⟩:=h1
   exact .inr ⟨_,c.toNat,cur,rfl,h2,Nat.le_refl _,h4,h5,by simp,by simpa using h6⟩⟩
end
end Go.Art
namespace Go.Art
open Go Go.Proofs Go.RowKit
section
variable {P:Program} {E:Env P} {n:Sh} {X:Cx} {s:List K} {fr:Fr} {A A' B F D G:List Ch} {ops:Array Oper} {rest l:List Oper} {d:Nat} {o:Op} {ty t t':TypeId} {pos:String} {after:Array Edge} {v u:Value} {w:World} {Q0:Exit→Act→World→Prop}
structure FnD (P:Program) (f:FuncId) (args:List Value) (w:World) (R:Value→World→Prop):Prop where
 can:Callable P f
 calls:∀ u,CallsDIn (FF none) 0 P f args.toArray u w fun e u' w'=>u' = u∧∃ v,e = .returned v∧R v w'
theorem FnD.enter {f:FuncId} {fn:Func} {c:Code} {args:List Value} {R:Value→World→Prop} (E:Env P) (n:Nat) (hf:P.funcs[f]? = some fn) (hnm:(fn.name == "runtime.NumGoroutine") = false) (hb:fn.body = some c)
  (hn:fn.ntmps = n) (hl:Nat.ble args.length n = true) (h:SC E ⟨n,[],none⟩ (bodyPost P fn (RetP R)) [] c (argFr args 0) w):FnD P f args w R:=by
 refine ⟨⟨fn,hf,hnm,by simp [hb]⟩,fun u=>callsDIn_of_wp hf hb trivial ?_⟩
 subst hn
 have hl':args.length ≤ fn.ntmps:=Nat.le_of_ble_eq_true hl
 exact h.run _ ⟨by simp;omega,rfl,argFr_slot args fn.ntmps⟩
structure TrD (P:Program) (f:FuncId) (args:List Value) (pre A:List Ch) (R:Value→List Ch→Prop):Prop where
 run:∀ w,Sat (pre ++ A) w→FnD P f args w (PR w A R)
 lent:∀ c ∈ pre,∀ b,¬ c.wr b∧¬ c.rd b
theorem St.startD {X:Cx} {pre:List Ch} {w:World} (hw:Sat (pre ++ X.A0) w) (hx:X.w0 = w) (hp:∀ c ∈ pre,∀ b,¬ c.wr b∧¬ c.rd b):St X (pre ++ X.A0) w:=by
 subst hx
 refine ⟨hw,(Mv.refl X.w0 X.A0).trans ⟨rfl,rfl,rfl,Nat.le_refl _,fun _ _ _=>rfl,fun b hb=>?_,fun b hb=>?_⟩⟩
 ·rcases wrs_app.1 hb with ⟨c,hc,h1⟩ | h1
  ·exact absurd h1 (hp c hc b).1
  ·exact .inl h1
 ·rcases rds_app.1 hb with ⟨c,hc,h1⟩ | h1
  ·exact absurd h1 (hp c hc b).2
  ·exact .inr (.inl h1)
theorem TrD.enter {f:FuncId} {fn:Func} {c:Code} {args:List Value} {pre A:List Ch} {R:Value→List Ch→Prop} (E:Env P) (n:Nat) (hf:P.funcs[f]? = some fn) (hnm:(fn.name == "runtime.NumGoroutine") = false) (hb:fn.body = some c)
  (hn:fn.ntmps = n) (hl:Nat.ble args.length n = true) (hp:∀ c ∈ pre,∀ b,¬ c.wr b∧¬ c.rd b) (h:∀ w0,TC E ⟨n,[],none⟩ ⟨bodyPost P fn (RetP (PR w0 A R)),w0,A⟩ [] c (argFr args 0) (pre ++ A)):TrD P f args pre A R:=
 ⟨fun w hw=>FnD.enter E n hf hnm hb hn hl ((h w).run w (St.startD (X:=⟨_,w,A⟩) hw rfl hp)),hp⟩
abbrev DP (P:Program) (fn:Func) (w0:World) (A:List Ch) (R:Value→List Ch→Prop):Exit→Act→World→Prop:=bodyPostDIn (FF none) 0 P fn (RetP (PR w0 A R))
theorem Tr.enterD {f:FuncId} {fn:Func} {c:Code} {args:List Value} {pre A:List Ch} {R:Value→List Ch→Prop} (E:Env P) (n:Nat) (hf:P.funcs[f]? = some fn) (hnm:(fn.name == "runtime.NumGoroutine") = false) (hb:fn.body = some c)
  (hn:fn.ntmps = n) (hl:Nat.ble args.length n = true) (hp:∀ c ∈ pre,∀ b,¬ c.wr b∧¬ c.rd b) (h:∀ w0,TC E ⟨n,[],none⟩ ⟨DP P fn w0 A R,w0,A⟩ [] c (argFr args 0) (pre ++ A)):Tr P f args pre A R:=by
 refine ⟨fun w hw=>⟨⟨fn,hf,hnm,by simp [hb]⟩,calls_of_FF (r:=none) (k:=0) (callsIn_of_wp_defers hf hb trivial ?_)⟩,hp⟩
 have h1:=(h w).run w (St.startD (X:=⟨_,w,A⟩) hw rfl hp)
 subst hn
 have hl':args.length ≤ fn.ntmps:=Nat.le_of_ble_eq_true hl
 exact h1.run _ ⟨by simp;omega,rfl,argFr_slot args fn.ntmps⟩
theorem run_resolveF {f:FuncId} {a:Act} {g:Operand} {cap:Array Value} {xs:List Operand} {ats:Array TypeId} {vs:List Value} (hg:a.eval g = .func (.func f) #[] cap) (hv:xs.map a.eval = vs) :
  (resolve a.eval ⟨.value g,xs.toArray,ats⟩ ty).run P w = .ok { target:=.fn (.func f) cap,args:=vs.toArray } w:=by
 have h2:(Array.map a.eval xs.toArray) = vs.toArray:=by simp [hv]
 simp only [resolve,h2,hg,Deferred.ofValue]
 simp
theorem SO_defer {m:Nat} {ds:List Deferred} {f:FuncId} {g:Operand} {cap:Array Value} {xs:List Operand} {ats:Array TypeId} {vs:List Value} (hg:ev fr g = some (.func (.func f) #[] cap)) (hv:evs fr xs = some vs)
  (h:SO E ⟨m,{ target:=.fn (.func f) cap,args:=vs.toArray } :: ds,none⟩ Q0 s ops rest fr w):SO E ⟨m,ds,none⟩ Q0 s ops (⟨none,.defer ⟨.value g,xs.toArray,ats⟩,ty,pos,after,none⟩ :: rest) fr w:=⟨fun a ha=>
 wpListIn_plain rfl fun K hK=>⟨fun _ _=>trivial,by
  have h1:=run_resolveF (P:=P) (w:=w) (ats:=ats) (ty:=ty) (ha.ev hg) (ha.evs hv)
  have h2:(execOp a.eval ⟨none,.defer ⟨.value g,xs.toArray,ats⟩,ty,pos,after,none⟩).run P w = .ok (.defer { target:=.fn (.func f) cap,args:=vs.toArray }) w:=by
   simp only [execOp]
   simp only [Sem.run_bind,h1,Result.andThen_ok]
   rfl
  have h3:(Oper.semAt (FF none).round a.eval ⟨none,.defer ⟨.value g,xs.toArray,ats⟩,ty,pos,after,none⟩).run P w = .ok (.defer { target:=.fn (.func f) cap,args:=vs.toArray }) w:=h2
  rw [h3]
  simp only [Oper.uponIn]
  exact hK _ _ (h.run _ ⟨ha.size,by show _ :: a.defers = _;rw [ha.defers],ha.slot⟩)⟩⟩
theorem df {m:Nat} {ds:List Deferred} {f:FuncId} {g:Operand} {cap:Array Value} {xs:List Operand} {ats:Array TypeId} {vs:List Value} (k:TO E ⟨m,{ target:=.fn (.func f) cap,args:=vs.toArray } :: ds,none⟩ X s ops rest fr A) (hg:ev fr g = some (.func (.func f) #[] cap):=by rfl) (hv:evs fr xs = some vs:=by rfl) :
  TO E ⟨m,ds,none⟩ X s ops (⟨none,.defer ⟨.value g,xs.toArray,ats⟩,ty,pos,after,none⟩ :: rest) fr A:=⟨fun w hw=>SO_defer hg hv (k.run w hw)⟩
theorem TrD.at {f:FuncId} {vs:List Value} {pre:List Ch} {R:Value→List Ch→Prop} {w:World} (hf:TrD P f vs pre B R) (hs:Fit A B F) (hp:∀ c ∈ pre,Has F c) (hw:St X A w):FnD P f vs w fun v w'=>∃ D,R v D∧St X (D ++ F) w':=by
 have h1:=hw.im hs
 have h2:=hf.run w (lend h1.sat hp)
 refine ⟨h2.can,fun u=>?_⟩
 obtain ⟨g1,g2⟩:=h2.calls u
 refine ⟨g1,fun c cs hc hr=>?_⟩
 obtain ⟨e,u',w',fr,⟨q1,v,q2,D,hR,hS,hM,hB⟩,q3⟩:=g2 c cs hc hr
 exact ⟨e,u',w',fr,⟨q1,v,q2,D,hR,h1.step hM hS hB⟩,q3⟩
theorem rD {m:Nat} {ds:List Deferred} {f:FuncId} {fn:Func} {vs:List Value} {cap:Array Value} {pre:List Ch} {w0:World} {A0:List Ch} {R R':Value→List Ch→Prop} (hf:TrD P f (vs ++ cap.toList) pre B R') (k:∀ v D,R' v D→TX E ⟨m,ds,none⟩ ⟨DP P fn w0 A0 R,w0,A0⟩ [] .ret fr (D ++ F)) (hs:Fit A B F:=by exact fitA)
  (hp:∀ c ∈ pre,Has F c:=by (repeat (first | exact has0 | refine has1 hasA ?_));first | done | fail):TX E ⟨m,{ target:=.fn (.func f) cap,args:=vs.toArray } :: ds,none⟩ ⟨DP P fn w0 A0 R,w0,A0⟩ [] .ret fr A:=⟨fun w hw=>⟨fun a ha=>by
 show LeavesIn (FF none) 0 P fn a.tmps (RetP (PR w0 A0 R)) a.defers .returning w
 rw [ha.defers]
 have h1:=hf.at hs hp hw
 have h2:=run_callFunc_fn h1.can (vs ++ cap.toList).toArray w
 have h3:vs.toArray ++ cap = (vs ++ cap.toList).toArray:=by simp
 unfold LeavesIn
 refine ⟨by simp,fun h=>(by cases h),.func f,cap,f,(vs ++ cap.toList).toArray,rfl,?_,fun _ _=>trivial,?_⟩
 ·simp only [invoke,h3];exact h2
 ·obtain ⟨g1,g2⟩:=h1.calls .returning
  refine ⟨g1,fun c cs hc hr=>?_⟩
  obtain ⟨e,u',w',fr',⟨q1,v,q2,D,hR,hS⟩,q3⟩:=g2 c cs hc hr
  refine ⟨e,u',w',fr',?_,q3⟩
  subst q1;subst q2
  exact ((k v D hR).run w' hS).run { a with defers:=ds } ⟨ha.size,rfl,ha.slot⟩⟩⟩
theorem rDn {m:Nat} {fn:Func} {w0:World} {A0:List Ch} {R:Value→List Ch→Prop} (h:R v D) (hr:∀ w,Sat A w→∀ a,Holds ⟨m,[],none⟩ a fr→(results fn a.tmps).run P w = .ok v w) (hf:Fit A D G:=by exact fitA) (nb:∀ c ∈ D,∀ b,¬ c.bd b:=by (repeat (first | exact nb0 | refine nb1 ?_));first | done | fail) :
  TX E ⟨m,[],none⟩ ⟨DP P fn w0 A0 R,w0,A0⟩ [] .ret fr A:=⟨fun w hw=>⟨fun a ha=>by
 show LeavesIn (FF none) 0 P fn a.tmps (RetP (PR w0 A0 R)) a.defers .returning w
 rw [ha.defers]
 unfold LeavesIn
 have h1:=hw.im (Im.trans hf (Im.drop _ _))
 exact ⟨v,hr w hw.sat a ha,v,rfl,D,h,h1.sat,h1.mv,nb⟩⟩⟩
end
end Go.Art
namespace Go.Art
open Go Go.Proofs Go.RowKit
abbrev wU (n:Int):Value:=.int .u64 n
def Zs (l:List Nat):List Int:=l.map Int.ofNat
theorem Us_eq (l:List Nat):Us l = (Zs l).map wU:=by unfold Zs;rw [List.map_map];rfl
open Go Go.Proofs Go.RowKit
def hpc:List (Value × Value)→List Value
 | []=>[]
 | p :: r=>p.1 :: p.2 :: hpc r
def pcl:List Rat→List (List Int)
 | []=>[]
 | q :: r=>Zs (dg q.num.natAbs) :: Zs (dg q.den) :: pcl r
abbrev rrow (q:Rat) (h:Value × Value):List Value:=[.bool (decide (q.num < 0)),h.1,h.2]
def rcs (qs:List Rat) (hs:List (Value × Value)):List Value:=(List.zipWith rrow qs hs).flatten
abbrev nS2:Value × Value:=(nS,nS)
theorem hpc_len (hs:List (Value × Value)):(hpc hs).length = 2 * hs.length:=by
 induction hs with
 | nil=>rfl
 | cons p r ih=>simp only [hpc,List.length_cons,ih];omega
theorem pcl_len (qs:List Rat):(pcl qs).length = 2 * qs.length:=by
 induction qs with
 | nil=>rfl
 | cons p r ih=>simp only [pcl,List.length_cons,ih];omega
theorem hpc_app (a b:List (Value × Value)):hpc (a ++ b) = hpc a ++ hpc b:=by
 induction a with
 | nil=>rfl
 | cons p r ih=>simp [hpc,ih]
theorem pcl_app (a b:List Rat):pcl (a ++ b) = pcl a ++ pcl b:=by
 induction a with
 | nil=>rfl
 | cons p r ih=>simp [pcl,ih]
theorem hpc_get:∀ (hs:List (Value × Value)) (i:Nat),i < hs.length→(hpc hs).getD (2 * i) nS = (hs.getD i nS2).1∧(hpc hs).getD (2 * i + 1) nS = (hs.getD i nS2).2
 | [],i,h=>absurd h (Nat.not_lt_zero _)
 | p :: r,0,_=>⟨rfl,rfl⟩
 | p :: r,i + 1,h=>by
  have:=hpc_get r i (by simpa using h)
  rw [show 2 * (i + 1) = 2 * i + 1 + 1 by omega]
  simpa [hpc,List.getD_eq_getElem?_getD] using this
theorem pcl_get:∀ (qs:List Rat) (i:Nat),i < qs.length→(pcl qs).getD (2 * i) [] = Zs (dg (qs.getD i 0).num.natAbs)∧(pcl qs).getD (2 * i + 1) [] = Zs (dg (qs.getD i 0).den)
 | [],i,h=>absurd h (Nat.not_lt_zero _)
 | p :: r,0,_=>⟨rfl,rfl⟩
 | p :: r,i + 1,h=>by
  have:=pcl_get r i (by simpa using h)
  rw [show 2 * (i + 1) = 2 * i + 1 + 1 by omega]
  simpa [pcl,List.getD_eq_getElem?_getD] using this
abbrev vfr (hs:List (Value × Value)) (qs:List Rat):Ch:=velg wU (hpc hs) (pcl qs)
abbrev ofr (hs:List (Value × Value)) (qs:List Rat):Ch:=owl T64 wU (hpc hs) (pcl qs)
theorem has_fr {F:List Ch} {hs:List (Value × Value)} {qs:List Rat} (h:Has F (vfr hs qs)) (hl:hs.length = qs.length) {i:Nat} (hi:i < qs.length):Has F (vw (hs.getD i nS2).1 (Us (dg (qs.getD i 0).num.natAbs)))∧Has F (vw (hs.getD i nS2).2 (Us (dg (qs.getD i 0).den))):=by
 have a1:=has_elg h (i:=2 * i) (by rw [pcl_len];omega)
 have a2:=has_elg h (i:=2 * i + 1) (by rw [pcl_len];omega)
 rw [(hpc_get hs i (by omega)).1,(pcl_get qs i hi).1,← Us_eq] at a1
 rw [(hpc_get hs i (by omega)).2,(pcl_get qs i hi).2,← Us_eq] at a2
 exact ⟨a1,a2⟩
theorem rcs_row {hs:List (Value × Value)} {qs:List Rat} (hl:hs.length = qs.length) {i:Nat} (hi:i < qs.length):((rcs qs hs).drop (3 * i)).take 3 = rrow (qs.getD i 0) (hs.getD i nS2):=by
 refine flat_row (sz:=3) (fun r hr=>?_) ?_
 ·obtain ⟨j,hj,rfl⟩:=List.mem_iff_getElem.1 hr
  rw [List.getElem_zipWith];rfl
 ·rw [List.getElem?_zipWith,List.getElem?_eq_getElem hi,List.getElem?_eq_getElem (show i < hs.length by omega)]
  simp [List.getD_eq_getElem?_getD,hi,show i < hs.length by omega]
theorem fr_one {F:List Ch} {hs:List (Value × Value)} {qs:List Rat} (h:Has F (vfr hs qs)) (hl:hs.length = qs.length) {i:Nat} (hi:i < qs.length) (w:World) (hw:Sat F w):(hs.getD i nS2).1.oneCell' = true∧(hs.getD i nS2).2.oneCell' = true:=by
 obtain ⟨a1,a2⟩:=has_fr h hl hi
 obtain ⟨_,_,e1,_⟩:=(a1.P w hw:Sl w _ _)
 obtain ⟨_,_,e2,_⟩:=(a2.P w hw:Sl w _ _)
 rw [e1,e2]
 exact ⟨rfl,rfl⟩
theorem foldl_take {α β:Type} [Inhabited α] (f:β→α→β) (b:β) {l:List α} {i:Nat} (h:i < l.length) (z:α):(l.take (i + 1)).foldl f b = f ((l.take i).foldl f b) (l.getD i z):=by
 rw [take_succ' h z,List.foldl_append];rfl
section
variable {P:Program} {E:Env P} {fr:Fr} {n:Sh}
theorem res_ac {fn:Func} {w:World} {a:Act} (ha:Holds n a fr) {t u:Nat} {ty ty2 T:TypeId} {dt d2:TypeDesc} {z:Value} {sz by_ b:Nat} {cs vs:List Value} {ad2:Addr} {v2:Value} (hr:fn.results = #[.cell t ty,.cell u ty2]) (ht:lk E.und ty = some dt) (hg:aggB dt = true) (hi:lk E.inf ty = some (z,sz,by_)) (h1:get fr t = some (ptr b))
  (hb:w.heap[b]? = some (.cells cs.toArray T (0,0))) (hv:cs.take sz = vs) (hl:vs.length = sz) (ht2:lk E.und ty2 = some d2) (hg2:aggB d2 = false) (h2:get fr u = some (.pointer (some ad2))) (hc2:w.cell? ad2 = some v2):(results fn a.tmps).run P w = .ok (.tuple #[.agg vs.toArray,v2]) w:=by
 obtain ⟨inf,g1,_,g2,_⟩:=E.info hi
 have h3:=run_loadCells_list (P:=P) w ⟨b,0,none⟩ vs (fun m u hm=>by
  rw [Addr.add_lit]
  refine blk_cell hb ?_
  rw [← hv,List.getElem?_take] at hm
  split at hm
  ·simpa using hm
  ·cases hm)
 rw [hl] at h3
 have e1:a.tmps[t]?.getD undef = ptr b:=by have:=ha.slot t _ h1;simpa using this
 have e2:a.tmps[u]?.getD undef = .pointer (some ad2):=by have:=ha.slot u _ h2;simpa using this
 simp only [results,hr]
 simp [e1,e2,asAddr,loadVar,aggB_t (w:=w) ht hg,sizeOf,typeInfo,g1,g2,h3,aggB_run (w:=w) ht2 hg2,hc2]
end
structure FoG where
 i:Nat
 vn:Value
 vd:Value
attribute [local irreducible] Fit pt own ro vw mpc lpt vels rels mow lrc dfr
attribute [local irreducible] lmp lme mit velg relg bnd owl
theorem foldD_tr (c7 c6:Nat):TrD Tryz.prog 119 [ptr c7,ptr c6] [lpt c7 [I 0] 27] [] fun _ D=>D = []:=by
 refine TrD.enter env _ Tryz.func119 (by kernel_rfl) rfl Tryz.ntmps119 rfl (by (repeat (first | exact has00 | refine has01 ?_));first | done | fail) fun w0=>?_
 repeat' first|(refine wo ?_;first|(refine ao ?_;first|refine oa ?_)|refine ldl ?_)|(refine gc ?_;first|refine cf ?_)|refine sq ?_|refine rg ?_|refine xc ?_|refine nl ?_|refine sk ?_
 exact e0 rfl
theorem Fold_tr (opf:Rat→Rat→Rat) (op:FuncId) (s0:Rat) (sn sd lv:Value) (qs:List Rat) (hs:List (Value × Value)) (hn:sn.oneCell' = true) (hd:sd.oneCell' = true) (hl:hs.length = qs.length)
  (hFB:∀ i,i < qs.length→FB (qs.getD i 0) 549755813888)
  (hop:∀ i,i < qs.length→∀ v1 v2,v1.oneCell' = true→v2.oneCell' = true→(hs.getD i nS2).1.oneCell' = true→(hs.getD i nS2).2.oneCell' = true→Tr Tryz.prog op [rv ((qs.take i).foldl opf s0) v1 v2,rv (qs.getD i 0) (hs.getD i nS2).1 (hs.getD i nS2).2]
   [vw v1 (Us (dg ((qs.take i).foldl opf s0).num.natAbs)),vw v2 (Us (dg ((qs.take i).foldl opf s0).den)),vw (hs.getD i nS2).1 (Us (dg (qs.getD i 0).num.natAbs)),vw (hs.getD i nS2).2 (Us (dg (qs.getD i 0).den))] [] (FQ (opf ((qs.take i).foldl opf s0) (qs.getD i 0)))) :
  Tr Tryz.prog 69 [rv s0 sn sd,.func (.func op) #[] #[],lv] [vwf lv qs.length (rcs qs hs),vfr hs qs] [own T64 sn (Us (dg s0.num.natAbs)),own T64 sd (Us (dg s0.den))] (FQ2 (qs.foldl opf s0) 0):=by
 refine Tr.enterD env _ Tryz.func69 (by kernel_rfl) rfl Tryz.ntmps69 rfl (by (repeat (first | exact has00 | refine has01 ?_));first | done | fail) fun w0=>?_
 refine TC.fact (fun w hw=>has_len (v:=lv) (N:=qs.length) (xs:=rcs qs hs) hasA w hw) fun hml=>?_
 repeat' first|refine bx fun c=>?_|refine al fun c=>?_|refine df ?_|refine lnw (N:=qs.length) (xs:=rcs qs hs) ?_|(refine wo ?_;first|refine oa ?_)|refine sq ?_|refine rg ?_|refine xc ?_|refine nl ?_|refine bk ?_
 rename_i c3 c6
 refine TC.loop (ι:=Nat) (fun i=>[(15,I i)]) (fun i=>[pt c [I 0] 27]) (fun i=>i ≤ qs.length) (fun i=>qs.length - i) 0 [1,2,3,6,7,12,13,14] (Nat.zero_le _) ?_
 rintro i hi
 by_cases hlt:i < qs.length
 ·refine TC.fact (fun w hw=>fr_one (hs:=hs) (qs:=qs) hasA hl hlt w hw) fun ho=>?_
  obtain ⟨ho1,ho2⟩:=ho
  have hrow:=rcs_row hl hlt
  have hK:=FCheck_tr (qs.getD i 0) (hs.getD i nS2).1 (hs.getD i nS2).2 ho1 ho2 (hFB i hlt)
  repeat' first|(refine gca ?_;first|(refine ca hK ?_ (hp:=has1 (has_fr hasA hl hlt).1 (has1 (has_fr hasA hl hlt).2 has0));rintro _ _ ⟨rfl,rfl⟩))|refine ixws (i:=(i:Int)) (N:=qs.length) (xs:=rcs qs hs) ?_|refine ldaw (N:=qs.length) (xs:=rcs qs hs) (m:=3 * i) hrow ?_|refine al fun c9=>?_|refine srz ?_|refine lda ?_|(refine wo ?_;first|(refine ao ?_;first|refine aw ?_|refine oa ?_)|refine oa ?_|refine ld ?_|refine sr ?_)|(refine gc ?_;first|refine cf ?_|(refine ci (fun hB=>?_) (fun hB=>?_) <;> try (exfalso;omega)))|refine sq ?_|refine rg ?_|refine xc ?_|refine nl ?_|refine sk ?_|refine bk ?_|refine xb ?_
  exact lp (i + 1) hlt
 obtain rfl:i = qs.length:=by omega
 repeat' first|refine lda ?_|refine srz ?_|refine lnw (N:=qs.length) (xs:=rcs qs hs) ?_|(refine wo ?_;first|(refine ao ?_;first|refine oa ?_)|refine oa ?_)|(refine gc ?_;first|(refine ci (fun hB=>?_) (fun hB=>?_) <;> try (exfalso;omega)))|refine sq ?_|refine rg ?_|refine xc ?_|refine nl ?_|refine bk ?_|refine xe ?_
 refine TC.loop (ι:=FoG) (fun g=>[(27,I g.i)]) (fun g=>[pt c6 (rrow ((qs.take g.i).foldl opf s0) (g.vn,g.vd)) TRt,own T64 g.vn (Us (dg ((qs.take g.i).foldl opf s0).num.natAbs)),own T64 g.vd (Us (dg ((qs.take g.i).foldl opf s0).den))]) (fun g=>g.i ≤ qs.length∧g.vn.oneCell' = true∧g.vd.oneCell' = true) (fun g=>qs.length - g.i) ⟨0,sn,sd⟩ [1,2,6,7,25,26] ⟨Nat.zero_le _,hn,hd⟩ ?_
 rintro ⟨i,vn,vd⟩ ⟨hi,hvn,hvd⟩
 dsimp only at hi hvn hvd ⊢
 by_cases hlt:i < qs.length
 ·refine TC.fact (fun w hw=>fr_one (hs:=hs) (qs:=qs) hasA hl hlt w hw) fun ho=>?_
  obtain ⟨ho1,ho2⟩:=ho
  have hrow:=rcs_row hl hlt
  have hO:=hop i hlt vn vd hvn hvd ho1 ho2
  have hst:=foldl_take opf s0 hlt 0
  obtain ⟨p,hp⟩ : ∃ p,p = (qs.take i).foldl opf s0:=⟨_,rfl⟩
  obtain ⟨p2,hp2⟩ : ∃ p,p = (qs.take (i + 1)).foldl opf s0:=⟨_,rfl⟩
  rw [← hp,← hp2] at hst
  rw [← hp] at hO ⊢
  rw [← hst] at hO
  unfold FQ at hO
  repeat' first|refine ixws (i:=(i:Int)) (N:=qs.length) (xs:=rcs qs hs) ?_|refine ldaw (N:=qs.length) (xs:=rcs qs hs) (m:=3 * i) hrow ?_|refine al fun c9=>?_|refine srz ?_ (hj:=Nat.le_of_ble_eq_true rfl)|refine lda ?_|(refine cav (cap:=#[]) (vs:=[rv p vn vd,rv (qs.getD i 0) (hs.getD i nS2).1 (hs.getD i nS2).2]) hO ?_ (hp:=has1 hasA (has1 hasA (has1 (has_fr hasA hl hlt).1 (has1 (has_fr hasA hl hlt).2 has0))));rintro _ _ ⟨vn2,vd2,rfl,hvn2,hvd2,rfl⟩)|(refine wo ?_;first|(refine ao ?_;first|refine aw ?_|refine oa ?_)|refine oa ?_)|(refine gc ?_;first|(refine ci (fun hB=>?_) (fun hB=>?_) <;> try (exfalso;omega)))|refine sq ?_|refine rg ?_|refine xc ?_|refine nl ?_|refine sk ?_|refine bk ?_|refine xb ?_
  exact lp ⟨i + 1,vn2,vd2⟩ ⟨hlt,hvn2,hvd2⟩ (hf:=by dsimp only;rw [← hp2];exact fitA)
 ·obtain rfl:i = qs.length:=by omega
  rw [List.take_length]
  generalize qs.foldl opf s0 = p at *
  repeat' first|refine lda ?_|refine srz ?_ (hj:=Nat.le_of_ble_eq_true rfl)|(refine wo ?_;first|(refine ao ?_;first|refine oa ?_)|refine sr ?_)|(refine gc ?_;first|(refine ci (fun hB=>?_) (fun hB=>?_) <;> try (exfalso;omega)))|refine sq ?_|refine rg ?_|refine xc ?_|refine nl ?_|refine xe ?_|refine rt ?_
  refine rD (foldD_tr c c6) ?_ (vs:=[]) (cap:=#[ptr c,ptr c6])
  rintro _ _ rfl
  refine rDn (v:=tup2 (rv p vn vd) (I 0)) ⟨vn,vd,rfl,hvn,hvd,rfl⟩ (fun w hw a ha=>?_)
  exact res_ac (E:=env) ha rfl rfl rfl rfl rfl (pt_at memA hw) rfl rfl rfl rfl rfl (ptcell (cs:=[I 0]) (T:=27) hw memA rfl)
end Go.Art
namespace Go.Art
open Go Go.Proofs Go.RowKit
theorem has_velg_nil {g:Int→Value} {F:List Ch}:Has F (velg g [] []):=⟨fun _ _=>⟨rfl,fun i hi=>by simp at hi⟩,fun _ h=>h,fun _ h=>h,fun b hb=>by
 rcases hb with hb | hb | ⟨i,hi,_⟩
 ·exact hb.elim
 ·exact hb.elim
 ·simp at hi⟩
theorem has_velg_cons {g:Int→Value} {F:List Ch} {v:Value} {l:List Int} {hs:List Value} {ls:List (List Int)} (h:Has F (vw v (l.map g))) (k:Has F (velg g hs ls)):Has F (velg g (v :: hs) (l :: ls)):=by
 have hb:∀ b,(velg g (v :: hs) (l :: ls)).ft b→(vw v (l.map g)).ft b∨(velg g hs ls).ft b:=fun b hb=>by
  rcases hb with hb | hb | ⟨i,hi,h1,h2⟩
  ·exact hb.elim
  ·exact hb.elim
  ·cases i with
   | zero=>exact .inl (.inr (.inr ⟨h1,h2⟩))
   | succ i=>exact .inr (.inr (.inr ⟨i,by simpa using hi,h1,h2⟩))
 refine ⟨fun w hw=>?_,fun _ h=>h,fun _ h=>h,fun b hx=>?_⟩
 ·obtain ⟨k1,k2⟩:=(k.P w hw:elgP g hs ls w)
  refine ⟨by simp [k1],fun i hi=>?_⟩
  cases i with
  | zero=>exact h.P w hw
  | succ i=>exact k2 i (by simpa using hi)
 ·rcases hb b hx with h1 | h1
  ·exact h.ft b h1
  ·exact k.ft b h1
theorem has_vfr_nil {F:List Ch}:Has F (vfr [] []):=has_velg_nil
theorem has_vfr_cons {F:List Ch} {v1 v2:Value} {q:Rat} {hs:List (Value × Value)} {qs:List Rat} (h1:Has F (vw v1 (Us (dg q.num.natAbs)))) (h2:Has F (vw v2 (Us (dg q.den)))) (k:Has F (vfr hs qs)):Has F (vfr ((v1,v2) :: hs) (q :: qs)):=by
 rw [Us_eq] at h1 h2
 exact has_velg_cons h1 (has_velg_cons h2 k)
theorem FB_mk {a D B:Nat} (hD:D ≠ 0) (ha:(dg a).length ≤ B) (hd:(dg D).length ≤ B):FB (mkRat (a:Int) D) B:=by
 refine ⟨?_,?_⟩
 ·rw [mk_abs _ hD,Int.natAbs_natCast]
  exact Nat.le_trans (dg_mono (Nat.div_le_self _ _)) ha
 ·rw [mk_den _ hD]
  exact Nat.le_trans (dg_mono (Nat.div_le_self _ _)) hd
theorem FB_mk1 {a D:Nat} (hD:D ≠ 0) (ha:a < 18446744073709551616) (hd:D < 18446744073709551616):FB (mkRat (a:Int) D) 1:=FB_mk hD (dg_len1 ha) (dg_len1 hd)
attribute [local irreducible] Fit pt own ro vw mpc lpt vels rels mow lrc dfr
attribute [local irreducible] lmp lme mit velg relg bnd owl
theorem FAdd_tr (lv:Value) (qs:List Rat) (hs:List (Value × Value)) (hl:hs.length = qs.length) (hFB:∀ i,i < qs.length→FB (qs.getD i 0) 8589934592) (hP:∀ i,i < qs.length→FB ((qs.take i).foldl (· + ·) 0) 8589934592) :
  Tr Tryz.prog 32 [lv] [vwf lv qs.length (rcs qs hs),vfr hs qs] [] (FQ2 (qs.foldl (· + ·) 0) 0):=by
 have hF:=fun o ho=>Fold_tr (· + ·) 71 0 nS o lv qs hs rfl ho hl (fun i hi=>(hFB i hi).le (by decide)) (fun i hi v1 v2 h1 h2 h3 h4=>FSum_tr _ _ v1 v2 _ _ h1 h2 h3 h4 (hP i hi) (hFB i hi))
 have e1:dg (0:Rat).num.natAbs = []:=by rw [show (0:Rat).num.natAbs = 0 from rfl,dg_zero]
 have e2:dg (0:Rat).den = [1]:=by rw [show (0:Rat).den = 1 from rfl,dg_pos (by decide)];rw [show 1 / 18446744073709551616 = 0 from rfl,dg_zero]
 rw [e1,e2] at hF
 unfold FQ2 at hF ⊢
 generalize qs.foldl (· + ·) (0:Rat) = p at *
 refine Tr.enter env _ Tryz.func32 (by kernel_rfl) rfl Tryz.ntmps32 rfl (by repeat (first | exact has00 | refine has01 ?_)) fun w0=>?_
 refine TC.im (own_nil T64 _) ?_
 repeat' first|(refine gca ?_;first|(refine ca one_tr ?_;rintro o _ ⟨ho,rfl⟩)|(refine ca (hF o ho) ?_;rintro _ _ ⟨vn,vd,rfl,hvn,hvd,rfl⟩))|refine al fun c=>?_|refine bdm ?_|refine srz ?_|(refine wo ?_;first|refine oa ?_)|refine sq ?_|refine rg ?_|refine xc ?_|refine nl ?_|refine rt ?_
 exact rca (cs:=[.bool (decide (p.num < 0)),vn,vd]) (vs:=[.bool (decide (p.num < 0)),vn,vd]) (T:=TRt) ⟨vn,vd,rfl,hvn,hvd,rfl⟩
end Go.Art
namespace Go.Art
open Go Go.Proofs Go.RowKit
theorem rmul_den (q r:Rat):(q * r).den = (q.den / Nat.gcd r.num.natAbs q.den) * (r.den / Nat.gcd q.num.natAbs r.den):=by
 show (Rat.mul q r).den = _
 unfold Rat.mul
 rfl
theorem rmul_num (q r:Rat):(q * r).num = (q.num / (Nat.gcd q.num.natAbs r.den:Nat)) * (r.num / (Nat.gcd r.num.natAbs q.den:Nat)):=by
 show (Rat.mul q r).num = _
 unfold Rat.mul
 simp only [Int.divExact_eq_ediv]
theorem rmul_abs (q r:Rat):(q * r).num.natAbs = (q.num.natAbs / Nat.gcd q.num.natAbs r.den) * (r.num.natAbs / Nat.gcd r.num.natAbs q.den):=by
 rw [rmul_num,Int.natAbs_mul,natAbs_div _ _ (Int.ofNat_dvd_left.2 (Nat.gcd_dvd_left _ _)),natAbs_div _ _ (Int.ofNat_dvd_left.2 (Nat.gcd_dvd_left _ _))]
theorem div_sgn {z:Int} {g:Nat} (h:g ∣ z.natAbs) (hg:g ≠ 0):decide (z / (g:Int) < 0) = decide (z < 0):=by
 refine decide_eq_decide.2 ⟨fun k=>?_,fun k=>?_⟩
 ·rcases Int.lt_or_le z 0 with h1 | h1
  ·exact h1
  ·have:=Int.ediv_nonneg h1 (Int.natCast_nonneg g);omega
 ·exact Int.ediv_neg_of_neg_of_pos k (by omega)
theorem rmul_sgn (q r:Rat):decide ((q * r).num < 0) = (!(decide (q.num < 0) == decide (r.num < 0)) && decide (0 < (q.num.natAbs / Nat.gcd q.num.natAbs r.den) * (r.num.natAbs / Nat.gcd r.num.natAbs q.den))):=by
 have g1:Nat.gcd q.num.natAbs r.den ≠ 0:=Nat.ne_of_gt (Nat.gcd_pos_of_pos_right _ (Nat.pos_of_ne_zero r.den_nz))
 have g2:Nat.gcd r.num.natAbs q.den ≠ 0:=Nat.ne_of_gt (Nat.gcd_pos_of_pos_right _ (Nat.pos_of_ne_zero q.den_nz))
 have h1:=div_sgn (z:=q.num) (Nat.gcd_dvd_left q.num.natAbs r.den) g1
 have h2:=div_sgn (z:=r.num) (Nat.gcd_dvd_left r.num.natAbs q.den) g2
 have h3:=natAbs_div q.num (Nat.gcd q.num.natAbs r.den) (Int.ofNat_dvd_left.2 (Nat.gcd_dvd_left _ _))
 have h4:=natAbs_div r.num (Nat.gcd r.num.natAbs q.den) (Int.ofNat_dvd_left.2 (Nat.gcd_dvd_left _ _))
 rw [rmul_num,← h1,← h2,← h3,← h4,← sg_mul,sg_neg]
attribute [local irreducible] Fit pt own ro vw mpc lpt vels rels mow lrc dfr
attribute [local irreducible] lmp lme mit velg relg bnd owl
theorem FProd_tr (q r:Rat) (v1 v2 v3 v4:Value) (h1:v1.oneCell' = true) (h2:v2.oneCell' = true) (h3:v3.oneCell' = true) (h4:v4.oneCell' = true) (hq:FB q 8589934592) (hr:FB r 8589934592) :
  Tr Tryz.prog 140 [rv q v1 v2,rv r v3 v4] [vw v1 (Us (dg q.num.natAbs)),vw v2 (Us (dg q.den)),vw v3 (Us (dg r.num.natAbs)),vw v4 (Us (dg r.den))] [] (FQ (q * r)):=by
 have hG1:=NGcd_tr v1 v4 (dg q.num.natAbs) (dg r.den) (Dg_dg _) (Dg_dg _) (by have:=hq.1;omega) (by have:=hr.2;omega)
 have hG2:=NGcd_tr v3 v2 (dg r.num.natAbs) (dg q.den) (Dg_dg _) (Dg_dg _) (by have:=hr.1;omega) (by have:=hq.2;omega)
 rw [nv_dg,nv_dg] at hG1 hG2
 have e1:=rmul_abs q r
 have e2:=rmul_den q r
 have e3:=rmul_sgn q r
 obtain ⟨g,hg⟩ : ∃ g,g = Nat.gcd q.num.natAbs r.den:=⟨_,rfl⟩
 obtain ⟨h,hh⟩ : ∃ h,h = Nat.gcd r.num.natAbs q.den:=⟨_,rfl⟩
 have g0:g ≠ 0:=by rw [hg];exact Nat.ne_of_gt (Nat.gcd_pos_of_pos_right _ (Nat.pos_of_ne_zero r.den_nz))
 have h0:h ≠ 0:=by rw [hh];exact Nat.ne_of_gt (Nat.gcd_pos_of_pos_right _ (Nat.pos_of_ne_zero q.den_nz))
 have gl:(dg g).length ≤ 8589934592:=by rw [hg];exact Nat.le_trans (dg_mono (Nat.gcd_le_right _ (Nat.pos_of_ne_zero r.den_nz))) hr.2
 have hl:(dg h).length ≤ 8589934592:=by rw [hh];exact Nat.le_trans (dg_mono (Nat.gcd_le_right _ (Nat.pos_of_ne_zero q.den_nz))) hq.2
 rw [← hg] at hG1 e1 e2 e3
 rw [← hh] at hG2 e1 e2 e3
 have q1:=hq.1
 have q2:=hq.2
 have r1':=hr.1
 have r2':=hr.2
 have hB1:=fun o=>by_tr v1 o (dg q.num.natAbs) (dg g) (Dg_dg _) (Dg_dg _) (by omega) (by omega) (by rw [nv_dg];exact g0)
 have hB2:=fun o=>by_tr v3 o (dg r.num.natAbs) (dg h) (Dg_dg _) (Dg_dg _) (by omega) (by omega) (by rw [nv_dg];exact h0)
 have hB3:=fun o=>by_tr v2 o (dg q.den) (dg h) (Dg_dg _) (Dg_dg _) (by omega) (by omega) (by rw [nv_dg];exact h0)
 have hB4:=fun o=>by_tr v4 o (dg r.den) (dg g) (Dg_dg _) (Dg_dg _) (by omega) (by omega) (by rw [nv_dg];exact g0)
 simp only [nv_dg] at hB1 hB2 hB3 hB4
 have m1:(dg (q.num.natAbs / g)).length ≤ 8589934592:=Nat.le_trans (dg_mono (Nat.div_le_self _ _)) q1
 have m2:(dg (r.num.natAbs / h)).length ≤ 8589934592:=Nat.le_trans (dg_mono (Nat.div_le_self _ _)) r1'
 have m3:(dg (q.den / h)).length ≤ 8589934592:=Nat.le_trans (dg_mono (Nat.div_le_self _ _)) q2
 have m4:(dg (r.den / g)).length ≤ 8589934592:=Nat.le_trans (dg_mono (Nat.div_le_self _ _)) r2'
 have hM1:=fun x y=>NMul_tr x y (dg (q.num.natAbs / g)) (dg (r.num.natAbs / h)) (Dg_dg _) (Dg_dg _) (by omega) (by omega)
 have hM2:=fun x y=>NMul_tr x y (dg (q.den / h)) (dg (r.den / g)) (Dg_dg _) (Dg_dg _) (by omega) (by omega)
 simp only [nv_dg] at hM1 hM2
 have ml:=dg_mul_len m1 m2
 have hI:=fun b o=>IMake_tr b o (dg (q.num.natAbs / g * (r.num.natAbs / h))) (Dg_dg _) (by omega)
 rw [← e1] at hM1 hI e3
 rw [← e2] at hM2
 simp only [nv_dg] at hI
 unfold IR at hI
 simp only [sg_abs,sg_neg] at hI
 obtain ⟨s,hs⟩ : ∃ s,s = q * r:=⟨_,rfl⟩
 rw [← hs] at hM1 hM2 hI e3 ⊢
 clear e1 e2 hs ml
 show Tr _ _ [.agg #[.bool (decide (q.num < 0)),v1,v2],.agg #[.bool (decide (r.num < 0)),v3,v4]] _ _ _
 have hI2:=hI (!(decide (q.num < 0) == decide (r.num < 0)))
 rw [← e3] at hI2
 clear hI e3
 clear m1 m2 m3 m4 gl hl q1 q2 r1' r2' hq hr
 generalize dg (q.num.natAbs / g) = x1 at *
 generalize dg (r.num.natAbs / h) = x2 at *
 generalize dg (q.den / h) = x3 at *
 generalize dg (r.den / g) = x4 at *
 clear hg hh g0 h0
 generalize dg q.num.natAbs = lq at *
 generalize dg q.den = lqd at *
 generalize dg r.num.natAbs = lr at *
 generalize dg r.den = lrd at *
 generalize decide (q.num < 0) = b1 at *
 generalize decide (r.num < 0) = b2 at *
 refine Tr.enter env _ Tryz.func140 (by kernel_rfl) rfl Tryz.ntmps140 rfl (by repeat (first | exact has00 | refine has01 ?_)) fun w0=>?_
 repeat' first|refine bx fun q=>?_|refine al fun c=>?_|refine sq ?_|refine rg ?_|refine xc ?_|refine nl ?_
 rename_i q1
 refine rs (fun w=>w.heap[q1]? = some (.cells [.bool b1,v1,v2].toArray TRt (0,0))∧w.heap[q]? = some (.cells [.bool b2,v3,v4].toArray TRt (0,0))) ?_ (fun w hw=>⟨pt_at memA hw,pt_at memA hw⟩)
 refine tka 0 ?_
 refine tka 1 ?_
 refine tkl 2 (cs:=[.bool b1,v1,v2]) (fun w h=>h.1) ?_
 refine tka 3 ?_
 refine tkl 4 (cs:=[.bool b2,v3,v4]) (fun w h=>h.2) ?_
 refine tka 6 ?_
 refine tka 7 ?_
 refine tkl 8 (cs:=[.bool b2,v3,v4]) (fun w h=>h.2) ?_
 refine tka 9 ?_
 refine tkl 10 (cs:=[.bool b1,v1,v2]) (fun w h=>h.1) ?_
 refine t1 5 ?_
 refine ca hG1 ?_
 rintro o1 _ ⟨ho1,rfl⟩
 refine nl ?_
 refine te (fun w hw=>⟨pt_at memA hw,pt_at memA hw⟩) ?_
 refine t1 11 ?_
 refine ca hG2 ?_
 rintro o2 _ ⟨ho2,rfl⟩
 refine nl ?_
 refine te (fun w hw=>⟨pt_at memA hw,pt_at memA hw⟩) ?_
 refine tka 12 ?_
 refine tka 13 ?_
 refine t0 ?_
 repeat' first|refine sq ?_|refine xc ?_
 refine cutY (ι:=Nat × Value) (fun u=>u.2.oneCell' = true) (fun u=>[(2,ptr q1),(3,ptr q),(4,ptr c),(5,o1),(6,o2),(7,ptr u.1)]) (fun u=>[pt q1 [.bool b1,v1,v2] TRt,pt q [.bool b2,v3,v4] TRt,pt c [.bool false,nS,nS] TRt,pt u.1 [.bool (decide (s.num < 0)),u.2] TIt,own T64 u.2 (Us (dg s.num.natAbs)),vw v2 (Us lqd),vw v4 (Us lrd),own T64 o1 (Us (dg g)),own T64 o2 (Us (dg h))]) ?_ ?_
 ·rintro ⟨c2,o3⟩ ho3
  dsimp only at ho3 ⊢
  repeat' first|refine sq ?_
  refine rs (fun w=>w.heap[q1]? = some (.cells [.bool b1,v1,v2].toArray TRt (0,0))∧w.heap[q]? = some (.cells [.bool b2,v3,v4].toArray TRt (0,0))∧w.heap[c2]? = some (.cells [.bool (decide (s.num < 0)),o3].toArray TIt (0,0))) ?_ (fun w hw=>⟨pt_at memA hw,pt_at memA hw,pt_at memA hw⟩)
  refine tk 0 (v:=.agg #[.bool (decide (s.num < 0)),o3]) (fun w h=>R_loadA (E:=env) (vs:=[.bool (decide (s.num < 0)),o3]) rfl rfl rfl rfl h.2.2 rfl rfl) ?_
  refine tka 1 ?_
  refine tkl 2 (cs:=[.bool b1,v1,v2]) (fun w h=>h.1) ?_
  refine tka 3 ?_
  refine tka 5 ?_
  refine tkl 6 (cs:=[.bool b2,v3,v4]) (fun w h=>h.2.1) ?_
  refine tka 7 ?_
  refine t1 4 ?_
  refine ca (hB3 o2) ?_
  rintro y4 _ ⟨hy4,rfl⟩
  refine nl ?_
  refine te (fun w hw=>⟨pt_at memA hw,pt_at memA hw,pt_at memA hw⟩) ?_
  refine t1 8 ?_
  refine ca (hB4 o1) ?_
  rintro y5 _ ⟨hy5,rfl⟩
  refine nl ?_
  refine te (fun w hw=>⟨pt_at memA hw,pt_at memA hw,pt_at memA hw⟩) ?_
  refine t1 9 ?_
  refine ca (hM2 y4 y5) ?_
  rintro y6 _ ⟨hy6,rfl⟩
  refine nl ?_
  refine te (fun w hw=>⟨pt_at memA hw,pt_at memA hw,pt_at memA hw⟩) ?_
  refine t1 10 ?_
  refine bdm ?_
  refine nl ?_
  refine te (fun w hw=>⟨pt_at memA hw,pt_at memA hw,pt_at memA hw⟩) ?_
  refine t1 11 ?_
  refine srz ?_
  refine nl ?_
  refine te (fun w hw=>⟨pt_at memA hw,pt_at memA hw,pt_at memA hw⟩) ?_
  refine t0 ?_
  repeat' first|refine xc ?_|refine rt ?_
  exact rca1 (cs:=[.bool (decide (s.num < 0)),o3,y6]) (vs:=[.bool (decide (s.num < 0)),o3,y6]) (T:=TRt) ⟨o3,y6,rfl,ho3,hy6,rfl⟩
 ·intro b' kb
  refine rs (fun w=>w.heap[q1]? = some (.cells [.bool b1,v1,v2].toArray TRt (0,0))∧w.heap[q]? = some (.cells [.bool b2,v3,v4].toArray TRt (0,0))) ?_ (fun w hw=>⟨pt_at memA hw,pt_at memA hw⟩)
  refine tka 0 ?_
  refine tka 1 ?_
  refine tkl 2 (cs:=[.bool b1,v1,v2]) (fun w h=>h.1) ?_
  refine tka 3 ?_
  refine tka 4 ?_
  refine tkl 5 (cs:=[.bool b2,v3,v4]) (fun w h=>h.2) ?_
  refine tk 6 (v:=.bool (!(b1 == b2))) (fun _ _=>R_bne (E:=env) (b1:=b1) (b2:=b2) rfl rfl rfl) ?_
  refine tka 7 ?_
  refine tka 8 ?_
  refine tkl 9 (cs:=[.bool b1,v1,v2]) (fun w h=>h.1) ?_
  refine tka 10 ?_
  refine tka 12 ?_
  refine tka 13 ?_
  refine tkl 14 (cs:=[.bool b2,v3,v4]) (fun w h=>h.2) ?_
  refine tka 15 ?_
  refine t2 11 19 ?_ ?_
  ·refine ca (hB1 o1) ?_
   rintro y1 _ ⟨hy1,rfl⟩
   refine nl ?_
   refine te (fun w hw=>⟨pt_at memA hw,pt_at memA hw⟩) ?_
   refine t2 16 19 ?_ ?_
   ·refine ca (hB2 o2) ?_
    rintro y2 _ ⟨hy2,rfl⟩
    refine nl ?_
    refine te (fun w hw=>⟨pt_at memA hw,pt_at memA hw⟩) ?_
    refine t2 17 19 ?_ ?_
    ·refine ca (hM1 y1 y2) ?_
     rintro y3 _ ⟨hy3,rfl⟩
     refine nl ?_
     refine te (fun w hw=>⟨pt_at memA hw,pt_at memA hw⟩) ?_
     refine t2 18 19 ?_ ?_
     ·refine ca (hI2 y3) ?_
      rintro _ _ ⟨o3,rfl,ho3,rfl⟩
      refine nl ?_
      refine te (fun w hw=>⟨pt_at memA hw,pt_at memA hw⟩) ?_
      refine t1 19 ?_
      refine al fun c2=>?_
      refine nl ?_
      refine te (fun w hw=>⟨pt_at memA hw,pt_at memA hw⟩) ?_
      refine t1 20 ?_
      refine srz ?_
      refine nl ?_
      refine te (fun w hw=>⟨pt_at memA hw,pt_at memA hw⟩) ?_
      refine t0 ?_
      repeat' first|refine xc ?_
      exact kb (c2,o3) ho3 _ _ (by (repeat (refine Sub.cons rfl (by first | rfl | go_num) ?_));exact Sub.nil) fitA
     ·refine al fun c2=>?_
      refine nl ?_
      refine te (fun w hw=>⟨pt_at memA hw,pt_at memA hw⟩) ?_
      refine t1 18 ?_
      refine ca (hI2 y3) ?_
      rintro _ _ ⟨o3,rfl,ho3,rfl⟩
      refine nl ?_
      refine te (fun w hw=>⟨pt_at memA hw,pt_at memA hw⟩) ?_
      refine t1 20 ?_
      refine srz ?_
      refine nl ?_
      refine te (fun w hw=>⟨pt_at memA hw,pt_at memA hw⟩) ?_
      refine t0 ?_
      repeat' first|refine xc ?_
      exact kb (c2,o3) ho3 _ _ (by (repeat (refine Sub.cons rfl (by first | rfl | go_num) ?_));exact Sub.nil) fitA
    ·refine al fun c2=>?_
     refine nl ?_
     refine te (fun w hw=>⟨pt_at memA hw,pt_at memA hw⟩) ?_
     refine t1 17 ?_
     refine ca (hM1 y1 y2) ?_
     rintro y3 _ ⟨hy3,rfl⟩
     refine nl ?_
     refine te (fun w hw=>⟨pt_at memA hw,pt_at memA hw⟩) ?_
     refine t1 18 ?_
     refine ca (hI2 y3) ?_
     rintro _ _ ⟨o3,rfl,ho3,rfl⟩
     refine nl ?_
     refine te (fun w hw=>⟨pt_at memA hw,pt_at memA hw⟩) ?_
     refine t1 20 ?_
     refine srz ?_
     refine nl ?_
     refine te (fun w hw=>⟨pt_at memA hw,pt_at memA hw⟩) ?_
     refine t0 ?_
     repeat' first|refine xc ?_
     exact kb (c2,o3) ho3 _ _ (by (repeat (refine Sub.cons rfl (by first | rfl | go_num) ?_));exact Sub.nil) fitA
   ·refine al fun c2=>?_
    refine nl ?_
    refine te (fun w hw=>⟨pt_at memA hw,pt_at memA hw⟩) ?_
    refine t1 16 ?_
    refine ca (hB2 o2) ?_
    rintro y2 _ ⟨hy2,rfl⟩
    refine nl ?_
    refine te (fun w hw=>⟨pt_at memA hw,pt_at memA hw⟩) ?_
    refine t1 17 ?_
    refine ca (hM1 y1 y2) ?_
    rintro y3 _ ⟨hy3,rfl⟩
    refine nl ?_
    refine te (fun w hw=>⟨pt_at memA hw,pt_at memA hw⟩) ?_
    refine t1 18 ?_
    refine ca (hI2 y3) ?_
    rintro _ _ ⟨o3,rfl,ho3,rfl⟩
    refine nl ?_
    refine te (fun w hw=>⟨pt_at memA hw,pt_at memA hw⟩) ?_
    refine t1 20 ?_
    refine srz ?_
    refine nl ?_
    refine te (fun w hw=>⟨pt_at memA hw,pt_at memA hw⟩) ?_
    refine t0 ?_
    repeat' first|refine xc ?_
    exact kb (c2,o3) ho3 _ _ (by (repeat (refine Sub.cons rfl (by first | rfl | go_num) ?_));exact Sub.nil) fitA
  ·refine al fun c2=>?_
   refine nl ?_
   refine te (fun w hw=>⟨pt_at memA hw,pt_at memA hw⟩) ?_
   refine t1 11 ?_
   refine ca (hB1 o1) ?_
   rintro y1 _ ⟨hy1,rfl⟩
   refine nl ?_
   refine te (fun w hw=>⟨pt_at memA hw,pt_at memA hw⟩) ?_
   refine t1 16 ?_
   refine ca (hB2 o2) ?_
   rintro y2 _ ⟨hy2,rfl⟩
   refine nl ?_
   refine te (fun w hw=>⟨pt_at memA hw,pt_at memA hw⟩) ?_
   refine t1 17 ?_
   refine ca (hM1 y1 y2) ?_
   rintro y3 _ ⟨hy3,rfl⟩
   refine nl ?_
   refine te (fun w hw=>⟨pt_at memA hw,pt_at memA hw⟩) ?_
   refine t1 18 ?_
   refine ca (hI2 y3) ?_
   rintro _ _ ⟨o3,rfl,ho3,rfl⟩
   refine nl ?_
   refine te (fun w hw=>⟨pt_at memA hw,pt_at memA hw⟩) ?_
   refine t1 20 ?_
   refine srz ?_
   refine nl ?_
   refine te (fun w hw=>⟨pt_at memA hw,pt_at memA hw⟩) ?_
   refine t0 ?_
   repeat' first|refine xc ?_
   exact kb (c2,o3) ho3 _ _ (by (repeat (refine Sub.cons rfl (by first | rfl | go_num) ?_));exact Sub.nil) fitA
theorem FMul_tr (lv:Value) (qs:List Rat) (hs:List (Value × Value)) (hl:hs.length = qs.length) (hFB:∀ i,i < qs.length→FB (qs.getD i 0) 8589934592) (hP:∀ i,i < qs.length→FB ((qs.take i).foldl (· * ·) 1) 8589934592) :
  Tr Tryz.prog 79 [lv] [vwf lv qs.length (rcs qs hs),vfr hs qs] [] (FQ2 (qs.foldl (· * ·) 1) 0):=by
 have hF:=fun o o2 ho ho2=>Fold_tr (· * ·) 140 1 o o2 lv qs hs ho ho2 hl (fun i hi=>(hFB i hi).le (by decide)) (fun i hi v1 v2 h1 h2 h3 h4=>FProd_tr _ _ v1 v2 _ _ h1 h2 h3 h4 (hP i hi) (hFB i hi))
 have e1:dg (1:Rat).num.natAbs = [1]:=by rw [show (1:Rat).num.natAbs = 1 from rfl,dg_pos (by decide)];rw [show 1 / 18446744073709551616 = 0 from rfl,dg_zero]
 have e2:dg (1:Rat).den = [1]:=by rw [show (1:Rat).den = 1 from rfl,dg_pos (by decide)];rw [show 1 / 18446744073709551616 = 0 from rfl,dg_zero]
 rw [e1,e2] at hF
 unfold FQ2 at hF ⊢
 generalize qs.foldl (· * ·) (1:Rat) = p at *
 refine Tr.enter env _ Tryz.func79 (by kernel_rfl) rfl Tryz.ntmps79 rfl (by repeat (first | exact has00 | refine has01 ?_)) fun w0=>?_
 repeat' first|(refine gca ?_;first|(refine ca one_tr ?_;rintro o _ ⟨ho,rfl⟩))|refine al fun c=>?_|refine bdm ?_|(refine wo ?_;first|refine oa ?_)|refine sq ?_|refine rg ?_|refine xc ?_|refine nl ?_
 rename_i oo hoo
 repeat' first|(refine gca ?_;first|(refine ca (hF oo o hoo ho) ?_;rintro _ _ ⟨vn,vd,rfl,hvn,hvd,rfl⟩))|refine srz ?_|(refine wo ?_;first|refine oa ?_)|refine xc ?_|refine nl ?_|refine rt ?_
 exact rca (cs:=[.bool (decide (p.num < 0)),vn,vd]) (vs:=[.bool (decide (p.num < 0)),vn,vd]) (T:=TRt) ⟨vn,vd,rfl,hvn,hvd,rfl⟩
end Go.Art
namespace Go.Art
open Go Go.Proofs Go.RowKit
theorem sum_wOk {t:List Int} (h:∀ w ∈ t,0 ≤ w∧w ≤ 16777215):0 ≤ t.sum∧t.sum ≤ 16777215 * t.length:=sum_bound h
theorem sum_posT {t:List Int} (h:∀ w ∈ t,0 ≤ w∧w ≤ 16777215) (hp:∃ w ∈ t,0 < w):0 < t.sum:=by
 induction t with
 | nil=>obtain ⟨w,hw,_⟩:=hp;cases hw
 | cons a r ih=>
  have h1:=h a (by simp)
  have h2:=sum_bound (t:=r) fun w hw=>h w (by simp [hw])
  rw [List.sum_cons]
  obtain ⟨w,hw,hw0⟩:=hp
  rcases List.mem_cons.1 hw with rfl | hw
  ·omega
  ·have:=ih (fun w hw=>h w (by simp [hw])) ⟨w,hw,hw0⟩;omega
attribute [local irreducible] Fit pt own ro vw mpc lpt vels rels mow lrc dfr
attribute [local irreducible] lmp lme mit velg relg
end Go.Art
namespace Go.Art
open Go Go.Proofs Go.RowKit
def ordF:Nat→List Int→List Int→List Int
 | _,_,[]=>[]
 | i,l,j :: js=>l.getD (i + j.toNat) 0 :: ordF (i + 1) (swp l i (i + j.toNat)) js
theorem sum_const {α:Type} (w:α→Nat) (m:Nat):∀ (l:List α),(∀ x ∈ l,w x = m)→(l.map w).sum = l.length * m
 | [],_=>by simp
 | a :: l,h=>by
  rw [List.map_cons,List.sum_cons,h a (by simp),sum_const w m l (fun x hx=>h x (by simp [hx])),List.length_cons,Nat.succ_mul];omega
def wt (k:Nat) (l:List Int):Nat:=24 / fall k (l.length - 2)
theorem mk_scale (a D m:Nat) (hD:D ≠ 0) (hm:m ≠ 0):mkRat (a:Int) D = mkRat ((a * m:Nat):Int) (D * m):=by
 rw [Rat.mkRat_eq_iff hD (Nat.mul_ne_zero hD hm)]
 push_cast
 grind
theorem mk_one (D:Nat) (h:D ≠ 0):mkRat (D:Int) D = 1:=by
 rw [show (1:Rat) = mkRat 1 1 from rfl,Rat.mkRat_eq_iff h (by decide)];omega
open Go Go.Proofs Go.RowKit
attribute [local irreducible] Fit pt own ro vw mpc lpt vels rels mow lrc dfr
attribute [local irreducible] lmp lme mit velg relg
def plcR (tot:Int) (cut oth:List Int) (st:BitVec 64):Int × BitVec 64:=
 (alPick tot cut oth (sdraw cut.length st).1 (sdraw tot.toNat (sdraw cut.length st).2).1,(sdraw tot.toNat (sdraw cut.length st).2).2)
def setR (tot:Int) (cut oth:List Int) (k:Int) (st:BitVec 64):List Int × Int:=pickR k ((plcR tot cut oth st).1 + 1) (plcR tot cut oth st).2
end Go.Art
namespace Go.Art
open Go Go.Proofs Go.RowKit
def par (j:Nat):Nat:=(j - 1) / 2
structure HpUp (l:List Int) (i:Nat):Prop where
 a:∀ j,0 < j→j < l.length→j ≠ i→l.getD (par j) 0 ≤ l.getD j 0
 b:∀ j,0 < j→j < l.length→par j = i→0 < i→l.getD (par i) 0 ≤ l.getD j 0
structure HpDn (l:List Int) (i:Nat):Prop where
 a:∀ j,0 < j→j < l.length→par j ≠ i→l.getD (par j) 0 ≤ l.getD j 0
 b:∀ j,0 < j→j < l.length→par j = i→0 < i→l.getD (par i) 0 ≤ l.getD j 0
def Heap (l:List Int):Prop:=∀ j,0 < j→j < l.length→l.getD (par j) 0 ≤ l.getD j 0
def swq (l:List Int) (i j:Nat):List Int:=(l.set i (l.getD j 0)).set j (l.getD i 0)
open Go Go.Proofs Go.RowKit
attribute [local irreducible] Fit pt own ro vw mpc lpt vels rels mow lrc dfr
attribute [local irreducible] lmp lme mit velg relg
section
variable {P:Program} {E:Env P} {n:Sh} {X:Cx} {s:List K} {fr:Fr} {A:List Ch} {ops:Array Oper} {d:Nat} {ty t el:TypeId} {pos:String} {after:Array Edge} {v z:Value} {fuel by_:Nat} {listed:Array Bool} {S:World→Prop} {x y:Operand} {k1:IntKind}
end
section
variable {P:Program} {E:Env P} {n:Sh} {X:Cx} {s:List K} {fr:Fr} {A:List Ch} {ops:Array Oper} {rest:List Oper} {d:Nat} {ty t t':TypeId} {pos:String} {after:Array Edge} {x y:Operand} {m q:Int}
end
section
variable {P:Program} {E:Env P} {n:Sh} {X:Cx} {s:List K} {fr:Fr} {A:List Ch} {ops:Array Oper} {rest:List Oper} {d:Nat} {ty t:TypeId} {pos:String} {after:Array Edge} {v:Value} {x:Operand}
end
section
variable {n:Sh} {X:Cx} {s:List K} {fr:Fr} {A:List Ch} {ops:Array Oper} {rest:List Oper} {d:Nat} {ty:TypeId} {pos:String} {after:Array Edge} {x y:Operand} {a b:Int} {parts:List (Nat × Operand)}
end
abbrev THp:TypeId:=170
def hcut (h:List Int):List Int:=(h.set 0 (h.getD (h.length - 1) 0)).take (h.length - 1)
end Go.Art
namespace Go.Art
open Go
def Rep (h S:List Int):Prop:=Heap h∧h.Perm S∧S.Pairwise (· ≤ ·)
structure AlS where
 rest:List Int
 cut:List Int
 oth:List Int
 B:List Int
 A:List Int
def alStep (all:Int) (u:AlS) (i j:Int) (B A:List Int):AlS:=
 let ri:=u.rest.getD i.toNat 0
 let r:=u.rest.getD j.toNat 0 - (all - ri)
 ⟨u.rest.set j.toNat r,u.cut.set i.toNat ri,u.oth.set i.toNat j,if r > all then B else if r < all then srt (j :: B) else B,if r > all then j :: A else A⟩
def alRun (all:Int):Nat→AlS→AlS
 | 0,u=>u
 | f + 1,u=>match u.B,u.A with
  | i :: B,j :: A=>alRun all f (alStep all u i j B A)
  | _,_=>u
def alIn (t:List Int) (all:Int):Nat→AlS
 | 0=>⟨List.replicate t.length 0,List.replicate t.length 0,List.replicate t.length 0,[],[]⟩
 | i + 1=>let u:=alIn t all i
  let r:=t.getD i 0 * t.length
  ⟨u.rest.set i r,u.cut.set i all,u.oth.set i i,if r < all then srt ((i:Int) :: u.B) else u.B,if r < all then u.A else if r > all then srt ((i:Int) :: u.A) else u.A⟩
structure AlI (t:List Int) (all:Int) (u:AlS):Prop where
 lr:u.rest.length = t.length
 lc:u.cut.length = t.length
 lo:u.oth.length = t.length
 nd:(u.B ++ u.A).Nodup
 B:∀ i ∈ u.B,(0 ≤ i∧i < t.length)∧0 ≤ u.rest.getD i.toNat 0∧u.rest.getD i.toNat 0 < all
 A:∀ j ∈ u.A,(0 ≤ j∧j < t.length)∧all < u.rest.getD j.toNat 0∧u.rest.getD j.toNat 0 ≤ 1099511627776∧0 < t.getD j.toNat 0
 sum:(u.B.map fun i=>all - u.rest.getD i.toNat 0).sum = (u.A.map fun j=>u.rest.getD j.toNat 0 - all).sum
 cut:∀ c:Nat,c < t.length→0 ≤ u.cut.getD c 0∧u.cut.getD c 0 ≤ all
 oth:∀ c:Nat,c < t.length→(0 ≤ u.oth.getD c 0∧u.oth.getD c 0 < t.length)∧(u.cut.getD c 0 = all∨0 < t.getD (u.oth.getD c 0).toNat 0)
 zero:∀ c:Nat,c < t.length→¬ 0 < t.getD c 0→u.rest.getD c 0 = 0∧((c:Int) ∈ u.B∨u.cut.getD c 0 = 0)
structure AlJ (t:List Int) (all:Int) (n:Nat) (u:AlS):Prop where
 lr:u.rest.length = t.length
 lc:u.cut.length = t.length
 lo:u.oth.length = t.length
 nd:(u.B ++ u.A).Nodup
 B:∀ i ∈ u.B,(0 ≤ i∧i < n)∧0 ≤ u.rest.getD i.toNat 0∧u.rest.getD i.toNat 0 < all
 A:∀ j ∈ u.A,(0 ≤ j∧j < n)∧all < u.rest.getD j.toNat 0∧u.rest.getD j.toNat 0 ≤ 1099511627776∧0 < t.getD j.toNat 0
 sum:(u.B.map fun i=>all - u.rest.getD i.toNat 0).sum - (u.A.map fun j=>u.rest.getD j.toNat 0 - all).sum = n * all - t.length * (t.take n).sum
 cut:∀ c:Nat,c < n→u.cut.getD c 0 = all
 oth:∀ c:Nat,c < n→u.oth.getD c 0 = c
 zero:∀ c:Nat,c < n→¬ 0 < t.getD c 0→u.rest.getD c 0 = 0∧(c:Int) ∈ u.B
def alMu (u:AlS):Nat:=u.B.length + 2 * u.A.length
def alEnd (all:Int) (u:AlS):AlS:=alRun all (alMu u) u
def alF (t:List Int):AlS:=alEnd t.sum (alIn t t.sum t.length)
open Go Go.Proofs Go.RowKit
attribute [local irreducible] Fit pt own ro vw mpc lpt vels rels mow lrc dfr
attribute [local irreducible] lmp lme mit velg relg
structure MkG where
 i:Nat
 hb:List Int
 ha:List Int
 bv:Value
 av:Value
structure MkH where
 u:AlS
 hb:List Int
 ha:List Int
 bv:Value
 av:Value
end Go.Art
namespace Go.Art
open Go Go.Proofs Go.RowKit
attribute [local irreducible] Fit pt own ro vw mpc lpt vels rels mow lrc dfr
end Go.Art
namespace Go.Art
open Go Go.Proofs Go.RowKit
attribute [local irreducible] Fit pt own ro vw mpc lpt vels rels mow lrc dfr
theorem SameInts_tr (a b:Value) (xs ys:List Int):Tr Tryz.prog 24 [a,b] [vw a (Is xs),vw b (Is ys)] [] fun v D=>v = .bool (decide (xs = ys))∧D = []:=by
 refine Tr.enter env _ Tryz.func24 (by kernel_rfl) rfl Tryz.ntmps24 rfl (by repeat (first | exact has00 | refine has01 ?_)) fun w0=>?_
 refine TC.leni (l:=xs) fun hl=>?_
 repeat' first|(refine wo ?_;first|(refine ao ?_;first|refine oa ?_)|refine oa ?_|refine lnm ?_)|(refine gc ?_;first|(refine cn (fun hB=>?_) (fun hB=>?_) <;> try (exfalso;omega)))|refine sq ?_|refine rg ?_|refine xc ?_|refine nl ?_|refine sk ?_|refine bk ?_|refine rt ?_
 ·refine r1 ⟨?_,rfl⟩
  rw [decide_eq_false];intro e;subst e;omega
 ·refine TC.loop (ι:=Nat) (fun k=>[(5,I k)]) (fun _=>[]) (fun k=>k ≤ xs.length∧∀ j,j < k→xs.getD j 0 = ys.getD j 0) (fun k=>xs.length - k) 0 [0,1] ⟨by omega,by omega⟩ ?_
  rintro k ⟨hk,heq⟩
  repeat' first|(refine wo ?_;first|(refine ao ?_;first|refine aw ?_|refine oa ?_)|refine oa ?_|refine lnm ?_)|(refine gc ?_;first|(refine ci (fun hB=>?_) (fun hB=>?_) <;> try (exfalso;omega))|(refine cn (fun hB=>?_) (fun hB=>?_) <;> try (exfalso;omega)))|refine sq ?_|refine rg ?_|refine xc ?_|refine nl ?_|refine sk ?_|refine bk ?_|refine xe ?_|refine rt ?_|refine xb ?_|refine rq ?_|refine nq ?_|(refine wq ?_;first|(refine qao ?_;first|refine qa ?_)|refine qa ?_|refine qixmn ?_|refine qli ?_)
  ·refine r1 ⟨?_,rfl⟩
   rw [decide_eq_false];intro e;exact hB (by rw [e])
  ·refine lp (k + 1) ⟨by omega,fun j hj=>?_⟩
   by_cases hjk:j < k
   ·exact heq j hjk
   ·obtain rfl:j = k:=by omega
    assumption
  ·refine r1 ⟨?_,rfl⟩
   rw [decide_eq_true]
   exact eq_of_getD (by omega) (fun j hj=>heq j (by omega))
end Go.Art
namespace Go.Art
open Go Go.Proofs Go.RowKit
theorem eq_of_getDN {xs ys:List Nat} (hl:xs.length = ys.length) (h:∀ j,j < xs.length→xs.getD j 0 = ys.getD j 0):xs = ys:=by
 refine List.ext_getElem hl fun i h1 h2=>?_
 have:=h i h1
 simpa [List.getD_eq_getElem?_getD,h1,h2] using this
attribute [local irreducible] Fit pt own ro vw mpc lpt vels rels mow lrc dfr
attribute [local irreducible] lmp lme mit velg relg
theorem SameNat_tr (a b:Value) (xs ys:List Nat):Tr Tryz.prog 66 [a,b] [vw a (Us xs),vw b (Us ys)] [] fun v D=>v = .bool (decide (xs = ys))∧D = []:=by
 refine Tr.enter env _ Tryz.func66 (by kernel_rfl) rfl Tryz.ntmps66 rfl (by repeat (first | exact has00 | refine has01 ?_)) fun w0=>?_
 refine TC.lenu (l:=xs) fun hl=>?_
 repeat' first|(refine wo ?_;first|(refine ao ?_;first|refine oa ?_)|refine oa ?_|refine lnm ?_)|(refine gc ?_;first|(refine cn (fun hB=>?_) (fun hB=>?_) <;> try (exfalso;omega)))|refine sq ?_|refine rg ?_|refine xc ?_|refine nl ?_|refine sk ?_|refine bk ?_|refine rt ?_
 ·refine r1 ⟨?_,rfl⟩
  rw [decide_eq_false];intro e;subst e;omega
 ·refine TC.loop (ι:=Nat) (fun k=>[(5,I k)]) (fun _=>[]) (fun k=>k ≤ xs.length∧∀ j,j < k→xs.getD j 0 = ys.getD j 0) (fun k=>xs.length - k) 0 [0,1] ⟨by omega,by omega⟩ ?_
  rintro k ⟨hk,heq⟩
  repeat' first|(refine wo ?_;first|(refine ao ?_;first|refine aw ?_|refine oa ?_)|refine oa ?_|refine lnm ?_)|(refine gc ?_;first|(refine ci (fun hB=>?_) (fun hB=>?_) <;> try (exfalso;omega))|(refine cn (fun hB=>?_) (fun hB=>?_) <;> try (exfalso;omega)))|refine sq ?_|refine rg ?_|refine xc ?_|refine nl ?_|refine sk ?_|refine bk ?_|refine xe ?_|refine rt ?_|refine xb ?_|refine rq ?_|refine nq ?_|(refine wq ?_;first|(refine qao ?_;first|refine qa ?_)|refine qlu ?_|refine qa ?_|refine qixmn ?_)
  ·refine r1 ⟨?_,rfl⟩
   rw [decide_eq_false];intro e;exact hB (by rw [e])
  ·refine lp (k + 1) ⟨by omega,fun j hj=>?_⟩
   by_cases hjk:j < k
   ·exact heq j hjk
   ·obtain rfl:j = k:=by omega
    omega
  ·refine r1 ⟨?_,rfl⟩
   rw [decide_eq_true]
   exact eq_of_getDN (by omega) (fun j hj=>heq j (by omega))
theorem SameWhole_tr (b1 b2:Bool) (o1 o2:Value) (l1 l2:List Nat):Tr Tryz.prog 65 [.agg #[.bool b1,o1],.agg #[.bool b2,o2]] [vw o1 (Us l1),vw o2 (Us l2)] [] fun v D=>v = .bool (decide (b1 = b2∧l1 = l2))∧D = []:=by
 refine Tr.enter env _ Tryz.func65 (by kernel_rfl) rfl Tryz.ntmps65 rfl (by repeat (first | exact has00 | refine has01 ?_)) fun w0=>?_
 repeat' first|(refine gca ?_;first|(refine ca (SameNat_tr o1 o2 l1 l2) ?_;rintro _ _ ⟨rfl,rfl⟩))|refine bx fun q=>?_|(refine wo ?_;first|(refine ao ?_;first|refine ibe ?_)|refine oa ?_|refine ld ?_|refine gy ?_|refine gn ?_|(refine gsi (fun hB=>?_) (fun hB=>?_) <;> try (exfalso;omega)))|refine sq ?_|refine rg ?_|refine xc ?_|refine nl ?_|refine rt ?_
 ·have e:b1 = b2:=by simpa using hB
  refine r1 ⟨?_,rfl⟩
  congr 1;exact decide_eq_decide.2 ⟨fun h=>⟨e,h⟩,fun h=>h.2⟩
 ·have e:¬ b1 = b2:=by simpa using hB
  refine r1 ⟨?_,rfl⟩
  rw [decide_eq_false fun h=>e h.1]
theorem SameRatio_tr (t1 t2:Fr3) (n1 d1 n2 d2:Value):Tr Tryz.prog 22 [.agg #[.bool t1.1,n1,d1],.agg #[.bool t2.1,n2,d2]] [vw n1 (Us t1.2.1),vw d1 (Us t1.2.2),vw n2 (Us t2.2.1),vw d2 (Us t2.2.2)] []
  fun v D=>v = .bool (decide (t1 = t2))∧D = []:=by
 obtain ⟨b1,x1,y1⟩:=t1
 obtain ⟨b2,x2,y2⟩:=t2
 dsimp only
 refine Tr.enter env _ Tryz.func22 (by kernel_rfl) rfl Tryz.ntmps22 rfl (by repeat (first | exact has00 | refine has01 ?_)) fun w0=>?_
 repeat' first|(refine gca ?_;first|(refine ca (SameWhole_tr b1 b2 n1 n2 x1 x2) ?_;rintro _ _ ⟨rfl,rfl⟩)|(refine ca (SameNat_tr d1 d2 y1 y2) ?_;rintro _ _ ⟨rfl,rfl⟩))|refine bx fun q=>?_|refine lda ?_|(refine wo ?_;first|refine oa ?_|refine ld ?_|refine gy ?_|refine gn ?_|(refine gsi (fun hB=>?_) (fun hB=>?_) <;> try (exfalso;omega)))|refine sq ?_|refine rg ?_|refine xc ?_|refine nl ?_|refine rt ?_
 ·refine r1 ⟨?_,rfl⟩
  congr 1;refine decide_eq_decide.2 ⟨fun h=>by rw [hB.1,hB.2,h],fun h=>by injection h with _ h;injection h⟩
 ·refine r1 ⟨?_,rfl⟩
  rw [decide_eq_false fun h=>hB (by injection h with h1 h;injection h with h2 _;exact ⟨h1,h2⟩)]
end Go.Art
namespace Go.Art
open Go Go.Proofs Go.RowKit
attribute [local irreducible] Fit pt own ro vw mpc lpt vels rels mow lrc dfr
attribute [local irreducible] lmp lme mit velg relg
end Go.Art
namespace Go.Art
open Go Go.Proofs Go.RowKit
def over (n:Int):BitVec 64:=c64 18446744073709551615 % c64 n
attribute [local irreducible] Fit pt own ro vw mpc lpt vels rels mow lrc dfr
end Go.Art
namespace Go.Art
open Go Go.Proofs Go.RowKit
def ins (x:Int) (l:List Int) (k:Nat):List Int:=l.take k ++ x :: l.drop k
attribute [local irreducible] Fit pt own ro vw mpc lpt vels rels mow lrc dfr
attribute [local irreducible] lmp lme mit velg relg
structure RoG where
 i:Nat
 l:List Int
 st:BitVec 64
structure RiG where
 i:Nat
 o:Value
 ds:List Int
end Go.Art
namespace Go.Art
open Go Go.Proofs Go.RowKit
abbrev w0u:Value:=.int .u64 0
structure RwG where
 i:Nat
 l:List Int
 outs:List Int
 sv:Value
 x:Lw
attribute [local irreducible] Fit pt own ro vw mpc lpt vels rels mow lrc dfr
attribute [local irreducible] lmp lme mit velg relg
end Go.Art
namespace Go.Art
open Go Go.Proofs Go.RowKit
def colBad (tot:Int) (cut oth:List Int) (i:Nat):Prop:=cut.getD i 0 < 0∨tot < cut.getD i 0∨oth.getD i 0 < 0∨(cut.length:Int) ≤ oth.getD i 0
def alFst (tot:Int) (cut oth:List Int):Prop:=(1 ≤ tot∧tot ≤ 1099511627776)∧(1 ≤ cut.length∧cut.length ≤ 65536)∧oth.length = cut.length
attribute [local irreducible] Fit pt own ro vw mpc lpt vels rels mow lrc dfr
attribute [local irreducible] lmp lme mit velg relg
end Go.Art
namespace Go.Art
open Go Go.Proofs Go.RowKit
attribute [local irreducible] Fit pt own ro vw mpc lpt vels rels mow lrc dfr
end Go.Art
namespace Go.Art
open Go Go.Proofs Go.RowKit
attribute [local irreducible] Fit pt own ro vw mpc lpt vels rels mow lrc dfr
end Go.Art
namespace Go.Art
open Go Go.Proofs Go.RowKit
def rloH (sv:Value) (x:Lw) (used:Int):List Value:=
 match x with
 | .inl st=>[nS,.bool true,U st,I used,.bool false]
 | .inr (_,br)=>[sv,.bool false,w0u,I used,.bool br]
section
variable {P:Program} {E:Env P} {n:Sh} {X:Cx} {s:List K} {fr:Fr} {A:List Ch} {ops:Array Oper} {rest:List Oper} {d:Nat} {ty t:TypeId} {pos:String} {after:Array Edge} {x:Operand} {dt:TypeDesc} {sz by_:Nat} {z:Value} {cs vs:List Value} {b j:Nat} {T:TypeId}
end
attribute [local irreducible] Fit pt own ro vw mpc lpt vels rels mow lrc dfr
attribute [local irreducible] lmp lme mit velg relg
theorem CopyIntsV_tr (a:Value) (xs:List Int) (hb:xs.length ≤ 17592186044416):Tr Tryz.prog 17 [a] [vw a (Is xs)] [] fun v D=>v.oneCell' = true∧D = [own TLI v (Is xs)]:=by
 refine Tr.enter env _ Tryz.func17 (by kernel_rfl) rfl Tryz.ntmps17 rfl (by repeat (first | exact has00 | refine has01 ?_)) fun w0=>?_
 repeat' first|(refine sl0 fun o=>?_)|(refine api (l:=[]) (news:=xs) (fun o=>?_);refine TO.one (v:=o) (xs:=Is ([] ++ xs)) fun ho=>?_)|(refine wo ?_;first|refine oa ?_)|refine sq ?_|refine rg ?_|refine xc ?_|refine nl ?_|refine rt ?_
 exact r1 ⟨ho,rfl⟩
theorem SameIntsT_tr (a b:Value) (xs:List Int):Tr Tryz.prog 24 [a,b] [vw a (Is xs),vw b (Is xs)] [] fun v D=>v = .bool true∧D = []:=
 (SameInts_tr a b xs xs).mono fun v D h=>by rw [decide_eq_true rfl] at h;exact h
end Go.Art
namespace Go.Art
open Go Go.Proofs Go.RowKit
def madeT (tbl:List Int) (k:Nat):List Int:=(tbl.take k).map fun x=>pick x 6
section
variable {P:Program} {E:Env P} {X:Cx} {fr:Fr} {A D G:List Ch} {n:Sh}
theorem res_tat {fn:Func} {w:World} {a:Act} (ha:Holds n a fr) {p t u:Nat} {ty T:TypeId} {dt:TypeDesc} {z:Value} {sz by_ b:Nat} {cs vs:List Value} {v1 v3:Value} (hr:fn.results = #[.tmp p,.cell t ty,.tmp u]) (h0:get fr p = some v1) (ht:lk E.und ty = some dt) (hg:aggB dt = true) (hi:lk E.inf ty = some (z,sz,by_)) (h1:get fr t = some (ptr b))
  (hb:w.heap[b]? = some (.cells cs.toArray T (0,0))) (hv:cs.take sz = vs) (hl:vs.length = sz) (h2:get fr u = some v3):(results fn a.tmps).run P w = .ok (.tuple #[v1,.agg vs.toArray,v3]) w:=by
 obtain ⟨inf,g1,_,g2,_⟩:=E.info hi
 have h3:=run_loadCells_list (P:=P) w ⟨b,0,none⟩ vs (fun m u hm=>by
  rw [Addr.add_lit]
  refine blk_cell hb ?_
  rw [← hv,List.getElem?_take] at hm
  split at hm
  ·simpa using hm
  ·cases hm)
 rw [hl] at h3
 have e0:a.tmps[p]?.getD undef = v1:=by have:=ha.slot p _ h0;simpa using this
 have e1:a.tmps[t]?.getD undef = ptr b:=by have:=ha.slot t _ h1;simpa using this
 have e2:a.tmps[u]?.getD undef = v3:=by have:=ha.slot u _ h2;simpa using this
 simp only [results,hr]
 simp [e0,e1,e2,asAddr,loadVar,aggB_t (w:=w) ht hg,sizeOf,typeInfo,g1,g2,h3]
theorem rtat {w0:World} {A0:List Ch} {R':Value→List Ch→Prop} {fn:Func} {p t u nn:Nat} {ty T:TypeId} {dt:TypeDesc} {z:Value} {sz by_ b:Nat} {cs vs:List Value} {v1 v3:Value} (h:R' (.tuple #[v1,.agg vs.toArray,v3]) D) (hr:fn.results = #[.tmp p,.cell t ty,.tmp u]:=by rfl) (h0:get fr p = some v1:=by rfl) (ht:lk E.und ty = some dt:=by rfl) (hg:aggB dt = true:=by rfl) (hi:lk E.inf ty = some (z,sz,by_):=by rfl)
  (hv:get fr t = some (ptr b):=by rfl) (hm:pt b cs T ∈ A:=by exact memA) (hcs:cs.take sz = vs:=by rfl) (hl:vs.length = sz:=by rfl) (h2:get fr u = some v3:=by rfl) (hf:Fit A D G:=by exact fitA) (nb:∀ c ∈ D,∀ b,¬ c.bd b:=by (repeat (first | exact nb0 | refine nb1 ?_));first | done | fail) :
  TX E ⟨nn,[],none⟩ ⟨bodyPost P fn (RetP (PR w0 A0 R')),w0,A0⟩ [] .ret fr A:=⟨fun w hw=>⟨fun a ha=>
 bodyPost_ret (res_tat (E:=E) ha hr h0 ht hg hi hv (hw.mem hm) hcs hl h2) (ha.defers.trans rfl) ⟨_,rfl,PR.mk h hw hf nb⟩⟩⟩
end
attribute [local irreducible] Fit pt own ro vw mpc lpt vels rels mow lrc dfr
attribute [local irreducible] lmp lme mit velg relg bnd owl madeT
section
variable {P:Program} {E:Env P} {n:Sh} {X:Cx} {s:List K} {fr:Fr} {A:List Ch} {ops:Array Oper} {rest:List Oper} {d:Nat} {ty tx asr:TypeId} {pos:String} {after:Array Edge} {v:Value} {x:Operand} {dd:TypeDesc}
end
end Go.Art
