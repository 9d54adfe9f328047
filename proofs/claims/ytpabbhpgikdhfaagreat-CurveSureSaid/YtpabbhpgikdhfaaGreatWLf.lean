/- Texts put together: Ve Vf Mb Md Za Zb Zc Zd Ze Zf Zh Va Gc Rq Vb Vc Vg Vm As Vh Rc Vo Yj Vr Yl. Conditions: none. -/
import Derived.Test.YtpabbhpgikdhfaaGreatWLe
set_option linter.unusedSimpArgs false
set_option linter.unusedVariables false
namespace Go.Art
open Go Go.Proofs Go.RowKit
abbrev irow (s:Value) (q:Rat) (h:Value × Value):List Value:=s :: rrow q h
def ics (ss:List Value) (qs:List Rat) (hs:List (Value × Value)):List Value:=(List.zipWith List.cons ss (List.zipWith rrow qs hs)).flatten
section
variable {P:Program} {E:Env P} {n:Sh} {fr:Fr} {A A' D G:List Ch} {m:Nat}
end
abbrev TIm:TypeId:=125
abbrev TSm:TypeId:=110
attribute [local irreducible] Fit pt own ro vw mpc lpt vels rels mow lrc dfr
attribute [local irreducible] lmp lme mit velg relg bnd owl dfrl
end Go.Art
namespace Go.Art
open Go Go.Proofs Go.RowKit
def sumW (W:List (List Int)→Bool) (L:List (List Int × Nat)) (D n:Nat):Fr3 × Int:=
 if L.length ≤ 4096∧L.length ^ n ≤ 4096 then (rqf (mkRat ((natG W L n [] 1:Nat):Int) (D ^ n)),0) else (rqn,4)
abbrev fracs (L:List (List Int × Nat)) (D:Nat):List Rat:=L.map fun s=>mkRat ((s.2:Nat):Int) D
structure SmG where
 j:Nat
 vn:Value
 vd:Value
structure SnG where
 j:Nat
 sv:Value
 mv:Value
attribute [local irreducible] Fit pt own ro vw mpc lpt vels rels mow lrc dfr
attribute [local irreducible] lmp lme mit velg relg bnd owl dfrl accN natG tupN prdW
end Go.Art
namespace Go.Art
open Go Go.Proofs Go.RowKit
structure SeqO (P:Program) (f:FuncId) (cap:Array Value) (T:TypeId) (pre:List Ch) (L:List (List Int)):Prop where
 run:∀ {α:Type} (l:Nat) (J:α→Ch) (pl:α→Nat→Prop) (S:α→Prop) (a0:α),pl a0 0→(∀ a b,¬ (J a).bd b) →
  (∀ a i x,x.oneCell' = true→pl a i→i < L.length→Ty P l [x] [] [own T x (Is (L.getD i [])),J a] fun ok B=>∃ a',B = [J a']∧((ok = true∧pl a' (i + 1))∨(ok = false∧S a'))) →
  Tr P f (yv l :: cap.toList) pre [J a0] fun _ B=>∃ a,B = [J a]∧(pl a L.length∨S a)
 lent:∀ c ∈ pre,∀ b,¬ c.wr b∧¬ c.rd b
open Go Go.Proofs Go.RowKit
attribute [local irreducible] Fit pt own ro vw mpc lpt vels rels mow lrc dfr
attribute [local irreducible] lmp lme mit velg relg bnd owl dfrl
end Go.Art
namespace Go.Art
open Go Go.Proofs Go.RowKit
structure NaG where
 i:Nat
 c:Nat
 o:Value
 ys:List Nat
attribute [local irreducible] Fit pt own ro vw mpc lpt vels rels mow lrc dfr
end Go.Art
namespace Go.Art
open Go Go.Proofs Go.RowKit
def Bt (n b:Nat):Prop:=n < 2 ^ b∧(b = 0∨2 ^ (b - 1) ≤ n)
attribute [local irreducible] Fit pt own ro vw mpc lpt vels rels mow lrc dfr
end Go.Art
namespace Go.Art
open Go Go.Proofs Go.RowKit
attribute [local irreducible] Fit pt own ro vw mpc lpt vels rels mow lrc dfr
end Go.Art
namespace Go.Art
open Go Go.Proofs Go.RowKit
attribute [local irreducible] Fit pt own ro vw mpc lpt vels rels mow lrc dfr
end Go.Art
namespace Go.Art
open Go Go.Proofs Go.RowKit
structure DvG where
 j:Nat
 qs:List Nat
 rs:List Nat
 Q:Nat
section
variable {P:Program} {E:Env P} {n:Sh} {X:Cx} {s:List K} {fr:Fr} {A:List Ch} {ops:Array Oper} {rest:List Oper} {d:Nat} {ty t t':TypeId} {pos:String} {after:Array Edge} {x:Operand}
end
attribute [local irreducible] Fit pt own ro vw mpc lpt vels rels mow lrc dfr
end Go.Art
namespace Go.Art
open Go Go.Proofs Go.RowKit
attribute [local irreducible] Fit pt own ro vw mpc lpt vels rels mow lrc dfr
end Go.Art
namespace Go.Art
open Go Go.Proofs Go.RowKit
def pasc (n:Nat):List (List Int):=(List.range (n + 1)).map fun j=>Zs (dg (chs n j))
abbrev TNN:TypeId:=92
structure NxG where
 i:Nat
 o:Value
 hs:List Value
attribute [local irreducible] Fit pt own ro vw mpc lpt vels rels mow lrc dfr
attribute [local irreducible] lmp lme mit velg relg bnd owl
end Go.Art
namespace Go.Art
open Go Go.Proofs Go.RowKit
theorem chs_bnd:∀ n d,chs n d ≤ 2 ^ n
 | 0,0=>by simp [chs]
 | 0,d + 1=>by simp [chs]
 | n + 1,0=>by rw [show chs (n + 1) 0 = 1 from rfl];exact Nat.one_le_two_pow
 | n + 1,d + 1=>by
  rw [show chs (n + 1) (d + 1) = chs n d + chs n (d + 1) from rfl,Nat.pow_succ]
  have:=chs_bnd n d;have:=chs_bnd n (d + 1);omega
def risJ (d f k j:Nat):List (List Int):=(risR d (f + j + 1) k).map fun l=>((f + j:Nat):Int) :: l
structure RsG where
 i:Nat
 v:Value
 hs:List Value
attribute [local irreducible] Fit pt own ro vw mpc lpt vels rels mow lrc dfr
attribute [local irreducible] lmp lme mit velg relg bnd owl risJ
end Go.Art
namespace Go.Art
open Go Go.Proofs Go.RowKit
attribute [local irreducible] Fit pt own ro vw mpc lpt vels rels mow lrc dfr
end Go.Art
namespace Go.Art
open Go Go.Proofs Go.RowKit
structure RlG where
 i:Nat
 o:Value
 hs:List Value
attribute [local irreducible] Fit pt own ro vw mpc lpt vels rels mow lrc dfr
attribute [local irreducible] lmp lme mit velg relg bnd owl dfrl
def cntR (n S:Nat):Prop:=(n ≤ 4096→n = S)∧(4096 < n→4096 < S)∧n ≤ 8193
end Go.Art
namespace Go.Art
open Go Go.Proofs Go.RowKit
def szL (t:List Int) (k i:Nat):List (List Int):=if t.getD i 0 = 0 then [] else risR (i + 1) 0 k
theorem setP_zero (t:List Int) (k:Nat):setP t k 0 = []:=rfl
theorem setP_succ (t:List Int) (k n:Nat):setP t k (n + 1) = setP t k n ++ szL t k n:=fm_succ _ _
theorem solE_13 {t:List Int} {k:Int} (hz:¬ solE t k = 0):solE t k = 13:=by
 unfold solE at hz ⊢
 split
 ·rfl
 ·split
  ·rename_i a b;exact absurd (by rw [if_neg a,if_pos b]) hz
  ·rfl
attribute [local irreducible] Fit pt own ro vw mpc lpt vels rels mow lrc dfr
attribute [local irreducible] lmp lme mit velg relg bnd owl
structure SrG where
 i:Nat
 v:Value
 hs:List Value
attribute [local irreducible] setP szL solE
end Go.Art
namespace Go.Art
open Go Go.Proofs Go.RowKit
structure StG where
 i:Nat
 v:Value
 hs:List Value
 Ds:List Nat
attribute [local irreducible] Fit pt own ro vw mpc lpt vels rels mow lrc dfr
attribute [local irreducible] lmp lme mit velg relg bnd owl dfrl setP szL solE
end Go.Art
namespace Go.Art
open Go Go.Proofs Go.RowKit
def refE (t:List Int) (k n:Int):Int:=if solE t k = 0 then (if n < 0∨4096 < n then 3 else 0) else 13
def prodC (k:Nat):Nat→Nat
 | 0=>1
 | i + 1=>prodC k i * chs k (i + 1)
def prodX (k d:Nat):Nat→Nat
 | 0=>1
 | i + 1=>if i + 1 = d then prodX k d i else prodX k d i * chs k (i + 1)
theorem prodX_lt {k d:Nat}:∀ {n:Nat},n < d→prodX k d n = prodC k n
 | 0,_=>rfl
 | n + 1,h=>by unfold prodX prodC;rw [if_neg (by omega),prodX_lt (by omega)]
theorem prodX_mul {k d:Nat} (h1:1 ≤ d):∀ {n:Nat},d ≤ n→prodX k d n * chs k d = prodC k n
 | 0,h=>by omega
 | n + 1,h=>by
  unfold prodX prodC
  by_cases e:n + 1 = d
  ·rw [if_pos e,prodX_lt (by omega),e]
  ·rw [if_neg e,← prodX_mul h1 (by omega),Nat.mul_assoc,Nat.mul_comm (chs k (n + 1)),← Nat.mul_assoc]
theorem prodC_pos {k:Nat}:∀ {n:Nat},n ≤ k→prodC k n ≠ 0
 | 0,_=>Nat.one_ne_zero
 | n + 1,h=>by unfold prodC;exact Nat.mul_ne_zero (prodC_pos (by omega)) (chs_pos (by omega))
theorem prodC_le {k:Nat} (hk:k ≤ 40):∀ n,prodC k n ≤ 1099511627776 ^ n
 | 0=>by simp [prodC]
 | n + 1=>by
  unfold prodC
  rw [Nat.pow_succ]
  exact Nat.mul_le_mul (prodC_le hk n) (Nat.le_trans (chs_bnd k (n + 1)) (Nat.le_trans (Nat.pow_le_pow_right (by decide) hk) (by decide)))
theorem prodX_le {k d n:Nat} (h1:1 ≤ d) (h2:d ≤ n) (h3:n ≤ k):prodX k d n ≤ prodC k n:=by
 rw [← prodX_mul h1 h2]
 exact Nat.le_mul_of_pos_right _ (Nat.pos_of_ne_zero (chs_pos (by omega)))
def oneS (t:List Int) (k:Nat):Nat:=t.sum.toNat * prodC k t.length
def wS (t:List Int) (k d:Nat):Nat:=(t.getD (d - 1) 0).toNat * prodX k d t.length
def itemS (t:List Int) (k:Nat):List (List Int × Nat):=(setP t k t.length).map fun s=>(s,wS t k s.length)
theorem le_sum {t:List Int} (h:∀ w ∈ t,0 ≤ w):∀ w ∈ t,w ≤ t.sum:=by
 induction t with
 | nil=>intro w hw;cases hw
 | cons a r ih=>
  intro w hw
  have h1:0 ≤ r.sum:=by
   clear ih hw
   induction r with
   | nil=>simp
   | cons b s ih2=>
    have:=h b (by simp)
    have:=ih2 fun w hw=>h w (by rcases List.mem_cons.1 hw with rfl | hw;simp;simp [hw])
    simp only [List.sum_cons];omega
  rw [List.sum_cons]
  have ha:=h a (by simp)
  rcases List.mem_cons.1 hw with rfl | hw
  ·omega
  ·have:=ih (fun w hw=>h w (by simp [hw])) w hw;omega
theorem oneS_pos {t:List Int} {k:Nat} (hz:solE t k = 0):oneS t k ≠ 0:=by
 obtain ⟨z1,z2,z3,z4⟩:=solE_zero hz
 have:=sum_posT z3 z4
 exact Nat.mul_ne_zero (by omega) (prodC_pos (by omega))
theorem oneS_lt {t:List Int} {k:Nat} (hz:solE t k = 0) (hk:k ≤ 40) (hl:t.length ≤ 12):oneS t k < 18446744073709551616 ^ 10:=by
 obtain ⟨z1,z2,z3,z4⟩:=solE_zero hz
 have h1:=(sum_wOk z3).2
 have h2:t.sum.toNat ≤ 268435456:=by
  have:(16777215:Int) * t.length ≤ 16777215 * 12:=by omega
  omega
 have h3:=prodC_le hk t.length
 have h4:1099511627776 ^ t.length ≤ 1099511627776 ^ 12:=Nat.pow_le_pow_right (by decide) hl
 have h5:oneS t k ≤ 268435456 * 1099511627776 ^ 12:=Nat.mul_le_mul h2 (Nat.le_trans h3 h4)
 exact Nat.lt_of_le_of_lt h5 (by decide)
theorem wS_le {t:List Int} {k d:Nat} (hz:solE t k = 0) (h1:1 ≤ d) (h2:d ≤ t.length):wS t k d ≤ oneS t k:=by
 obtain ⟨z1,z2,z3,z4⟩:=solE_zero hz
 have hm:t.getD (d - 1) 0 ∈ t:=by rw [List.getD_eq_getElem?_getD,List.getElem?_eq_getElem (by omega)];exact List.getElem_mem (by omega)
 have:=le_sum (fun w hw=>(z3 w hw).1) _ hm
 exact Nat.mul_le_mul (by omega) (prodX_le h1 h2 (by omega))
theorem cha_eq {t:List Int} {k d:Nat} (hz:solE t k = 0) (h1:1 ≤ d) (h2:d ≤ t.length):mkRat (t.getD (d - 1) 0) (chs k d * t.sum.toNat) = mkRat ((wS t k d:Nat):Int) (oneS t k):=by
 obtain ⟨z1,z2,z3,z4⟩:=solE_zero hz
 have hs:=sum_posT z3 z4
 have hm:t.getD (d - 1) 0 ∈ t:=by rw [List.getD_eq_getElem?_getD,List.getElem?_eq_getElem (by omega)];exact List.getElem_mem (by omega)
 have h0:=(z3 _ hm).1
 have hx:prodX k d t.length ≠ 0:=fun e=>by
  have:=prodX_mul (k:=k) h1 h2
  rw [e,Nat.zero_mul] at this
  exact prodC_pos (k:=k) (n:=t.length) (by omega) this.symm
 have:=mk_scale (t.getD (d - 1) 0).toNat (chs k d * t.sum.toNat) (prodX k d t.length) (Nat.mul_ne_zero (chs_pos (by omega)) (by omega)) hx
 rw [Int.toNat_of_nonneg h0] at this
 rw [this]
 congr 1
 unfold oneS
 rw [← prodX_mul (k:=k) h1 h2]
 grind
def massW (W:List (List Int)→Bool) (t:List Int) (k n:Int):Fr3 × Int:=
 if refE t k n = 0 then (if (setsW t k).2 = 0 then sumW W (itemS t k.toNat) (oneS t k.toNat) n.toNat else (rqn,4)) else (rqn,refE t k n)
structure DrG where
 i:Nat
 v:Value
 hs:List (Value × Value)
attribute [local irreducible] Fit pt own ro vw mpc lpt vels rels mow lrc dfr
attribute [local irreducible] lmp lme mit velg relg bnd owl setP szL solE risR chaW oneS wS
abbrev itmC (v:Value) (ss:List Value) (hs:List (Value × Value)) (L:List (List Int × Nat)) (D:Nat):List Ch:=[oww TIm 4 v L.length (ics ss (fracs L D) hs),owl TLI I ss (L.map (·.1)),ofr hs (fracs L D)]
noncomputable abbrev failW (k:Int) (ls:List (List Int)):Bool:=decide (0 < (largeR k ls).length)
end Go.Art
namespace Go.Art
open Go Go.Proofs Go.RowKit
def unkS (ls:List (List Int)) (U:List Int):List Int:=U.filter fun s=>!(ls.any fun l=>l.contains s && l.all fun x=>x == s || !U.contains x)
def unkC (ls:List (List Int)):Nat→List Int→List Int
 | 0,U=>U
 | n + 1,U=>unkC ls n (unkS ls U)
def failC (k:Int) (ls:List (List Int)):Bool:=decide (stopE k ls = 0) && !((belowI k).filter fun s=>(unkC ls k.toNat (belowI k)).contains s).isEmpty
open Go
def shw (all:Int) (u:AlS) (c j:Nat):Int:=
 if (c:Int) ∈ u.B ++ u.A then (if c = j then u.rest.getD c 0 else 0) else ((if c = j then u.cut.getD c 0 else 0) + (if u.oth.getD c 0 = j then all - u.cut.getD c 0 else 0))
structure AlM (t:List Int) (all:Int) (u:AlS):Prop where
 op:∀ c:Nat,c < t.length→(c:Int) ∈ u.B ++ u.A→u.cut.getD c 0 = all∧u.oth.getD c 0 = c
 mass:∀ j:Nat,j < t.length→((List.range t.length).map fun c=>shw all u c j).sum = t.getD j 0 * t.length
open Go Go.Proofs Go.RowKit
def rowS (k:Nat) (l:List Int):List Int:=srt (ordF 0 (upto k) (l.drop 2))
def oneR (t:List Int) (k:Nat):Nat:=fall k k * t.length * t.sum.toNat
def wR (k:Nat) (l:List Int):Nat:=fall (k - (l.length - 2)) (k - (l.length - 2))
abbrev rowsA (t:List Int) (k:Nat):List (List Int):=allL t.sum (alF t).cut (alF t).oth k
def itemR (t:List Int) (k:Nat):List (List Int × Nat):=(rowsA t k).map fun l=>(rowS k l,wR k l)
def massD (W:List (List Int)→Bool) (t:List Int) (k n:Int):Fr3 × Int:=
 if refE t k n = 0 then (if (itemR t k.toNat).length ≤ 4096 then sumW W (itemR t k.toNat) (oneR t k.toNat) n.toNat else (rqn,4)) else (rqn,refE t k n)
structure DwG where
 i:Nat
 v:Value
 ss:List Value
 hs:List (Value × Value)
attribute [local irreducible] Fit pt own ro vw mpc lpt vels rels mow lrc dfr
attribute [local irreducible] lmp lme mit velg relg bnd owl setP szL solE risR chaW oneS wS
end Go.Art
namespace Go.Art
open Go Go.Proofs Go.RowKit
def msk (l:List Int):Nat:=(l.map fun s=>2 ^ s.toNat).sum
def popK (k a:Nat):Nat:=((List.range k).map fun j=>a / 2 ^ j % 2).sum
def rmsk (k:Nat) (l:List Int):Nat:=msk (ordF 0 (upto k) (l.drop 2))
def fct:Nat→Nat
 | 0=>1
 | n + 1=>(n + 1) * fct n
def chkA (k:Nat):Bool:=(List.range (k + 1)).all fun d=>(endsL d k []).all fun js=>(ordF 0 (upto k) js).all (fun s=>decide (0 ≤ s∧s < k)) && Nat.blt (msk (ordF 0 (upto k) js)) (2 ^ k)
def chkB (k:Nat):Bool:=(List.range (2 ^ k)).all fun a=>Nat.ble (popK k a) k && (Nat.beq a 0 || Nat.blt 0 (popK k a)) && (List.range (k + 1)).all fun d=>Nat.beq ((endsL d k []).filter fun js=>Nat.beq (msk (ordF 0 (upto k) js)) a).length (bif Nat.beq d (popK k a) then fct d else 0)
def wtA (k a:Nat) (l:List Int):Nat:=bif Nat.beq (rmsk k l) a then wt k l else 0
def shrM (k a:Nat) (d:Nat):Nat:=if d = popK k a then fct d * (24 / fall k d) else 0
open Go Go.Proofs Go.RowKit
theorem natG_zero (W:List (List Int)→Bool) (L:List (List Int × Nat)) (b:List (List Int)) (m:Nat):natG W L 0 b m = if W b then m else 0:=by rw [natG]
theorem natG_succ (W:List (List Int)→Bool) (L:List (List Int × Nat)) (n:Nat) (b:List (List Int)) (m:Nat):natG W L (n + 1) b m = (L.map fun s=>natG W L n (b ++ [s.1]) (m * s.2)).sum:=by rw [natG]
theorem sum_mulR {α:Type} (f:α→Nat) (c:Nat):∀ l:List α,(l.map fun x=>f x * c).sum = (l.map f).sum * c
 | []=>by simp
 | a :: l=>by rw [List.map_cons,List.sum_cons,List.map_cons,List.sum_cons,sum_mulR f c l,Nat.add_mul]
theorem natG_lin (W:List (List Int)→Bool) (L:List (List Int × Nat)) (c:Nat):∀ n b m,natG W L n b (m * c) = natG W L n b m * c
 | 0,b,m=>by rw [natG_zero,natG_zero];split <;> simp
 | n + 1,b,m=>by
  rw [natG_succ,natG_succ,← sum_mulR]
  refine congrArg List.sum (List.map_congr_left fun s _=>?_)
  rw [Nat.mul_right_comm,natG_lin W L c n]
theorem natG_all {L:List (List Int × Nat)} {D:Nat} (hD:(L.map (·.2)).sum = D):∀ n b m,natG (fun _=>true) L n b m = m * D ^ n
 | 0,b,m=>by rw [natG_zero,if_pos rfl,Nat.pow_zero,Nat.mul_one]
 | n + 1,b,m=>by
  rw [natG_succ]
  have:(L.map fun s=>natG (fun _=>true) L n (b ++ [s.1]) (m * s.2)) = L.map fun s=>s.2 * (m * D ^ n):=List.map_congr_left fun s _=>by rw [natG_all hD n,Nat.mul_assoc,Nat.mul_left_comm]
  rw [this,sum_mulR (fun s:List Int × Nat=>s.2) (m * D ^ n) L,hD,Nat.pow_succ,Nat.mul_comm D,Nat.mul_assoc]
theorem natG_leW {W V:List (List Int)→Bool} (h:∀ b,W b = true→V b = true) (L:List (List Int × Nat)):∀ n b m,natG W L n b m ≤ natG V L n b m
 | 0,b,m=>by
  rw [natG_zero,natG_zero]
  by_cases e:W b = true
  ·rw [if_pos e,if_pos (h b e)];exact Nat.le_refl _
  ·rw [if_neg e];exact Nat.zero_le _
 | n + 1,b,m=>by
  rw [natG_succ,natG_succ]
  have key:∀ l:List (List Int × Nat),(l.map fun s=>natG W L n (b ++ [s.1]) (m * s.2)).sum ≤ (l.map fun s=>natG V L n (b ++ [s.1]) (m * s.2)).sum:=by
   intro l
   induction l with
   | nil=>simp
   | cons a r ih=>simp only [List.map_cons,List.sum_cons];have:=natG_leW h L n (b ++ [a.1]) (m * a.2);omega
  exact key L
theorem natG_more {W:List (List Int)→Bool} {L:List (List Int × Nat)} {D:Nat} (hD:(L.map (·.2)).sum = D) (hW:∀ b,∀ s ∈ L,W (b ++ [s.1]) = true→W b = true):∀ n b m,natG W L (n + 1) b m ≤ natG W L n b m * D
 | 0,b,m=>by
  rw [natG_succ,natG_zero]
  by_cases e:W b = true
  ·rw [if_pos e,← hD]
   have key:∀ l:List (List Int × Nat),(l.map fun s=>natG W L 0 (b ++ [s.1]) (m * s.2)).sum ≤ m * (l.map (·.2)).sum:=by
    intro l
    induction l with
    | nil=>simp
    | cons a r ih=>
     simp only [List.map_cons,List.sum_cons]
     have:natG W L 0 (b ++ [a.1]) (m * a.2) ≤ m * a.2:=by rw [natG_zero];split <;> simp
     rw [Nat.mul_add];omega
   exact key L
  ·rw [if_neg e,Nat.zero_mul]
   have:(L.map fun s=>natG W L 0 (b ++ [s.1]) (m * s.2)) = L.map fun _=>0:=List.map_congr_left fun s hs=>by
    rw [natG_zero,if_neg fun h=>e (hW b s hs h)]
   rw [this,sum_const (fun _=>0) 0 L fun _ _=>rfl,Nat.mul_zero]
   exact Nat.le_refl _
 | n + 1,b,m=>by
  rw [natG_succ,natG_succ W L n,← sum_mulR]
  have key:∀ l:List (List Int × Nat),(l.map fun s=>natG W L (n + 1) (b ++ [s.1]) (m * s.2)).sum ≤ (l.map fun s=>natG W L n (b ++ [s.1]) (m * s.2) * D).sum:=by
   intro l
   induction l with
   | nil=>simp
   | cons a r ih=>simp only [List.map_cons,List.sum_cons];have:=natG_more hD hW n (b ++ [a.1]) (m * a.2);omega
  exact key L
theorem failW_more (k:Int) (b:List (List Int)) (s:List Int) (h:failW k (b ++ [s]) = true):failW k b = true:=by
 unfold failW at h ⊢
 have h:=of_decide_eq_true h
 refine decide_eq_true ?_
 unfold largeR at h ⊢
 by_cases e:stopE k (b ++ [s]) = 0
 ·rw [if_pos e] at h
  obtain ⟨k1,k2,hset⟩:=stopE_zero e
  have e2:stopE k b = 0:=by
   unfold stopE
   rw [if_neg (by omega),if_neg]
   intro h3
   obtain ⟨l,hl,h4⟩:=List.any_eq_true.1 h3
   rw [hset l (by simp [hl])] at h4;cases h4
  rw [if_pos e2]
  obtain ⟨x,hx⟩:=List.exists_mem_of_length_pos h
  have hx:=mem_large.1 hx
  exact List.length_pos_of_mem (mem_large.2 ⟨hx.1,fun hk=>hx.2 (hk.mono fun l hl=>by simp [hl])⟩)
 ·rw [if_neg e] at h;simp at h
theorem failW_none {k:Int} (hk:1 ≤ k∧k ≤ 65536):failW k [] = true:=by
 unfold failW
 refine decide_eq_true ?_
 unfold largeR
 rw [if_pos (by unfold stopE;rw [if_neg (by omega),if_neg (by simp)])]
 exact List.length_pos_of_mem (mem_large.2 ⟨⟨Int.le_refl 0,by omega⟩,fun h=>by obtain ⟨l,hl,_⟩:=h.mem;cases hl⟩)
theorem itemS_sum {t:List Int} {k:Nat} (hz:solE t k = 0):((itemS t k).map (·.2)).sum = oneS t k:=by
 obtain ⟨z1,z2,z3,z4⟩:=solE_zero hz
 have h1:(itemS t k).map (·.2) = (setP t k t.length).map fun s=>wS t k s.length:=by unfold itemS;rw [List.map_map];rfl
 rw [h1]
 have h2:∀ i,i < t.length→((szL t k i).map fun s=>wS t k s.length).sum = (t.getD i 0).toNat * prodC k t.length:=fun i hi=>by
  unfold szL
  by_cases e:t.getD i 0 = 0
  ·rw [if_pos e,e];simp
  ·rw [if_neg e,sum_const (fun s:List Int=>wS t k s.length) (wS t k (i + 1)) (risR (i + 1) 0 k) (fun s hs=>by rw [(risR_mem _ _ _ _ hs).1]),risR_len]
   unfold wS
   rw [Nat.sub_zero,Nat.add_sub_cancel,Nat.mul_comm,Nat.mul_assoc,prodX_mul (by omega) (by omega)]
 have h3:∀ n,n ≤ t.length→((setP t k n).map fun s=>wS t k s.length).sum = (t.take n).sum.toNat * prodC k t.length:=by
  intro n
  induction n with
  | zero=>intro _;rw [setP_zero];simp
  | succ n ih=>
   intro hn
   rw [setP_succ,List.map_append,List.sum_append,ih (by omega),h2 n (by omega),take_succ' (show n < t.length by omega) 0,List.sum_append,← Nat.add_mul]
   congr 1
   have ha:=(z3 (t.getD n 0) (by rw [List.getD_eq_getElem?_getD,List.getElem?_eq_getElem (by omega)];exact List.getElem_mem (by omega))).1
   have hb:0 ≤ (t.take n).sum:=(sum_bound (t:=t.take n) fun w hw=>z3 w (List.mem_of_mem_take hw)).1
   simp only [List.sum_cons,List.sum_nil,Int.add_zero]
   omega
 rw [h3 t.length (Nat.le_refl _),List.take_length];rfl
open Go Go.Proofs Go.RowKit
theorem tG_same {β:Type} {L M:List (β × Rat)} (H:∀ F:β→Rat,sR (fun s=>s.2 * F s.1) L = sR (fun s=>s.2 * F s.1) M):∀ (n:Nat) (F:List β→Rat),tG L n F = tG M n F
 | 0,F=>rfl
 | n + 1,F=>by
  simp only [tG]
  rw [H fun x=>tG L n fun l=>F (x :: l)]
  exact sR_congr fun s _=>by rw [tG_same H n]
theorem sR_cast {α:Type} (f:α→Nat):∀ l:List α,(((l.map f).sum:Nat):Rat) = sR (fun x=>(f x:Rat)) l
 | []=>rfl
 | a :: l=>by rw [List.map_cons,List.sum_cons];push_cast;rw [sR_cast f l];rfl
abbrev omg (t:List Int) (k:Nat):Nat→Rat:=natW (fun i=>wS t k (i + 1)) (oneS t k)
abbrev tabX (t:List Int) (k:Nat):List (List Int × Rat):=evX t.length k (omg t k)
theorem natG_tG (W:List (List Int)→Bool) (L:List (List Int × Nat)) {D:Nat} (hD:D ≠ 0):∀ n b m,((natG W L n b m:Nat):Rat) = (m:Rat) * (D:Rat) ^ n * tG (L.map fun s=>(s.1,(s.2:Rat) / (D:Rat))) n fun l=>if W (b ++ l) = true then 1 else 0
 | 0,b,m=>by
  rw [natG_zero]
  simp only [tG,List.append_nil,Rat.pow_zero,Rat.mul_one]
  split
  ·rw [Rat.mul_one]
  ·rw [Rat.mul_zero];rfl
 | n + 1,b,m=>by
  rw [natG_succ,sR_cast]
  simp only [tG]
  rw [sR_map,← sR_mul]
  refine sR_congr fun s _=>?_
  rw [natG_tG W L hD n]
  have h0:=nz hD
  simp only [List.append_assoc,List.singleton_append]
  push_cast
  rw [Rat.pow_succ]
  generalize (tG (L.map fun s=>(s.1,(s.2:Rat) / (D:Rat))) n fun l=>if W (b ++ s.1 :: l) = true then 1 else 0) = z
  grind
theorem wS_zero {t:List Int} {k i:Nat} (h:t.getD i 0 = 0):wS t k (i + 1) = 0:=by
 unfold wS;rw [Nat.add_sub_cancel,h];simp
theorem item_ev (t:List Int) (k:Nat) (F:List Int→Rat):sR (fun s=>s.2 * F s.1) ((itemS t k).map fun s=>(s.1,(s.2:Rat) / (oneS t k:Rat))) = sR (fun s=>s.2 * F s.1) (tabX t k):=by
 unfold itemS tabX evX setP
 rw [List.map_map,sR_map,sR_flat,sR_flat]
 refine sR_congr fun i _=>?_
 have hR:sR (fun s:List Int × Rat=>s.2 * F s.1) ((risR (i + 1) 0 k).map fun l=>(l,omg t k i)) = sR (fun l=>omg t k i * F l) (risR (i + 1) 0 k):=sR_map _ _ _
 refine Eq.trans ?_ hR.symm
 by_cases e:t.getD i 0 = 0
 ·rw [if_pos e]
  have h0:omg t k i = 0:=by
   show (wS t k (i + 1):Rat) / (oneS t k:Rat) = 0
   rw [wS_zero e,show ((0:Nat):Rat) = 0 from rfl];grind
  rw [h0]
  exact ((sR_congr fun l _=>Rat.zero_mul _).trans (sR_zero _)).symm
 ·rw [if_neg e]
  refine sR_congr fun l hl=>?_
  show (wS t k l.length:Rat) / (oneS t k:Rat) * F l = omg t k i * F l
  rw [(risR_mem _ _ _ _ hl).1];rfl
theorem omg_nonneg (t:List Int) (k i:Nat):0 ≤ omg t k i:=natW_nonneg _ _ _
theorem tabX_one {t:List Int} {k:Nat} (hz:solE t k = 0):sR (·.2) (tabX t k) = 1:=by
 have h1:=item_ev t k fun _=>1
 have h2:=itemS_sum hz
 have h0:=nz (oneS_pos hz)
 rw [sR_congr (f:=fun s:List Int × Rat=>s.2 * 1) (l:=tabX t k) (g:=(·.2)) fun s _=>Rat.mul_one _] at h1
 rw [← h1,sR_map]
 rw [sR_congr (g:=fun s:List Int × Nat=>(1 / (oneS t k:Rat)) * (s.2:Rat)) fun s _=>by grind,sR_mul,← sR_cast fun s:List Int × Nat=>s.2,h2]
 grind
abbrev pT (t:List Int) (k:Nat):Rat:=evI t.length k (omg t k) k 1
abbrev fT (t:List Int) (k u:Nat):Rat:=freeR t.length k (omg t k) u
abbrev lvT (t:List Int) (k n j:Nat):List Rat:=lvR (pT t k) (fT t k) n k j
def stT (t:List Int) (k n u:Nat):Rat:=stuckR n u (lvT t k n (k - u))
theorem ripple_tab {t:List Int} {k:Nat} (hz:solE t k = 0) (φ:Nat→Rat) (n:Nat):sR (fun u=>φ u * stT t k n u) (List.range (k + 1)) = tG (tabX t k) n fun ls=>φ (largeL k ls).length:=
 ripple_sets φ (fun i _=>omg_nonneg t k i) (tabX_one hz) n
theorem ripple_fail {t:List Int} {k:Nat} (hz:solE t k = 0) (n:Nat):sR (fun u=>stT t k n (u + 1)) (List.range k) = ((natG (failW k) (itemS t k) n [] 1:Nat):Rat) / ((oneS t k:Nat):Rat) ^ n:=by
 have h1:=ripple_tab hz (fun u=>if 0 < u then 1 else 0) n
 have h2:=natG_tG (failW k) (itemS t k) (oneS_pos hz) n [] 1
 obtain ⟨z1,z2,z3,z4⟩:=solE_zero hz
 rw [sR_shift,if_neg (Nat.lt_irrefl 0),sR_congr (f:=fun u=>(if 0 < u + 1 then (1:Rat) else 0) * stT t k n (u + 1)) (g:=fun u=>stT t k n (u + 1)) fun u _=>by rw [if_pos (Nat.succ_pos u),Rat.one_mul]] at h1
 rw [tG_same (item_ev t k)] at h2
 have h3:tG (tabX t k) n (fun l=>if failW k ([] ++ l) = true then (1:Rat) else 0) = tG (tabX t k) n fun ls=>if 0 < (largeL k ls).length then 1 else 0:=tG_congr fun ls _ hls=>by
  rw [List.nil_append]
  have hst:stopE k ls = 0:=by
   unfold stopE
   rw [if_neg (by omega),if_neg]
   intro hc
   obtain ⟨l,hl,hb⟩:=List.any_eq_true.1 hc
   obtain ⟨w,hw⟩:=hls l hl
   obtain ⟨h5,i,hi,h6,_⟩:=ev_nd _ hw
   have h7:=ris_hi h6
   have h8:isSet k l = true:=isSet_iff.2 ⟨fun e=>by rw [e] at h7;simp at h7,h5,fun x hx=>⟨by have:=ris_lo h6 x hx;omega,h7.2 x hx⟩⟩
   rw [h8] at hb;cases hb
  unfold failW
  rw [show largeR k ls = largeL k ls by unfold largeR;rw [if_pos hst]]
  by_cases e:0 < (largeL k ls).length
  ·rw [if_pos (decide_eq_true e),if_pos e]
  ·rw [if_neg (by simpa using e),if_neg e]
 rw [h3,← h1] at h2
 have h0:=nz (Nat.ne_of_gt (Nat.pow_pos (n:=n) (Nat.pos_of_ne_zero (oneS_pos hz))))
 push_cast at h0
 rw [h2,show ((1:Nat):Rat) = 1 from rfl]
 grind
open Go Go.Proofs Go.RowKit
theorem sg_flip (z:Int):sg (!decide (z < 0)) z.natAbs = -z:=by
 unfold sg
 by_cases h:z < 0
 ·rw [decide_eq_true h];simp;omega
 ·rw [decide_eq_false h];simp;omega
theorem sg_same (z:Int):sg (decide (z < 0)) z.natAbs = z:=by
 unfold sg
 by_cases h:z < 0
 ·rw [decide_eq_true h];simp;omega
 ·rw [decide_eq_false h];simp;omega
theorem FB_neg {q:Rat} {B:Nat} (h:FB q B):FB (-q) B:=by
 refine ⟨?_,?_⟩
 ·rw [Rat.neg_num,Int.natAbs_neg];exact h.1
 ·rw [Rat.neg_den];exact h.2
theorem mk_sign (z:Int) {m:Nat} (hm:m ≠ 0):(mkRat z m).num.sign = z.sign:=by
 rcases Int.lt_trichotomy z 0 with h | h | h
 ·rw [Int.sign_eq_neg_one_of_neg h,Int.sign_eq_neg_one_of_neg ((mk_neg z hm).2 h)]
 ·subst h;simp
 ·have h1:¬ (mkRat z m).num < 0:=fun k=>by have:=(mk_neg z hm).1 k;omega
  have h2:(mkRat z m).num ≠ 0:=fun k=>by
   have:=(Rat.mkRat_eq_zero hm).1 (Rat.num_eq_zero.1 k)
   omega
  rw [Int.sign_eq_one_of_pos h,Int.sign_eq_one_of_pos (by omega)]
theorem mk_subS (a b:Nat) {D E:Nat} (hD:D ≠ 0) (hE:E ≠ 0):(mkRat (a:Int) D - mkRat (b:Int) E).num.sign = ((a:Int) * E - b * D).sign:=by
 have:mkRat (a:Int) D - mkRat (b:Int) E = mkRat ((a:Int) * E - b * D) (D * E):=by
  rw [Rat.sub_eq_add_neg,Rat.neg_mkRat,Rat.mkRat_add_mkRat _ _ hD hE]
  congr 1
  grind
 rw [this,mk_sign _ (Nat.mul_ne_zero hD hE)]
attribute [local irreducible] Fit pt own ro vw mpc lpt vels rels mow lrc dfr
attribute [local irreducible] lmp lme mit velg relg bnd owl
theorem INeg_tr (z:Int) (o:Value) (ho:o.oneCell' = true) (hz:(dg z.natAbs).length ≤ 1099511627776):Tr Tryz.prog 125 [iv z o] [vw o (Us (dg z.natAbs))] [] (IR (-z)):=by
 have hM:=IMake_tr (!decide (z < 0)) o (dg z.natAbs) (Dg_dg _) hz
 rw [nv_dg,sg_flip] at hM
 unfold IR at hM ⊢
 generalize dg z.natAbs = l at *
 generalize dg (-z).natAbs = l2 at *
 show Tr _ _ [.agg #[.bool (decide (z < 0)),o]] _ _ _
 generalize decide (z < 0) = b at *
 generalize decide (-z < 0) = b2 at *
 refine Tr.enter env _ Tryz.func125 (by kernel_rfl) rfl Tryz.ntmps125 rfl (by repeat (first | exact has00 | refine has01 ?_)) fun w0=>?_
 repeat' first|(refine gca ?_;first|(refine ca hM ?_;rintro _ _ ⟨o2,rfl,ho2,rfl⟩))|refine bx fun q=>?_|refine al fun c=>?_|refine srz ?_|(refine wo ?_;first|refine oa ?_|refine ld ?_)|refine sq ?_|refine rg ?_|refine xc ?_|refine nl ?_|refine rt ?_
 exact rca1 (b:=c) (cs:=[.bool b2,o2]) (vs:=[.bool b2,o2]) (T:=33) ⟨o2,rfl,ho2,rfl⟩
theorem IHeld_tr (z:Int) (o:Value) (ho:o.oneCell' = true) (hz:(dg z.natAbs).length ≤ 1099511627776):Tr Tryz.prog 102 [iv z o] [vw o (Us (dg z.natAbs))] [] (IR z):=by
 have hM:=IMake_tr (decide (z < 0)) o (dg z.natAbs) (Dg_dg _) hz
 rw [nv_dg,sg_same] at hM
 unfold IR at hM ⊢
 generalize dg z.natAbs = l at *
 show Tr _ _ [.agg #[.bool (decide (z < 0)),o]] _ _ _
 generalize decide (z < 0) = b at *
 refine Tr.enter env _ Tryz.func102 (by kernel_rfl) rfl Tryz.ntmps102 rfl (by repeat (first | exact has00 | refine has01 ?_)) fun w0=>?_
 repeat' first|(refine gca ?_;first|(refine ca hM ?_;rintro _ _ ⟨o2,rfl,ho2,rfl⟩))|refine bx fun q=>?_|refine al fun c=>?_|refine srz ?_|(refine wo ?_;first|refine oa ?_|refine ld ?_)|refine sq ?_|refine rg ?_|refine xc ?_|refine nl ?_|refine rt ?_
 exact rca1 (b:=c) (cs:=[.bool b,o2]) (vs:=[.bool b,o2]) (T:=33) ⟨o2,rfl,ho2,rfl⟩
theorem ISign_tr (z:Int) (o:Value) (ho:o.oneCell' = true) (hz:(dg z.natAbs).length ≤ 1099511627776):Tr Tryz.prog 54 [iv z o] [vw o (Us (dg z.natAbs))] [] fun u D=>u = I z.sign∧D = []:=by
 have hM:=IHeld_tr z o ho hz
 unfold IR iv at hM
 have hlp:0 < (dg z.natAbs).length ↔ z ≠ 0:=⟨fun h e=>by rw [e,Int.natAbs_zero,dg_zero] at h;simp at h,fun h=>dg_len_pos (by omega)⟩
 have h1:z < 0→z.sign = -1:=Int.sign_eq_neg_one_of_neg
 have h2:0 < z→z.sign = 1:=Int.sign_eq_one_of_pos
 have h3:z = 0→z.sign = 0:=fun h=>by rw [h];rfl
 generalize dg z.natAbs = l at *
 generalize z.sign = s at *
 show Tr _ _ [.agg #[.bool (decide (z < 0)),o]] _ _ _
 have h4:decide (z < 0) = true ↔ z < 0:=decide_eq_true_iff
 generalize decide (z < 0) = b at *
 cases b with
 | true=>
  have h5:=h1 (h4.1 rfl)
  refine Tr.enter env _ Tryz.func54 (by kernel_rfl) rfl Tryz.ntmps54 rfl (by repeat (first | exact has00 | refine has01 ?_)) fun w0=>?_
  repeat' first|(refine gca ?_;first|(refine ca hM ?_;rintro _ _ ⟨o2,rfl,ho2,rfl⟩))|refine bx fun q=>?_|refine lda ?_|refine srz ?_ (hj:=Nat.le_of_ble_eq_true rfl)|(refine wo ?_;first|refine oa ?_|refine ld ?_)|(refine gc ?_;first|refine ct ?_)|refine sq ?_|refine rg ?_|refine xc ?_|refine nl ?_|refine bk ?_|refine rt ?_
  all_goals exact r1 ⟨by rw [h5],rfl⟩
 | false=>
  have h5:¬ z < 0:=fun h=>by have:=h4.2 h;cases this
  by_cases h6:z = 0
  ·have h7:¬ 0 < l.length:=fun h=>hlp.1 h h6
   have h8:=h3 h6
   refine Tr.enter env _ Tryz.func54 (by kernel_rfl) rfl Tryz.ntmps54 rfl (by repeat (first | exact has00 | refine has01 ?_)) fun w0=>?_
   repeat' first|(refine gca ?_;first|(refine ca hM ?_;rintro _ _ ⟨o2,rfl,ho2,rfl⟩))|refine bx fun q=>?_|refine lda ?_|refine srz ?_ (hj:=Nat.le_of_ble_eq_true rfl)|(refine wo ?_;first|(refine ao ?_;first|refine oa ?_)|refine oa ?_|refine ld ?_|refine lnm ?_)|(refine gc ?_;first|refine cf ?_|(refine ci (fun hB=>?_) (fun hB=>?_) <;> try (exfalso;omega)))|refine sq ?_|refine rg ?_|refine xc ?_|refine nl ?_|refine sk ?_|refine bk ?_|refine rt ?_|refine xb ?_
   all_goals exact r1 ⟨by rw [h8],rfl⟩
  ·have h7:=hlp.2 h6
   have h8:=h2 (by omega)
   refine Tr.enter env _ Tryz.func54 (by kernel_rfl) rfl Tryz.ntmps54 rfl (by repeat (first | exact has00 | refine has01 ?_)) fun w0=>?_
   repeat' first|(refine gca ?_;first|(refine ca hM ?_;rintro _ _ ⟨o2,rfl,ho2,rfl⟩))|refine bx fun q=>?_|refine lda ?_|refine srz ?_ (hj:=Nat.le_of_ble_eq_true rfl)|(refine wo ?_;first|(refine ao ?_;first|refine oa ?_)|refine oa ?_|refine ld ?_|refine lnm ?_)|(refine gc ?_;first|refine cf ?_|(refine ci (fun hB=>?_) (fun hB=>?_) <;> try (exfalso;omega)))|refine sq ?_|refine rg ?_|refine xc ?_|refine nl ?_|refine bk ?_|refine rt ?_
   all_goals exact r1 ⟨by rw [h8],rfl⟩
theorem FSub_tr (q r:Rat) (v1 v2 v3 v4:Value) (h1:v1.oneCell' = true) (h2:v2.oneCell' = true) (h3:v3.oneCell' = true) (h4:v4.oneCell' = true) (hq:FB q 8589934592) (hr:FB r 8589934592) :
  Tr Tryz.prog 72 [rv q v1 v2,rv r v3 v4] [vw v1 (Us (dg q.num.natAbs)),vw v2 (Us (dg q.den)),vw v3 (Us (dg r.num.natAbs)),vw v4 (Us (dg r.den))] [] (FQ2 (q - r) 0):=by
 have hC1:=FCheck_tr q v1 v2 h1 h2 (hq.le (by decide))
 have hC2:=FCheck_tr r v3 v4 h3 h4 (hr.le (by decide))
 have hN:=INeg_tr r.num v3 h3 (by have:=hr.1;omega)
 have hS:=fun o ho=>FSum_tr q (-r) v1 v2 o v4 h1 h2 ho h4 hq (FB_neg hr)
 rw [← Rat.sub_eq_add_neg] at hS
 unfold rv at hS hC1 hC2
 simp only [Rat.neg_num,Rat.neg_den] at hS
 unfold IR iv at hN
 unfold FQ at hS
 unfold FQ2
 obtain ⟨p,hp⟩ : ∃ p,p = q - r:=⟨_,rfl⟩
 simp only [← hp] at hS ⊢
 clear hp
 show Tr _ _ [.agg #[.bool (decide (q.num < 0)),v1,v2],.agg #[.bool (decide (r.num < 0)),v3,v4]] _ _ _
 generalize dg (-r.num).natAbs = ln at *
 generalize decide (-r.num < 0) = bn at *
 generalize dg q.num.natAbs = lq at *
 generalize dg q.den = lqd at *
 generalize dg r.num.natAbs = lr at *
 generalize dg r.den = lrd at *
 generalize decide (q.num < 0) = b1 at *
 generalize decide (r.num < 0) = b2 at *
 refine Tr.enter env _ Tryz.func72 (by kernel_rfl) rfl Tryz.ntmps72 rfl (by repeat (first | exact has00 | refine has01 ?_)) fun w0=>?_
 repeat' first|(refine gca ?_;first|(refine ca hC1 ?_;rintro _ _ ⟨rfl,rfl⟩)|(refine ca hC2 ?_;rintro _ _ ⟨rfl,rfl⟩))|refine bx fun q=>?_|refine al fun c=>?_|refine lda ?_|(refine wo ?_;first|(refine ao ?_;first|refine oa ?_)|refine oa ?_|refine gy ?_)|(refine gc ?_;first|refine cf ?_)|refine sq ?_|refine rg ?_|refine xc ?_|refine nl ?_|refine sk ?_
 rename_i q1
 refine rs (fun w=>w.heap[q1]? = some (.cells [.bool b1,v1,v2].toArray TRt (0,0))∧w.heap[q]? = some (.cells [.bool b2,v3,v4].toArray TRt (0,0))) ?_ (fun w hw=>⟨pt_at memA hw,pt_at memA hw⟩)
 refine tk 0 (v:=.agg #[.bool b1,v1,v2]) (fun w h=>R_loadA (E:=env) (vs:=[.bool b1,v1,v2]) rfl rfl rfl rfl h.1 rfl rfl) ?_
 refine tka 1 ?_
 refine tk 2 (v:=.agg #[.bool b2,v3]) (fun w h=>R_loadA (E:=env) (vs:=[.bool b2,v3]) rfl rfl rfl rfl h.2 rfl rfl) ?_
 refine tka 4 ?_
 refine tkl 5 (cs:=[.bool b2,v3,v4]) (fun w h=>h.2) ?_
 refine t1 3 ?_
 refine ca hN ?_
 rintro _ _ ⟨o2,rfl,ho2,rfl⟩
 refine nl ?_
 refine te (fun w hw=>⟨pt_at memA hw,pt_at memA hw⟩) ?_
 refine t1 6 ?_
 refine bdm ?_
 refine nl ?_
 refine te (fun w hw=>⟨pt_at memA hw,pt_at memA hw⟩) ?_
 refine t1 7 ?_
 refine ca (hS o2 ho2) ?_
 rintro _ _ ⟨vn,vd,rfl,hvn,hvd,rfl⟩
 refine nl ?_
 refine te (fun w hw=>⟨pt_at memA hw,pt_at memA hw⟩) ?_
 refine t1 8 ?_
 refine srz ?_
 refine nl ?_
 refine te (fun w hw=>⟨pt_at memA hw,pt_at memA hw⟩) ?_
 refine tka 9 ?_
 refine t0 ?_
 repeat' first|refine xc ?_|refine rt ?_
 exact rca (cs:=[.bool (decide (p.num < 0)),vn,vd]) (vs:=[.bool (decide (p.num < 0)),vn,vd]) (T:=TRt) ⟨vn,vd,rfl,hvn,hvd,rfl⟩
theorem FCmp_tr (q r:Rat) (v1 v2 v3 v4:Value) (h1:v1.oneCell' = true) (h2:v2.oneCell' = true) (h3:v3.oneCell' = true) (h4:v4.oneCell' = true) (hq:FB q 8589934592) (hr:FB r 8589934592) (hl:(dg (q - r).num.natAbs).length ≤ 1099511627776) :
  Tr Tryz.prog 33 [rv q v1 v2,rv r v3 v4] [vw v1 (Us (dg q.num.natAbs)),vw v2 (Us (dg q.den)),vw v3 (Us (dg r.num.natAbs)),vw v4 (Us (dg r.den))] [] fun u D=>u = tup2 (I (q - r).num.sign) (I 0)∧D = []:=by
 have hS:=FSub_tr q r v1 v2 v3 v4 h1 h2 h3 h4 hq hr
 obtain ⟨p,hp⟩ : ∃ p,p = q - r:=⟨_,rfl⟩
 rw [← hp] at hS hl ⊢
 clear hp
 have hI:=fun o ho=>ISign_tr p.num o ho hl
 unfold iv at hI
 unfold FQ2 at hS
 refine Tr.enter env _ Tryz.func33 (by kernel_rfl) rfl Tryz.ntmps33 rfl (by repeat (first | exact has00 | refine has01 ?_)) fun w0=>?_
 repeat' first|(refine gca ?_;first|(refine ca hS ?_;rintro _ _ ⟨vn,vd,rfl,hvn,hvd,rfl⟩)|(refine ca (hI vn hvn) ?_;rintro _ _ ⟨rfl,rfl⟩))|refine bx fun q=>?_|refine al fun c=>?_|refine lda ?_|refine lda (vs:=[.bool (decide (p.num < 0)),vn]) ?_|refine srz ?_|(refine wo ?_;first|refine oa ?_)|refine sq ?_|refine rg ?_|refine xc ?_|refine nl ?_|refine rt ?_
 exact r2 ⟨rfl,rfl⟩
end Go.Art
namespace Go.Art
open Go Go.Proofs Go.RowKit
theorem inv_parts {r:Rat} (h:0 < r.num):(r⁻¹).num = r.den∧(r⁻¹).den = r.num.natAbs:=by
 refine ⟨?_,?_⟩
 ·rw [Rat.num_inv,Int.sign_eq_one_of_pos h,Int.one_mul]
 ·rw [Rat.den_inv,if_neg (by omega)]
theorem FB_inv {r:Rat} {B:Nat} (h:0 < r.num) (k:FB r B):FB r⁻¹ B:=by
 obtain ⟨e1,e2⟩:=inv_parts h
 refine ⟨?_,?_⟩
 ·rw [e1,Int.natAbs_natCast];exact k.2
 ·rw [e2];exact k.1
attribute [local irreducible] Fit pt own ro vw mpc lpt vels rels mow lrc dfr
attribute [local irreducible] lmp lme mit velg relg bnd owl
theorem FOver_tr (b:Bool) (v3 v4:Value) (h3:v3.oneCell' = true) (h4:v4.oneCell' = true):Tr Tryz.prog 267 [.agg #[.bool b,v3,v4]] [] [] fun u D=>u = .agg #[.bool b,v4,v3]∧D = []:=by
 refine Tr.enter env _ Tryz.func267 (by kernel_rfl) rfl Tryz.ntmps267 rfl (by repeat (first | exact has00 | refine has01 ?_)) fun w0=>?_
 repeat' first|refine bx fun q=>?_|refine al fun c=>?_|refine bdm ?_|refine srz ?_|(refine wo ?_;first|refine oa ?_|refine ld ?_)|refine sq ?_|refine rg ?_|refine xc ?_|refine nl ?_|refine rt ?_
 exact rca1 (cs:=[.bool b,v4,v3]) (vs:=[.bool b,v4,v3]) (T:=TRt) ⟨rfl,rfl⟩
theorem FDiv_tr (q r:Rat) (v1 v2 v3 v4:Value) (h1:v1.oneCell' = true) (h2:v2.oneCell' = true) (h3:v3.oneCell' = true) (h4:v4.oneCell' = true) (hq:FB q 8589934592) (hr:FB r 8589934592) (hp:0 < r.num) :
  Tr Tryz.prog 218 [rv q v1 v2,rv r v3 v4] [vw v1 (Us (dg q.num.natAbs)),vw v2 (Us (dg q.den)),vw v3 (Us (dg r.num.natAbs)),vw v4 (Us (dg r.den))] [] (FQ2 (q / r) 0):=by
 have hC1:=FCheck_tr q v1 v2 h1 h2 (hq.le (by decide))
 have hC2:=FCheck_tr r v3 v4 h3 h4 (hr.le (by decide))
 have hO:=FOver_tr (decide (r.num < 0)) v3 v4 h3 h4
 have hP:=FProd_tr q r⁻¹ v1 v2 v4 v3 h1 h2 h4 h3 hq (FB_inv hp hr)
 obtain ⟨e1,e2⟩:=inv_parts hp
 have hl:0 < (dg r.num.natAbs).length:=dg_len_pos (by omega)
 rw [← Rat.div_def] at hP
 unfold rv at hP hC1 hC2
 rw [e1,e2,Int.natAbs_natCast,show decide (((r.den:Nat):Int) < 0) = decide (r.num < 0) by rw [decide_eq_false (by omega),decide_eq_false (by omega)]] at hP
 unfold FQ at hP
 unfold FQ2
 obtain ⟨p,hp'⟩ : ∃ p,p = q / r:=⟨_,rfl⟩
 simp only [← hp'] at hP ⊢
 clear hp' hp e1 e2
 show Tr _ _ [.agg #[.bool (decide (q.num < 0)),v1,v2],.agg #[.bool (decide (r.num < 0)),v3,v4]] _ _ _
 generalize dg q.num.natAbs = lq at *
 generalize dg q.den = lqd at *
 generalize dg r.num.natAbs = lr at *
 generalize dg r.den = lrd at *
 generalize decide (q.num < 0) = b1 at *
 generalize decide (r.num < 0) = b2 at *
 refine Tr.enter env _ Tryz.func218 (by kernel_rfl) rfl Tryz.ntmps218 rfl (by repeat (first | exact has00 | refine has01 ?_)) fun w0=>?_
 repeat' first|(refine gca ?_;first|(refine ca hC1 ?_;rintro _ _ ⟨rfl,rfl⟩)|(refine ca hC2 ?_;rintro _ _ ⟨rfl,rfl⟩))|refine bx fun q=>?_|refine al fun c=>?_|refine lda ?_|(refine wo ?_;first|(refine ao ?_;first|refine oa ?_)|refine oa ?_|refine ld ?_|refine lnm ?_|refine gy ?_)|(refine gc ?_;first|refine cf ?_|(refine ci (fun hB=>?_) (fun hB=>?_) <;> try (exfalso;omega)))|refine sq ?_|refine rg ?_|refine xc ?_|refine nl ?_|refine sk ?_|refine bk ?_|refine xb ?_
 rename_i q1
 refine rs (fun w=>w.heap[q1]? = some (.cells [.bool b1,v1,v2].toArray TRt (0,0))∧w.heap[q]? = some (.cells [.bool b2,v3,v4].toArray TRt (0,0))) ?_ (fun w hw=>⟨pt_at memA hw,pt_at memA hw⟩)
 refine tk 0 (v:=.agg #[.bool b1,v1,v2]) (fun w h=>R_loadA (E:=env) (vs:=[.bool b1,v1,v2]) rfl rfl rfl rfl h.1 rfl rfl) ?_
 refine tk 1 (v:=.agg #[.bool b2,v3,v4]) (fun w h=>R_loadA (E:=env) (vs:=[.bool b2,v3,v4]) rfl rfl rfl rfl h.2 rfl rfl) ?_
 refine t1 2 ?_
 refine ca hO ?_
 rintro _ _ ⟨rfl,rfl⟩
 refine nl ?_
 refine te (fun w hw=>⟨pt_at memA hw,pt_at memA hw⟩) ?_
 refine t1 3 ?_
 refine ca hP ?_
 rintro _ _ ⟨vn,vd,rfl,hvn,hvd,rfl⟩
 refine nl ?_
 refine te (fun w hw=>⟨pt_at memA hw,pt_at memA hw⟩) ?_
 refine t1 4 ?_
 refine srz ?_
 refine nl ?_
 refine te (fun w hw=>⟨pt_at memA hw,pt_at memA hw⟩) ?_
 refine tka 5 ?_
 refine t0 ?_
 repeat' first|refine xc ?_|refine rt ?_
 exact rca (cs:=[.bool (decide (p.num < 0)),vn,vd]) (vs:=[.bool (decide (p.num < 0)),vn,vd]) (T:=TRt) ⟨vn,vd,rfl,hvn,hvd,rfl⟩
end Go.Art
