/- Texts put together: Rx Rw Hp Hq Ak Mk Qr Qs Gl Gs Qv Qw Qx Rz Rv Ry Fr Sr StopF StopG StopH StopI StopJ StopK StopN Ve Vf Mb Md Za Zb. Conditions: none. -/
import Derived.Test.YtpabbhpgikdhfaaGreatWPd
set_option linter.unusedSimpArgs false
set_option linter.unusedVariables false
namespace Go.Art
open Go Go.Proofs Go.RowKit
def ordF:Nat→List Int→List Int→List Int
 | _,_,[]=>[]
 | i,l,j :: js=>l.getD (i + j.toNat) 0 :: ordF (i + 1) (swp l i (i + j.toNat)) js
theorem sum_const {α:Type} (w:α→Nat) (m:Nat):∀ (l:List α),(∀ x ∈ l,w x = m)→(l.map w).sum = l.length * m
 | [],_=>by simp
 | a :: l,h=>by
  rw [List.map_cons,List.sum_cons,h a (by simp),sum_const w m l (fun x hx=>h x (by simp [hx])),List.length_cons,Nat.succ_mul];omega
def wt (k:Nat) (l:List Int):Nat:=24 / fall k (l.length - 2)
theorem mk_add (a b D:Nat) (hD:D ≠ 0):mkRat (a:Int) D + mkRat (b:Int) D = mkRat ((a + b:Nat):Int) D:=by
 rw [Rat.mkRat_add_mkRat _ _ hD hD,Rat.mkRat_eq_iff (Nat.mul_ne_zero hD hD) hD]
 push_cast
 grind
theorem mk_scale (a D m:Nat) (hD:D ≠ 0) (hm:m ≠ 0):mkRat (a:Int) D = mkRat ((a * m:Nat):Int) (D * m):=by
 rw [Rat.mkRat_eq_iff hD (Nat.mul_ne_zero hD hm)]
 push_cast
 grind
theorem mk_one (D:Nat) (h:D ≠ 0):mkRat (D:Int) D = 1:=by
 rw [show (1:Rat) = mkRat 1 1 from rfl,Rat.mkRat_eq_iff h (by decide)];omega
open Go Go.Proofs Go.RowKit
attribute [local irreducible] Fit pt own ro vw mpc lpt vels rels mow lrc dfr
attribute [local irreducible] lmp lme mit velg relg
def plcR (tot:Int) (cut oth:List Int) (st:BitVec 64):Int × BitVec 64:=
 (alPick tot cut oth (sdraw cut.length st).1 (sdraw tot.toNat (sdraw cut.length st).2).1,(sdraw tot.toNat (sdraw cut.length st).2).2)
def setR (tot:Int) (cut oth:List Int) (k:Int) (st:BitVec 64):List Int × Int:=pickR k ((plcR tot cut oth st).1 + 1) (plcR tot cut oth st).2
end Go.Art
namespace Go.Art
open Go Go.Proofs Go.RowKit
def par (j:Nat):Nat:=(j - 1) / 2
structure HpUp (l:List Int) (i:Nat):Prop where
 a:∀ j,0 < j→j < l.length→j ≠ i→l.getD (par j) 0 ≤ l.getD j 0
 b:∀ j,0 < j→j < l.length→par j = i→0 < i→l.getD (par i) 0 ≤ l.getD j 0
structure HpDn (l:List Int) (i:Nat):Prop where
 a:∀ j,0 < j→j < l.length→par j ≠ i→l.getD (par j) 0 ≤ l.getD j 0
 b:∀ j,0 < j→j < l.length→par j = i→0 < i→l.getD (par i) 0 ≤ l.getD j 0
def Heap (l:List Int):Prop:=∀ j,0 < j→j < l.length→l.getD (par j) 0 ≤ l.getD j 0
def swq (l:List Int) (i j:Nat):List Int:=(l.set i (l.getD j 0)).set j (l.getD i 0)
open Go Go.Proofs Go.RowKit
attribute [local irreducible] Fit pt own ro vw mpc lpt vels rels mow lrc dfr
attribute [local irreducible] lmp lme mit velg relg
section
variable {P:Program} {E:Env P} {n:Sh} {X:Cx} {s:List K} {fr:Fr} {A:List Ch} {ops:Array Oper} {d:Nat} {ty t el:TypeId} {pos:String} {after:Array Edge} {v z:Value} {fuel by_:Nat} {listed:Array Bool} {S:World→Prop} {x y:Operand} {k1:IntKind}
end
section
variable {P:Program} {E:Env P} {n:Sh} {X:Cx} {s:List K} {fr:Fr} {A:List Ch} {ops:Array Oper} {rest:List Oper} {d:Nat} {ty t t':TypeId} {pos:String} {after:Array Edge} {x y:Operand} {m q:Int}
end
section
variable {P:Program} {E:Env P} {n:Sh} {X:Cx} {s:List K} {fr:Fr} {A:List Ch} {ops:Array Oper} {rest:List Oper} {d:Nat} {ty t:TypeId} {pos:String} {after:Array Edge} {v:Value} {x:Operand}
end
section
variable {n:Sh} {X:Cx} {s:List K} {fr:Fr} {A:List Ch} {ops:Array Oper} {rest:List Oper} {d:Nat} {ty:TypeId} {pos:String} {after:Array Edge} {x y:Operand} {a b:Int} {parts:List (Nat × Operand)}
end
abbrev THp:TypeId:=170
def hcut (h:List Int):List Int:=(h.set 0 (h.getD (h.length - 1) 0)).take (h.length - 1)
end Go.Art
namespace Go.Art
open Go
def Rep (h S:List Int):Prop:=Heap h∧h.Perm S∧S.Pairwise (· ≤ ·)
structure AlS where
 rest:List Int
 cut:List Int
 oth:List Int
 B:List Int
 A:List Int
def alStep (all:Int) (u:AlS) (i j:Int) (B A:List Int):AlS:=
 let ri:=u.rest.getD i.toNat 0
 let r:=u.rest.getD j.toNat 0 - (all - ri)
 ⟨u.rest.set j.toNat r,u.cut.set i.toNat ri,u.oth.set i.toNat j,if r > all then B else if r < all then srt (j :: B) else B,if r > all then j :: A else A⟩
def alRun (all:Int):Nat→AlS→AlS
 | 0,u=>u
 | f + 1,u=>match u.B,u.A with
  | i :: B,j :: A=>alRun all f (alStep all u i j B A)
  | _,_=>u
def alIn (t:List Int) (all:Int):Nat→AlS
 | 0=>⟨List.replicate t.length 0,List.replicate t.length 0,List.replicate t.length 0,[],[]⟩
 | i + 1=>let u:=alIn t all i
  let r:=t.getD i 0 * t.length
  ⟨u.rest.set i r,u.cut.set i all,u.oth.set i i,if r < all then srt ((i:Int) :: u.B) else u.B,if r < all then u.A else if r > all then srt ((i:Int) :: u.A) else u.A⟩
structure AlI (t:List Int) (all:Int) (u:AlS):Prop where
 lr:u.rest.length = t.length
 lc:u.cut.length = t.length
 lo:u.oth.length = t.length
 nd:(u.B ++ u.A).Nodup
 B:∀ i ∈ u.B,(0 ≤ i∧i < t.length)∧0 ≤ u.rest.getD i.toNat 0∧u.rest.getD i.toNat 0 < all
 A:∀ j ∈ u.A,(0 ≤ j∧j < t.length)∧all < u.rest.getD j.toNat 0∧u.rest.getD j.toNat 0 ≤ 1099511627776∧0 < t.getD j.toNat 0
 sum:(u.B.map fun i=>all - u.rest.getD i.toNat 0).sum = (u.A.map fun j=>u.rest.getD j.toNat 0 - all).sum
 cut:∀ c:Nat,c < t.length→0 ≤ u.cut.getD c 0∧u.cut.getD c 0 ≤ all
 oth:∀ c:Nat,c < t.length→(0 ≤ u.oth.getD c 0∧u.oth.getD c 0 < t.length)∧(u.cut.getD c 0 = all∨0 < t.getD (u.oth.getD c 0).toNat 0)
 zero:∀ c:Nat,c < t.length→¬ 0 < t.getD c 0→u.rest.getD c 0 = 0∧((c:Int) ∈ u.B∨u.cut.getD c 0 = 0)
structure AlJ (t:List Int) (all:Int) (n:Nat) (u:AlS):Prop where
 lr:u.rest.length = t.length
 lc:u.cut.length = t.length
 lo:u.oth.length = t.length
 nd:(u.B ++ u.A).Nodup
 B:∀ i ∈ u.B,(0 ≤ i∧i < n)∧0 ≤ u.rest.getD i.toNat 0∧u.rest.getD i.toNat 0 < all
 A:∀ j ∈ u.A,(0 ≤ j∧j < n)∧all < u.rest.getD j.toNat 0∧u.rest.getD j.toNat 0 ≤ 1099511627776∧0 < t.getD j.toNat 0
 sum:(u.B.map fun i=>all - u.rest.getD i.toNat 0).sum - (u.A.map fun j=>u.rest.getD j.toNat 0 - all).sum = n * all - t.length * (t.take n).sum
 cut:∀ c:Nat,c < n→u.cut.getD c 0 = all
 oth:∀ c:Nat,c < n→u.oth.getD c 0 = c
 zero:∀ c:Nat,c < n→¬ 0 < t.getD c 0→u.rest.getD c 0 = 0∧(c:Int) ∈ u.B
def alMu (u:AlS):Nat:=u.B.length + 2 * u.A.length
def alEnd (all:Int) (u:AlS):AlS:=alRun all (alMu u) u
def alF (t:List Int):AlS:=alEnd t.sum (alIn t t.sum t.length)
open Go Go.Proofs Go.RowKit
attribute [local irreducible] Fit pt own ro vw mpc lpt vels rels mow lrc dfr
attribute [local irreducible] lmp lme mit velg relg
structure MkG where
 i:Nat
 hb:List Int
 ha:List Int
 bv:Value
 av:Value
structure MkH where
 u:AlS
 hb:List Int
 ha:List Int
 bv:Value
 av:Value
end Go.Art
namespace Go.Art
open Go Go.Proofs Go.RowKit
theorem eq_of_getDN {xs ys:List Nat} (hl:xs.length = ys.length) (h:∀ j,j < xs.length→xs.getD j 0 = ys.getD j 0):xs = ys:=by
 refine List.ext_getElem hl fun i h1 h2=>?_
 have:=h i h1
 simpa [List.getD_eq_getElem?_getD,h1,h2] using this
attribute [local irreducible] Fit pt own ro vw mpc lpt vels rels mow lrc dfr
attribute [local irreducible] lmp lme mit velg relg
theorem SameNat_tr (a b:Value) (xs ys:List Nat):Tr Tryz.prog 66 [a,b] [vw a (Us xs),vw b (Us ys)] [] fun v D=>v = .bool (decide (xs = ys))∧D = []:=by
 refine Tr.enter env _ Tryz.func66 (by kernel_rfl) rfl Tryz.ntmps66 rfl (by repeat (first | exact has00 | refine has01 ?_)) fun w0=>?_
 refine TC.lenu (l:=xs) fun hl=>?_
 repeat' first|(refine wo ?_;first|(refine ao ?_;first|refine oa ?_)|refine oa ?_|refine lnm ?_)|(refine gc ?_;first|(refine cn (fun hB=>?_) (fun hB=>?_) <;> try (exfalso;omega)))|refine sq ?_|refine rg ?_|refine xc ?_|refine nl ?_|refine sk ?_|refine bk ?_|refine rt ?_
 ·refine r1 ⟨?_,rfl⟩
  rw [decide_eq_false];intro e;subst e;omega
 ·refine TC.loop (ι:=Nat) (fun k=>[(5,I k)]) (fun _=>[]) (fun k=>k ≤ xs.length∧∀ j,j < k→xs.getD j 0 = ys.getD j 0) (fun k=>xs.length - k) 0 [0,1] ⟨by omega,by omega⟩ ?_
  rintro k ⟨hk,heq⟩
  repeat' first|(refine wo ?_;first|(refine ao ?_;first|refine aw ?_|refine oa ?_)|refine oa ?_|refine lnm ?_)|(refine gc ?_;first|(refine ci (fun hB=>?_) (fun hB=>?_) <;> try (exfalso;omega))|(refine cn (fun hB=>?_) (fun hB=>?_) <;> try (exfalso;omega)))|refine sq ?_|refine rg ?_|refine xc ?_|refine nl ?_|refine sk ?_|refine bk ?_|refine xe ?_|refine rt ?_|refine xb ?_|refine rq ?_|refine nq ?_|(refine wq ?_;first|(refine qao ?_;first|refine qa ?_)|refine qlu ?_|refine qa ?_|refine qixmn ?_)
  ·refine r1 ⟨?_,rfl⟩
   rw [decide_eq_false];intro e;exact hB (by rw [e])
  ·refine lp (k + 1) ⟨by omega,fun j hj=>?_⟩
   by_cases hjk:j < k
   ·exact heq j hjk
   ·obtain rfl:j = k:=by omega
    omega
  ·refine r1 ⟨?_,rfl⟩
   rw [decide_eq_true]
   exact eq_of_getDN (by omega) (fun j hj=>heq j (by omega))
theorem SameWhole_tr (b1 b2:Bool) (o1 o2:Value) (l1 l2:List Nat):Tr Tryz.prog 65 [.agg #[.bool b1,o1],.agg #[.bool b2,o2]] [vw o1 (Us l1),vw o2 (Us l2)] [] fun v D=>v = .bool (decide (b1 = b2∧l1 = l2))∧D = []:=by
 refine Tr.enter env _ Tryz.func65 (by kernel_rfl) rfl Tryz.ntmps65 rfl (by repeat (first | exact has00 | refine has01 ?_)) fun w0=>?_
 repeat' first|(refine gca ?_;first|(refine ca (SameNat_tr o1 o2 l1 l2) ?_;rintro _ _ ⟨rfl,rfl⟩))|refine bx fun q=>?_|(refine wo ?_;first|(refine ao ?_;first|refine ibe ?_)|refine oa ?_|refine ld ?_|refine gy ?_|refine gn ?_|(refine gsi (fun hB=>?_) (fun hB=>?_) <;> try (exfalso;omega)))|refine sq ?_|refine rg ?_|refine xc ?_|refine nl ?_|refine rt ?_
 ·have e:b1 = b2:=by simpa using hB
  refine r1 ⟨?_,rfl⟩
  congr 1;exact decide_eq_decide.2 ⟨fun h=>⟨e,h⟩,fun h=>h.2⟩
 ·have e:¬ b1 = b2:=by simpa using hB
  refine r1 ⟨?_,rfl⟩
  rw [decide_eq_false fun h=>e h.1]
theorem SameRatio_tr (t1 t2:Fr3) (n1 d1 n2 d2:Value):Tr Tryz.prog 22 [.agg #[.bool t1.1,n1,d1],.agg #[.bool t2.1,n2,d2]] [vw n1 (Us t1.2.1),vw d1 (Us t1.2.2),vw n2 (Us t2.2.1),vw d2 (Us t2.2.2)] []
  fun v D=>v = .bool (decide (t1 = t2))∧D = []:=by
 obtain ⟨b1,x1,y1⟩:=t1
 obtain ⟨b2,x2,y2⟩:=t2
 dsimp only
 refine Tr.enter env _ Tryz.func22 (by kernel_rfl) rfl Tryz.ntmps22 rfl (by repeat (first | exact has00 | refine has01 ?_)) fun w0=>?_
 repeat' first|(refine gca ?_;first|(refine ca (SameWhole_tr b1 b2 n1 n2 x1 x2) ?_;rintro _ _ ⟨rfl,rfl⟩)|(refine ca (SameNat_tr d1 d2 y1 y2) ?_;rintro _ _ ⟨rfl,rfl⟩))|refine bx fun q=>?_|refine lda ?_|(refine wo ?_;first|refine oa ?_|refine ld ?_|refine gy ?_|refine gn ?_|(refine gsi (fun hB=>?_) (fun hB=>?_) <;> try (exfalso;omega)))|refine sq ?_|refine rg ?_|refine xc ?_|refine nl ?_|refine rt ?_
 ·refine r1 ⟨?_,rfl⟩
  congr 1;refine decide_eq_decide.2 ⟨fun h=>by rw [hB.1,hB.2,h],fun h=>by injection h with _ h;injection h⟩
 ·refine r1 ⟨?_,rfl⟩
  rw [decide_eq_false fun h=>hB (by injection h with h1 h;injection h with h2 _;exact ⟨h1,h2⟩)]
end Go.Art
namespace Go.Art
open Go Go.Proofs Go.RowKit
attribute [local irreducible] Fit pt own ro vw mpc lpt vels rels mow lrc dfr
attribute [local irreducible] lmp lme mit velg relg
end Go.Art
namespace Go.Art
open Go Go.Proofs Go.RowKit
def over (n:Int):BitVec 64:=c64 18446744073709551615 % c64 n
attribute [local irreducible] Fit pt own ro vw mpc lpt vels rels mow lrc dfr
end Go.Art
namespace Go.Art
open Go Go.Proofs Go.RowKit
def ins (x:Int) (l:List Int) (k:Nat):List Int:=l.take k ++ x :: l.drop k
attribute [local irreducible] Fit pt own ro vw mpc lpt vels rels mow lrc dfr
attribute [local irreducible] lmp lme mit velg relg
structure RoG where
 i:Nat
 l:List Int
 st:BitVec 64
structure RiG where
 i:Nat
 o:Value
 ds:List Int
end Go.Art
namespace Go.Art
open Go Go.Proofs Go.RowKit
abbrev w0u:Value:=.int .u64 0
structure RwG where
 i:Nat
 l:List Int
 outs:List Int
 sv:Value
 x:Lw
attribute [local irreducible] Fit pt own ro vw mpc lpt vels rels mow lrc dfr
attribute [local irreducible] lmp lme mit velg relg
end Go.Art
namespace Go.Art
open Go Go.Proofs Go.RowKit
def colBad (tot:Int) (cut oth:List Int) (i:Nat):Prop:=cut.getD i 0 < 0∨tot < cut.getD i 0∨oth.getD i 0 < 0∨(cut.length:Int) ≤ oth.getD i 0
def alFst (tot:Int) (cut oth:List Int):Prop:=(1 ≤ tot∧tot ≤ 1099511627776)∧(1 ≤ cut.length∧cut.length ≤ 65536)∧oth.length = cut.length
attribute [local irreducible] Fit pt own ro vw mpc lpt vels rels mow lrc dfr
attribute [local irreducible] lmp lme mit velg relg
end Go.Art
namespace Go.Art
open Go Go.Proofs Go.RowKit
def rloH (sv:Value) (x:Lw) (used:Int):List Value:=
 match x with
 | .inl st=>[nS,.bool true,U st,I used,.bool false]
 | .inr (_,br)=>[sv,.bool false,w0u,I used,.bool br]
section
variable {P:Program} {E:Env P} {n:Sh} {X:Cx} {s:List K} {fr:Fr} {A:List Ch} {ops:Array Oper} {rest:List Oper} {d:Nat} {ty t:TypeId} {pos:String} {after:Array Edge} {x:Operand} {dt:TypeDesc} {sz by_:Nat} {z:Value} {cs vs:List Value} {b j:Nat} {T:TypeId}
theorem qlda (k:TQ E n X s ops rest ((d,.agg vs.toArray) :: fr) A) (hx:ev fr x = some (.pointer (some ⟨b,j,none⟩)):=by rfl) (hm:pt b cs T ∈ A:=by exact memA) (ht:lk E.und t = some dt:=by rfl) (hg:aggB dt = true:=by rfl) (hi:lk E.inf t = some (z,sz,by_):=by rfl)
  (hv:(cs.drop j).take sz = vs:=by rfl) (hl:vs.length = sz:=by rfl) (hd:Nat.blt d n.n = true:=by rfl):TQ E n X s ops (⟨some d,.load t x,ty,pos,after,none⟩ :: rest) fr A:=TQ.val (fun _ h=>R_loadA ht hg hi hx (h.h (pt b cs T) hm) hv hl) k hd
end
attribute [local irreducible] Fit pt own ro vw mpc lpt vels rels mow lrc dfr
attribute [local irreducible] lmp lme mit velg relg
end Go.Art
namespace Go.Art
open Go Go.Proofs Go.RowKit
def madeT (tbl:List Int) (k:Nat):List Int:=(tbl.take k).map fun x=>pick x 6
section
variable {P:Program} {E:Env P} {X:Cx} {fr:Fr} {A D G:List Ch} {n:Sh}
end
attribute [local irreducible] Fit pt own ro vw mpc lpt vels rels mow lrc dfr
attribute [local irreducible] lmp lme mit velg relg bnd owl madeT
section
variable {P:Program} {E:Env P} {n:Sh} {X:Cx} {s:List K} {fr:Fr} {A:List Ch} {ops:Array Oper} {rest:List Oper} {d:Nat} {ty tx asr:TypeId} {pos:String} {after:Array Edge} {v:Value} {x:Operand} {dd:TypeDesc}
end
end Go.Art
namespace Go.Art
open Go Go.Proofs Go.RowKit
attribute [local irreducible] Fit pt own ro vw mpc lpt vels rels mow lrc dfr
attribute [local irreducible] lmp lme mit velg relg bnd owl dfrl
end Go.Art
namespace Go.Art
open Go Go.Proofs Go.RowKit
theorem Tr.pre {P:Program} {f:FuncId} {args:List Value} {pre pre' A:List Ch} {R:Value→List Ch→Prop} (h:Tr P f args pre A R) (hp:∀ c ∈ pre,Has pre' c) (hl:∀ c ∈ pre',∀ b,¬ c.wr b∧¬ c.rd b):Tr P f args pre' A R:=
 ⟨fun w hw=>h.run w (lend (hw.perm List.perm_append_comm) hp),hl⟩
theorem FAdd2_tr (q r:Rat) (lv v1 v2 v3 v4:Value) (hq:FB q 8589934592) (hr:FB r 8589934592) :
  Tr Tryz.prog 32 [lv] [vwf lv 2 (rrow q (v1,v2) ++ rrow r (v3,v4)),vw v1 (Us (dg q.num.natAbs)),vw v2 (Us (dg q.den)),vw v3 (Us (dg r.num.natAbs)),vw v4 (Us (dg r.den))] [] (FQ2 (q + r) 0):=by
 have h:=FAdd_tr lv [q,r] [(v1,v2),(v3,v4)] rfl (fun i hi=>by
  match i,hi with
  | 0,_=>exact hq
  | 1,_=>exact hr) (fun i hi=>by
  match i,hi with
  | 0,_=>exact ⟨by rw [show (([q,r].take 0).foldl (· + ·) (0:Rat)).num.natAbs = 0 from rfl,dg_zero];exact Nat.zero_le _,by rw [show (([q,r].take 0).foldl (· + ·) (0:Rat)).den = 1 from rfl];exact Nat.le_trans (dg_len1 (by decide)) (by decide)⟩
  | 1,_=>
   show FB (0 + q) _
   rw [Rat.zero_add];exact hq)
 rw [show [q,r].foldl (· + ·) (0:Rat) = q + r by show 0 + q + r = q + r;rw [Rat.zero_add]] at h
 refine h.pre ?_ (by repeat (first | exact has00 | refine has01 ?_))
 refine has1 (has_vwf (List.Mem.head _)) (has1 (has_vfr_cons (has_vw (by simp)) (has_vw (by simp)) (has_vfr_cons (has_vw (by simp)) (has_vw (by simp)) has_vfr_nil)) has0)
structure WhG where
 i:Nat
 vn:Value
 vd:Value
attribute [local irreducible] Fit pt own ro vw mpc lpt vels rels mow lrc dfr
attribute [local irreducible] lmp lme mit velg relg bnd owl madeT
end Go.Art
namespace Go.Art
open Go Go.Proofs Go.RowKit
theorem Im.tail (c:Ch) (A:List Ch):Im (c :: A) A:=Im.trans (Im.perm (List.perm_append_comm (l₁:=[c]) (l₂:=A))) (Im.drop A [c])
theorem flat_set {sz:Nat}:∀ {rs:List (List Value)} {i:Nat} {r:List Value},(∀ r ∈ rs,r.length = sz)→i < rs.length→rs.flatten.take (sz * i) ++ r ++ rs.flatten.drop (sz * i + sz) = (rs.set i r).flatten
 | [],i,_,_,h=>absurd h (Nat.not_lt_zero _)
 | a :: rs,0,r,hl,_=>by
  have:=hl a (by simp)
  rw [List.flatten_cons,Nat.mul_zero,Nat.zero_add,List.take_zero,List.nil_append,List.drop_left' this,List.set_cons_zero,List.flatten_cons]
 | a :: rs,i + 1,r,hl,h=>by
  have ha:=hl a (by simp)
  have ih:=flat_set (rs:=rs) (i:=i) (r:=r) (fun r hr=>hl r (by simp [hr])) (by simpa using h)
  rw [List.set_cons_succ,List.flatten_cons,List.flatten_cons,← ih,show sz * (i + 1) = a.length + sz * i by rw [ha,Nat.mul_succ];omega,Nat.add_assoc,List.take_length_add_append,List.drop_length_add_append]
  simp [List.append_assoc]
theorem rows_len {qs:List Rat} {hs:List (Value × Value)}:∀ r ∈ List.zipWith rrow qs hs,r.length = 3:=fun r hr=>by
 obtain ⟨j,hj,rfl⟩:=List.mem_iff_getElem.1 hr
 rw [List.getElem_zipWith];rfl
theorem zip_set {qs:List Rat} {hs:List (Value × Value)} {q:Rat} {h:Value × Value}:∀ {i:Nat},(List.zipWith rrow qs hs).set i (rrow q h) = List.zipWith rrow (qs.set i q) (hs.set i h):=by
 induction qs generalizing hs with
 | nil=>intro i;simp
 | cons a r ih=>
  intro i
  cases hs with
  | nil=>simp
  | cons b s=>
   cases i with
   | zero=>simp
   | succ i=>simp [ih]
theorem rcs_set {qs:List Rat} {hs:List (Value × Value)} (hl:hs.length = qs.length) {i:Nat} (hi:i < qs.length) (q:Rat) (h:Value × Value):(rcs qs hs).take (3 * i) ++ rrow q h ++ (rcs qs hs).drop (3 * i + 3) = rcs (qs.set i q) (hs.set i h):=by
 unfold rcs
 rw [flat_set rows_len (by simp;omega),zip_set]
theorem rcs_len {qs:List Rat} {hs:List (Value × Value)} (hl:hs.length = qs.length):(rcs qs hs).length = qs.length * 3:=by
 induction qs generalizing hs with
 | nil=>simp [rcs]
 | cons q r ih=>
  cases hs with
  | nil=>simp at hl
  | cons h s=>
   have:=ih (hs:=s) (by simpa using hl)
   unfold rcs at *
   simp only [List.zipWith_cons_cons,List.flatten_cons,List.length_append,this,List.length_cons,List.length_nil]
   omega
theorem rcs_app {qs rs:List Rat} {hs gs:List (Value × Value)} (hl:hs.length = qs.length):rcs (qs ++ rs) (hs ++ gs) = rcs qs hs ++ rcs rs gs:=by
 unfold rcs
 rw [List.zipWith_append hl.symm,List.flatten_append]
theorem rcs_one (q:Rat) (h:Value × Value):rcs [q] [h] = rrow q h:=by simp [rcs]
theorem hp_len {hs:List (Value × Value)} {qs:List Rat} (hl:hs.length = qs.length):(hpc hs).length = (pcl qs).length:=by rw [hpc_len,pcl_len,hl]
theorem ofr_snoc {hs:List (Value × Value)} {qs:List Rat} (hl:hs.length = qs.length) (q:Rat) (v1 v2:Value) {A F:List Ch} (hf:Fit A [own T64 v1 (Us (dg q.num.natAbs)),own T64 v2 (Us (dg q.den)),ofr hs qs] F):Im A (ofr (hs ++ [(v1,v2)]) (qs ++ [q]) :: F):=by
 refine Im.trans hf ?_
 show Im (own T64 v1 (Us (dg q.num.natAbs)) :: own T64 v2 (Us (dg q.den)) :: owl T64 wU (hpc hs) (pcl qs) :: F) (owl T64 wU (hpc (hs ++ [(v1,v2)])) (pcl (qs ++ [q])) :: F)
 have h0:=hp_len hl
 rw [hpc_app,pcl_app,Us_eq,Us_eq]
 refine (Im.perm (List.Perm.swap _ _ _)).trans ((Im.cons _ (owl_snoc h0 v1 (Zs (dg q.num.natAbs)) F)).trans ?_)
 have:=owl_snoc (e:=T64) (g:=wU) (hs:=hpc hs ++ [v1]) (ls:=pcl qs ++ [Zs (dg q.num.natAbs)]) (by simp [h0]) v2 (Zs (dg q.den)) F
 rw [List.append_assoc,List.append_assoc] at this
 exact this
theorem has_ofr {F:List Ch} {hs:List (Value × Value)} {qs:List Rat} (hl:hs.length = qs.length) (h:ofr hs qs ∈ F):Has F (vfr hs qs):=has_owl (hp_len hl) h
def zrs (m:Nat):List Value:=(List.replicate m [Value.bool false,nS,nS]).flatten
theorem zrs_eq (m:Nat):(List.replicate m (Value.agg #[Value.bool false,Value.slice none 0 0,Value.slice none 0 0]).cells.toList).flatten = zrs m:=rfl
theorem zrs_zero:zrs 0 = []:=rfl
theorem zrs_step (m:Nat):(zrs (m + 1)).drop 3 = zrs m:=by unfold zrs;rw [List.replicate_succ,List.flatten_cons];exact List.drop_left' rfl
theorem rcs_fill {qs:List Rat} {hs:List (Value × Value)} (hl:hs.length = qs.length) (m:Nat) (q:Rat) (h:Value × Value):(rcs qs hs ++ zrs (m + 1)).take (3 * qs.length) ++ rrow q h ++ (rcs qs hs ++ zrs (m + 1)).drop (3 * qs.length + 3) = rcs (qs ++ [q]) (hs ++ [h]) ++ zrs m:=by
 have hL:(rcs qs hs).length = 3 * qs.length:=by rw [rcs_len hl];omega
 rw [List.take_left' hL,← hL,List.drop_length_add_append,zrs_step,rcs_app hl,rcs_one]
section
variable {P:Program} {E:Env P} {n:Sh} {X:Cx} {s:List K} {fr:Fr} {A A':List Ch} {ops:Array Oper} {rest:List Oper} {d m N sz by_:Nat} {ty t t' el:TypeId} {pos:String} {after:Array Edge} {v u z:Value} {x y:Operand} {xs vs:List Value} {dt:TypeDesc} {k1 k':IntKind} {w:World}
theorem qixws {i:Int} (k:TQ E n X s ops rest ((d,.pointer (some (adr v (sz * i.toNat)))) :: fr) A) (hx:ev fr x = some v:=by rfl) (hy:ev fr y = some (.int k1 i):=by rfl) (hm:Has A (vwf v N xs):=by exact hasA) (hb:0 ≤ i∧i < N:=by omega)
  (ht:lk E.und t = some (.slice el):=by rfl) (he:lk E.inf el = some (z,sz,by_):=by rfl) (hd:Nat.blt d n.n = true:=by rfl):TQ E n X s ops (⟨some d,.indexAddr t x y,ty,pos,after,none⟩ :: rest) fr A:=TQ.val (fun w h=>R_idxW ht he hx hy (hm.P w h) hb) k hd
theorem qldaw (hv:(xs.drop m).take sz = vs) (k:TQ E n X s ops rest ((d,.agg vs.toArray) :: fr) A) (hx:ev fr x = some (.pointer (some (adr v m))):=by rfl) (hm:Has A (vwf v N xs):=by exact hasA) (ht:lk E.und t = some dt:=by rfl) (hg:aggB dt = true:=by rfl) (hi:lk E.inf t = some (z,sz,by_):=by rfl) (hl:vs.length = sz:=by rfl) (hd:Nat.blt d n.n = true:=by rfl) :
  TQ E n X s ops (⟨some d,.load t x,ty,pos,after,none⟩ :: rest) fr A:=TQ.val (fun w h=>R_loadW ht hg hi hx (hm.P w h) hv hl) k hd
end
end Go.Art
namespace Go.Art
open Go Go.RowKit
def noDef (ops:Array Oper):Bool:=ops.all fun o=>match o.op with
 | .defer _=>false
 | _=>true
theorem noDef_spec {ops:Array Oper} (h:noDef ops = true) {j:Nat} {oj:Oper} (hj:ops[j]? = some oj):∀ c,oj.op ≠ .defer c:=fun c e=>by
 have:=(Array.all_eq_true.1 h) j (by
  rcases Nat.lt_or_ge j ops.size with h1 | h1
  ·exact h1
  ·rw [Array.getElem?_eq_none h1] at hj;cases hj)
 have h2:ops[j]'(by
  rcases Nat.lt_or_ge j ops.size with h1 | h1
  ·exact h1
  ·rw [Array.getElem?_eq_none h1] at hj;cases hj) = oj:=by
  have h3:=(Array.getElem?_eq_some_iff.1 hj).2
  exact h3
 rw [h2] at this
 simp only [e] at this
 cases this
section
variable {F:Fence} {m:Nat} {P:Program} {md:Region.Mode} {ops:Array Oper} {Q:Exit→Act→World→Prop} {S:World→Prop}
theorem upon_move {o:Oper} {a b:Act} {K K':Act→World→Prop} {r:Result Next} (h1:∀ u w,K (b.put o.dst u) w→K' (a.put o.dst u) w) (h2:∀ d w,K (({ b with defers:=d :: b.defers }:Act).put o.dst undef) w→K' (({ a with defers:=d :: a.defers }:Act).put o.dst undef) w)
  (h3:∀ c w,Q (.panic c) b w→Q (.panic c) a w) (h:o.uponIn F m P b K Q r):o.uponIn F m P a K' Q r:=by
 cases r with
 | ok x w'=>
  cases x with
  | value u=>exact h1 _ _ h
  | skip=>exact h1 _ _ h
  | defer d=>exact h2 _ _ h
  | enter f args=>exact ⟨h.1,CallsIn.mono h.2 fun e w'' he=>match e,he with
   | .returned u,he=>h1 _ _ he
   | .panicked c,he=>h3 _ _ he
   | .outgrown,he=>he⟩
  | row row args=>exact ⟨h.1,RowsIn.mono h.2 fun u w'' he=>h1 _ _ he⟩
  | round l f tmps assign body=>exact ⟨h.1,RoundIn.mono h.2 fun e w'' he=>match e,he with
   | .returned u,he=>h1 _ _ he
   | .panicked c,he=>h3 _ _ he
   | .outgrown,he=>he⟩
  | _=>exact h
 | halt x w'=>
  cases x with
  | panic v=>exact h3 _ _ h
  | _=>exact h
theorem upon_own {o:Oper} {a:Act} {K:Act→World→Prop} {r:Result Next} (h:o.uponIn F m P a K Q r):o.uponIn F m P a (fun a' w'=>(∃ u df,a' = ({ a with defers:=df }:Act).put o.dst u)∧K a' w') Q r:=
 upon_move (fun u w h=>⟨⟨u,a.defers,rfl⟩,h⟩) (fun d w h=>⟨⟨undef,d :: a.defers,rfl⟩,h⟩) (fun _ _ h=>h) h
theorem op_ownR {j:Nat} {oj:Oper} {K:Act→World→Prop} {a:Act} {w:World} (hj:ops[j]? = some oj) (h:wpOpIn F m P ops Q j K a w) :
  wpOpIn F m P ops Q j (fun a' w'=>(∃ u df,a' = ({ a with defers:=df }:Act).put oj.dst u)∧K a' w') a w:=by
 unfold wpOpIn at *
 simp only [hj] at *
 split
 ·rename_i hw
  rw [if_pos hw] at h
  exact ⟨h.1,upon_own h.2⟩
 ·rename_i hw
  rw [if_neg hw] at h
  exact ⟨h.1,⟨_,a.defers,rfl⟩,h.2⟩
theorem op_putR {j d:Nat} {oi oj:Oper} {v:Value} {K:Act→World→Prop} {a:Act} {w:World} (hnd:∀ c,oj.op ≠ .defer c) (hj:ops[j]? = some oj) (hdi:oi.dst = some d) (hap:oi.apart ops oj = true) (hsj:∀ cs b,oj.op ≠ .select cs b) (hQ:∀ c a w,¬ Q (.panic c) a w)
  (h:wpOpIn F m P ops Q j K (a.put oi.dst v) w):wpOpIn F m P ops Q j (fun a' w'=>K (a'.put oi.dst v) w') a w:=by
 obtain ⟨p1,p2,p3⟩:=Oper.apart_spec hap
 unfold wpOpIn at *
 simp only [hj] at *
 rw [wanted_put oj a oi.dst v p1,about_put oj w a oi.dst v p1] at h
 split
 ·rename_i hw
  rw [if_pos hw] at h
  have h1:=h.1
  have h2:=h.2
  rw [Oper.semAt_eq _ _ _ hnd,execOp_put oj hsj a oi.dst v p1] at h2
  rw [about_put oj w a oi.dst v p1] at h1
  refine ⟨h1,?_⟩
  rw [Oper.semAt_eq _ _ _ hnd]
  refine upon_move (fun u w hk=>?_) (fun dd w hk=>?_) (fun c w hk=>absurd hk (hQ c _ w)) h2
  ·rw [← Act.put_comm a v u p2];exact hk
  ·rw [← Act.put_comm _ v undef p2,← Act.put_defers];exact hk
 ·rename_i hw
  rw [if_neg hw] at h
  refine ⟨h.1,?_⟩
  rw [← Act.put_comm a v undef p2];exact h.2
theorem wpAnyS_takeR {i d:Nat} {o:Op} {ty:TypeId} {pos:String} {after:Array Edge} {v:Value} (hnd:noDef ops = true) (hi:ops[i]? = some ⟨some d,o,ty,pos,after,none⟩) (hs:Region.noSelect ops = true) (hQ:∀ c a w,¬ Q (.panic c) a w) :
  ∀ (fuel:Nat) (listed:Array Bool) (a:Act) (w:World),Region.free md ops listed i = true→(Region.ready md ops listed).contains i = true→YS P S ⟨some d,o,ty,pos,after,none⟩ v a→S w →
   wpAnyS F m P md ops Q S fuel (listed.setIfInBounds i true) (a.put (some d) v) w→wpAnyS F m P md ops Q S (fuel + 1) listed a w:=by
 have hsel:=fun j oj cs b (h:ops[j]? = some oj)=>Region.noSelect_spec hs j oj cs b h
 have now:∀ (K:Act→World→Prop) (a:Act) (w:World),YS P S ⟨some d,o,ty,pos,after,none⟩ v a→S w→K (a.put (some d) v) w→wpOpIn F m P ops Q i K a w:=fun K a w hy hS h=>by
  unfold wpOpIn
  have hn:∀ c,(⟨some d,o,ty,pos,after,none⟩ : Oper).op ≠ .defer c:=noDef_spec hnd hi
  simp only [hi,Region.wanted,if_true,Oper.wpIn]
  rw [Oper.semAt_eq _ _ _ hn,(hy w hS).1]
  exact ⟨fun f hf=>(by rw [(hy w hS).2] at hf;cases hf),h⟩
 have gen:∀ (fuel:Nat) (listed:Array Bool) (a:Act) (w:World),(∀ j oj,ops[j]? = some oj→j ≠ i→listed.getD j true = false→(∀ e ∈ oj.after,Region.binds md e = true→e.on ≠ i)→Oper.apart ops ⟨some d,o,ty,pos,after,none⟩ oj = true) →
   i ∈ Region.ready md ops listed→YS P S ⟨some d,o,ty,pos,after,none⟩ v a→S w→wpAnyS F m P md ops Q S fuel (listed.setIfInBounds i true) (a.put (some d) v) w→wpAnyS F m P md ops Q S (fuel + 1) listed a w:=by
  intro fuel
  induction fuel with
  | zero=>
   intro listed a w _ hr hy hS H
   refine ⟨fun h=>(by rw [h] at hr;cases hr),fun j hj=>?_⟩
   by_cases hji:j = i
   ·subst hji;exact now _ a w hy hS ⟨hS,H⟩
   ·have:=ready_mono hj hji
    rw [H.1] at this
    cases this
  | succ fuel ih=>
   intro listed a w hfree hr hy hS H
   refine ⟨fun h=>(by rw [h] at hr;cases hr),fun j hj=>?_⟩
   by_cases hji:j = i
   ·subst hji;exact now _ a w hy hS ⟨hS,H⟩
   ·obtain ⟨hjun,oj,hoj,hall⟩:=mem_ready.1 hj
    have hnot:∀ e ∈ oj.after,Region.binds md e = true→e.on ≠ i:=fun e he hb heq=>by
     have h1:=hall e he hb
     have h0:=(mem_ready.1 hr).1
     rw [heq] at h1
     rcases Nat.lt_or_ge i listed.size with h' | h'
     ·simp [h'] at h0 h1;rw [h0] at h1;cases h1
     ·simp [Array.getElem?_eq_none h'] at h1
    have hap:=hfree j oj hoj hji hjun hnot
    obtain ⟨p1,p2,p3⟩:=Oper.apart_spec hap
    have h2:=op_putR (oi:=⟨some d,o,ty,pos,after,none⟩) (noDef_spec hnd hoj) hoj rfl hap (fun cs b=>hsel j oj cs b hoj) hQ (H.2 j (ready_mono hj hji))
    have h3:=op_ownR hoj h2
    refine wpOpIn_mono (fun a' w' h4=>?_) h3
    obtain ⟨⟨u,df,rfl⟩,hS',h5⟩:=h4
    have hy':YS P S ⟨some d,o,ty,pos,after,none⟩ v (({ a with defers:=df }:Act).put oj.dst u):=fun w hw=>by
     rw [execOp_put _ (fun cs b=>hsel i _ cs b hi) ({ a with defers:=df }:Act) oj.dst u p3,about_put _ w ({ a with defers:=df }:Act) oj.dst u p3]
     exact hy w hw
    have hfree':∀ k ok,ops[k]? = some ok→k ≠ i→(listed.setIfInBounds j true).getD k true = false→(∀ e ∈ ok.after,Region.binds md e = true→e.on ≠ i)→Oper.apart ops ⟨some d,o,ty,pos,after,none⟩ ok = true:=fun k ok hk hki hun hno=>by
     refine hfree k ok hk hki ?_ hno
     by_cases hjk:j = k
     ·subst hjk;exact hjun
     ·rw [getD_set_ne true hjk] at hun;exact hun
    refine ⟨hS',ih (listed.setIfInBounds j true) _ w' hfree' (ready_mono hr (Ne.symm hji)) hy' hS' ?_⟩
    rw [Array.setIfInBounds_comm _ _ hji]
    exact h5
 intro fuel listed a w hf hr hy hS H
 exact gen fuel listed a w (Region.free_spec hi hf) (by simpa using hr) hy hS H
end
section
variable {P:Program} {E:Env P} {n:Sh} {X:Cx} {s:List K} {fr:Fr} {A A' B:List Ch} {ops:Array Oper} {d:Nat} {o:Op} {ty:TypeId} {pos:String} {after:Array Edge} {v:Value} {fuel:Nat} {listed:Array Bool} {S:World→Prop}
theorem kr (i:Nat) (hv:∀ w,S w→OpV P n fr o ty w v w) (k:TS E n X s S ops fuel (listed.setIfInBounds i true) ((d,v) :: fr) A) (hi:ops[i]? = some ⟨some d,o,ty,pos,after,none⟩:=by rfl) (hs:Region.noSelect ops = true:=by kernel_rfl) (hf:Region.free .any ops listed i = true:=by kernel_rfl)
  (hr:(Region.ready .any ops listed).contains i = true:=by kernel_rfl) (hnd:noDef ops = true:=by kernel_rfl) (hd:Nat.blt d n.n = true:=by rfl) (hab:∀ w ρ,(⟨some d,o,ty,pos,after,none⟩ : Oper).about P w ρ = none:=by exact fun _ _=>rfl):TS E n X s S ops (fuel + 1) listed fr A:=
 ⟨fun w hw hS a ha=>wpAnyS_takeR hnd hi hs (fun c a w h=>h.1 c rfl) fuel listed a w hf hr (fun w' hw'=>⟨(hv w' hw').run a ha _ _ _ _,hab _ _⟩) hS (k.run w hw hS _ (ha.put hd v))⟩
theorem kra (i:Nat) (k:TS E n X s S ops fuel (listed.setIfInBounds i true) ((d,v) :: fr) A) (hi:ops[i]? = some ⟨some d,o,ty,pos,after,none⟩:=by rfl) (hv:evOp E fr o = some v:=by rfl) (hs:Region.noSelect ops = true:=by kernel_rfl) (hf:Region.free .any ops listed i = true:=by kernel_rfl)
  (hr:(Region.ready .any ops listed).contains i = true:=by kernel_rfl) (hnd:noDef ops = true:=by kernel_rfl) (hd:Nat.blt d n.n = true:=by rfl) (hab:∀ w ρ,(⟨some d,o,ty,pos,after,none⟩ : Oper).about P w ρ = none:=by exact fun _ _=>rfl):TS E n X s S ops (fuel + 1) listed fr A:=
 kr i (fun _ _=>R_auto hv) k hi hs hf hr hnd hd hab
theorem krl (i:Nat) {t:TypeId} {x:Operand} {b j:Nat} {cs:List Value} {T:TypeId} {dt:TypeDesc} (hm:∀ w,S w→w.heap[b]? = some (.cells cs.toArray T (0,0))) (k:TS E n X s S ops fuel (listed.setIfInBounds i true) ((d,v) :: fr) A) (hi:ops[i]? = some ⟨some d,.load t x,ty,pos,after,none⟩:=by rfl) (hx:ev fr x = some (.pointer (some ⟨b,j,none⟩)):=by rfl)
  (hj:cs[j]? = some v:=by rfl) (ht:lk E.und t = some dt:=by rfl) (hg:aggB dt = false:=by rfl) (hs:Region.noSelect ops = true:=by kernel_rfl) (hf:Region.free .any ops listed i = true:=by kernel_rfl)
  (hr:(Region.ready .any ops listed).contains i = true:=by kernel_rfl) (hnd:noDef ops = true:=by kernel_rfl) (hd:Nat.blt d n.n = true:=by rfl):TS E n X s S ops (fuel + 1) listed fr A:=
 kr i (fun w hw=>R_load ht hg hx (blk_cell (hm w hw) (by simpa using hj))) k hi hs hf hr hnd hd
end
end Go.Art
set_option maxRecDepth 4000
namespace Go.Art
open Go Go.Proofs Go.RowKit
attribute [local irreducible] Fit pt own ro vw mpc lpt vels rels mow lrc dfr
def left (G:Int→Option Value) (x:Int):Bool:=(G x).isSome
theorem ones_some {G:Int→Option Value} {x:Int} {v:Value} (h:G x = some v):ones G x = some (one v):=by unfold ones;rw [h];rfl
theorem ones_none {G:Int→Option Value} {x:Int} (h:G x = none):ones G x = none:=by unfold ones;rw [h];rfl
def loneL (many:List Int) (G:Int→Option Value) (ls:List (List Int)) (i:Nat):List Int:=if many.getD i 0 = 1 then (ls.getD i []).filter (left G) else []
set_option maxRecDepth 4000 in
theorem lone_tr (i:Nat) (bm bs bl bq b:Nat) (mv s qv:Value) (many q:List Int) (hs:List Value) (ls:List (List Int)) (G:Int→Option Value) (g:Int→List Int) (hi:i < ls.length) (hm:many.length = ls.length) (hq:q.length + (ls.getD i []).length ≤ 1099511627776) :
  Tr Tryz.prog 194 [I i,ptr bm,ptr bs,ptr bl,ptr bq] [lpt bm [mv] 22,vw mv (Is many),lpt bs [s] 56,vw s hs,vels hs ls,lpt bl [mp b] 160] [pt bq [qv] 207,own 3 qv (Is q),mow 3 b G g none]
  fun v D=>v = .tuple #[]∧∃ qv',D = [pt bq [qv'] 207,own 3 qv' (Is (q ++ loneL many G ls i)),mow 3 b G g none]:=by
 refine Tr.enter env _ Tryz.func194 (by kernel_rfl) rfl Tryz.ntmps194 rfl (by repeat (first | exact has00 | refine has01 ?_)) fun w0=>?_
 refine TC.els (hs:=hs) (ls:=ls) (fun hl=>?_)
 refine TC.one (v:=qv) (xs:=Is q) fun hqv=>?_
 refine TC.fact (mow_one (T:=3) (b:=b) (G:=G) (f:=g) (o:=none) (by simp)) fun hGo=>?_
 unfold loneL
 repeat' first|(refine wo ?_;first|(refine ao ?_;first|refine oa ?_)|refine oa ?_|refine ldl ?_|refine lnm ?_|refine ixmn ?_|refine li ?_|refine lv ?_|refine ixn ?_)|(refine gc ?_;first|(refine cn (fun hB=>?_) (fun hB=>?_) <;> try (exfalso;omega)))|refine sq ?_|refine rg ?_|refine xc ?_|refine nl ?_|refine sk ?_|refine bk ?_|refine rt ?_
 ·rw [if_neg (by assumption)]
  exact r0 ⟨rfl,qv,by rw [List.append_nil]⟩
 rw [if_pos (by assumption)]
 generalize hL:ls.getD i [] = L at *
 refine TC.loop (ι:=Nat × Value) (fun j=>[(20,I j.1)]) (fun j=>[pt bq [j.2] 207,own 3 j.2 (Is (q ++ (L.take j.1).filter (left G)))]) (fun j=>j.1 ≤ L.length∧j.2.oneCell' = true) (fun j=>L.length - j.1) (0,qv) [0,1,2,3,4,18,19] ⟨by simp,hqv⟩ ?_ (hf:=by simp only [List.take_zero,List.filter_nil,List.append_nil];exact fitA)
 rintro ⟨j,qw⟩ ⟨h1,h2⟩
 dsimp only at h1 h2 ⊢
 subst hL
 by_cases hj:j < (ls.getD i []).length
 ·have hts:=take_succ' hj 0
  have hfl:(((ls.getD i []).take j).filter (left G)).length ≤ j:=Nat.le_trans (List.length_filter_le _ _) (List.length_take_le _ _)
  cases hG:G ((ls.getD i []).getD j 0) with
  | none=>
   have hG1:=ones_none hG
   have hf1:((ls.getD i []).take (j + 1)).filter (left G) = ((ls.getD i []).take j).filter (left G):=by rw [hts,List.filter_append,List.filter_cons,if_neg (by rw [left,hG];decide)];simp
   repeat' first|refine moN ?_ hG1|refine al fun bw=>?_|refine sra ?_|(refine wo ?_;first|(refine ao ?_;first|refine aw ?_|refine oa ?_)|refine oa ?_|refine ldl ?_|refine ixmn ?_|refine li ?_)|(refine gc ?_;first|refine cf ?_|(refine ci (fun hB=>?_) (fun hB=>?_) <;> try (exfalso;omega)))|refine sq ?_|refine rg ?_|refine xc ?_|refine nl ?_|refine sk ?_|refine bk ?_|refine xb ?_
   refine lp (j + 1,qw) ⟨by dsimp only;omega,h2⟩ (hf:=by dsimp only;rw [hf1];exact fitA)
  | some v=>
   have hG1:=ones_some hG
   have hvo:=hGo _ _ nofun hG
   have hf1:q ++ ((ls.getD i []).take (j + 1)).filter (left G) = (q ++ ((ls.getD i []).take j).filter (left G)) ++ [(ls.getD i []).getD j 0]:=by rw [hts,List.filter_append,List.append_assoc];congr 2;rw [List.filter_cons,if_pos (by rw [left,hG];rfl)];rfl
   repeat' first|refine moS ?_ hG1|refine al fun bw=>?_|refine sra ?_|refine slii [(ls.getD i []).getD j 0] fun v1=>?_|(refine wo ?_;first|(refine ao ?_;first|refine oa ?_)|refine oa ?_|refine ld ?_|refine ldl ?_|refine ixmn ?_|refine li ?_)|(refine gc ?_;first|refine ct ?_|(refine ci (fun hB=>?_) (fun hB=>?_) <;> try (exfalso;omega)))|refine sq ?_|refine rg ?_|refine xc ?_|refine nl ?_|refine sk ?_|refine bk ?_
   refine api (v:=qw) (news:=[(ls.getD i []).getD j 0]) fun v2=>?_
   refine TO.one (v:=v2) (xs:=Is ((q ++ ((ls.getD i []).take j).filter (left G)) ++ [(ls.getD i []).getD j 0])) fun hv2=>?_
   repeat' first|(refine wo ?_;first|(refine ao ?_;first|refine aw ?_)|refine oa ?_|refine sr ?_)|refine rg ?_|refine xc ?_|refine nl ?_|refine xb ?_
   refine lp (j + 1,v2) ⟨by dsimp only;omega,hv2⟩ (hf:=by dsimp only;rw [hf1];exact fitA)
 ·obtain rfl:j = (ls.getD i []).length:=by omega
  rw [List.take_length]
  repeat' first|(refine wo ?_;first|(refine ao ?_;first|refine oa ?_))|(refine gc ?_;first|(refine ci (fun hB=>?_) (fun hB=>?_) <;> try (exfalso;omega)))|refine sq ?_|refine rg ?_|refine xc ?_|refine nl ?_|refine xe ?_
  exact e0 ⟨rfl,qw,rfl⟩
end Go.Art
set_option maxRecDepth 4000
namespace Go.Art
open Go Go.Proofs Go.RowKit
attribute [local irreducible] Fit pt own ro vw mpc lpt vels rels mow lrc dfr
theorem next_tr (bq:Nat) (qv:Value) (x:Int) (r:List Int):Tr Tryz.prog 195 [ptr bq] [] [pt bq [qv] 207,own 3 qv (Is (x :: r))] fun v D=>v = I x∧∃ qv',D = [pt bq [qv'] 207,own 3 qv' (Is r)]:=by
 refine Tr.enter env _ Tryz.func195 (by kernel_rfl) rfl Tryz.ntmps195 rfl (by repeat (first | exact has00 | refine has01 ?_)) fun w0=>?_
 refine TC.leni (l:=x :: r) fun hl=>?_
 have h0:0 < (x :: r).length:=by simp
 repeat' first|refine sclm (l:=x :: r) ?_|(refine wo ?_;first|refine oa ?_|refine ld ?_|refine ixmn ?_|refine li ?_)|refine sq ?_|refine rg ?_|refine xc ?_|refine nl ?_
 refine TO.im (Im.trans (Tk.there Tk.here) (Im1.im (im_subi 3 qv (x :: r) (lo:=1) (hi:=(x :: r).length) (by simp) (Nat.le_refl _)) _)) ?_
 refine TO.one (v:=slSub qv 1 (x :: r).length) (xs:=Is (((x :: r).take (x :: r).length).drop 1)) fun hv=>?_
 repeat' first|(refine wo ?_;first|refine oa ?_|refine sr ?_)|refine sq ?_|refine rg ?_|refine xc ?_|refine nl ?_|refine rt ?_
 rw [List.take_length]
 exact r1 ⟨rfl,slSub qv 1 (x :: r).length,rfl⟩
theorem not_mem_take {l:List Int} (h:∀ i j,i < j→j < l.length→l.getD i 0 < l.getD j 0) {m:Nat} (hm:m < l.length):l.getD m 0 ∉ l.take m:=by
 intro hmem
 obtain ⟨j,hj,e⟩:=mem_getD.1 hmem
 have hj':j < m:=by simp at hj;omega
 have h1:=h j m hj' hm
 have h2:(l.take m).getD j 0 = l.getD j 0:=by simp [List.getD_eq_getElem?_getD,List.getElem?_take,hj']
 rw [h2] at e;omega
def idx (ls:List (List Int)) (x:Int) (i:Nat):List Int:=((List.range i).filter fun j=>decide (x ∈ ls.getD j [])).map fun j:Nat=>(j:Int)
theorem idx_succ (ls:List (List Int)) (x:Int) (i:Nat):idx ls x (i + 1) = idx ls x i ++ if x ∈ ls.getD i [] then [(i:Int)] else []:=by
 unfold idx
 rw [List.range_succ,List.filter_append,List.map_append]
 congr 1
 by_cases h:x ∈ ls.getD i []
 ·rw [if_pos h,List.filter_cons,if_pos (by simpa using h)];rfl
 ·rw [if_neg h,List.filter_cons,if_neg (by simpa using h)];rfl
theorem mem_idx {ls:List (List Int)} {x y:Int} {n:Nat}:y ∈ idx ls x n ↔ ∃ j:Nat,y = j∧j < n∧x ∈ ls.getD j []:=by
 unfold idx
 simp only [List.mem_map,List.mem_filter,List.mem_range,decide_eq_true_eq]
 constructor
 ·rintro ⟨j,⟨h1,h2⟩,rfl⟩;exact ⟨j,rfl,h1,h2⟩
 ·rintro ⟨j,rfl,h1,h2⟩;exact ⟨j,⟨h1,h2⟩,rfl⟩
theorem idx_len (ls:List (List Int)) (x:Int) (n:Nat):(idx ls x n).length ≤ n:=by
 unfold idx;rw [List.length_map];exact Nat.le_trans (List.length_filter_le _ _) (by simp)
theorem idx_nodup (ls:List (List Int)) (x:Int) (n:Nat):(idx ls x n).Nodup:=by
 unfold idx
 rw [List.nodup_iff_pairwise_ne,List.pairwise_map]
 exact ((List.pairwise_lt_range (n:=n)).sublist List.filter_sublist).imp fun h e=>by omega
structure UInv (k:Int) (ls:List (List Int)) (G:Int→Option Value) (g:Int→List Int) (many q:List Int):Prop where
 dom:∀ x,left G x = true→0 ≤ x∧x < k
 sets:∀ x,left G x = true→g x = idx ls x ls.length
 gone:∀ x,0 ≤ x→x < k→left G x = false→Kn ls x
 len:many.length = ls.length
 que:∀ x ∈ q,0 ≤ x∧x < k∧Kn ls x
 size:q.length + cnt (left G) (belowI k) * (ls.length + 1) ≤ (k.toNat + 1) * (ls.length + 1)
def Fine1 (ls:List (List Int)) (G:Int→Option Value) (many q:List Int) (i:Nat):Prop:=
 many.getD i 0 = cnt (left G) (ls.getD i [])∧(cnt (left G) (ls.getD i []) = 1→∀ x ∈ ls.getD i [],left G x = true→x ∈ q)
theorem getD_mem {ls:List (List Int)} {i:Nat} (h:i < ls.length):ls.getD i [] ∈ ls:=by rw [List.getD_eq_getElem?_getD,List.getElem?_eq_getElem h];exact List.getElem_mem h
theorem UInv.end {k:Int} {ls:List (List Int)} {G:Int→Option Value} {g:Int→List Int} {many:List Int} (h:UInv k ls G g many []) (hs:∀ l ∈ ls,isSet k l = true) (hf:∀ i,i < ls.length→Fine1 ls G many [] i) (x:Int) (h0:0 ≤ x) (hk:x < k):left G x = true ↔ ¬ Kn ls x:=by
 constructor
 ·intro hl hkn
  have:=hkn.not (p:=left G) (fun l hl=>isSet_nodup (hs l hl)) (fun l hl hc=>by
   obtain ⟨i,hi,rfl⟩:=List.mem_iff_getElem.1 hl
   have h1:=hf i hi
   rw [show ls[i] = ls.getD i [] by simp [List.getD_eq_getElem?_getD,hi]] at hc
   obtain ⟨s,hs1,hs2,_⟩:=cnt_one hc
   have:=h1.2 hc s hs1 hs2
   cases this)
  rw [this] at hl;cases hl
 ·intro hkn
  cases hc:left G x with
  | true=>rfl
  | false=>exact absurd (h.gone x h0 hk hc) hkn
theorem lone_inv {k:Int} {ls:List (List Int)} {G:Int→Option Value} {g:Int→List Int} {many q:List Int} {i B:Nat} (h:UInv k ls G g many q) (hs:∀ l ∈ ls,isSet k l = true) (hi:i < ls.length) (hm:many.getD i 0 = cnt (left G) (ls.getD i []))
  (hB:q.length + cnt (left G) (belowI k) * (ls.length + 1) + B + 1 ≤ (k.toNat + 1) * (ls.length + 1)) :
  UInv k ls G g many (q ++ loneL many G ls i)∧Fine1 ls G many (q ++ loneL many G ls i) i∧(∀ x ∈ q,x ∈ q ++ loneL many G ls i)∧(q ++ loneL many G ls i).length + cnt (left G) (belowI k) * (ls.length + 1) + B ≤ (k.toNat + 1) * (ls.length + 1):=by
 have hln:(loneL many G ls i).length ≤ 1:=by
  unfold loneL
  split
  ·rename_i h1;rw [hm] at h1;have:cnt (left G) (ls.getD i []) = 1:=by omega
   exact Nat.le_of_eq this
  ·simp
 refine ⟨⟨h.dom,h.sets,h.gone,h.len,fun x hx=>?_,by rw [List.length_append];omega⟩,⟨hm,fun hc x hx hl=>?_⟩,fun x hx=>List.mem_append_left _ hx,by rw [List.length_append];omega⟩
 ·rcases List.mem_append.1 hx with hx | hx
  ·exact h.que x hx
  ·unfold loneL at hx
   split at hx
   ·rename_i h1;rw [hm] at h1
    obtain ⟨h2,h3⟩:=List.mem_filter.1 hx
    have hd:=h.dom x h3
    refine ⟨hd.1,hd.2,Kn.of_cnt (getD_mem hi) (by omega) (fun y hy hly=>?_) h2 h3⟩
    have hy':=(isSet_iff.1 (hs _ (getD_mem hi))).2.2 y hy
    exact h.gone y hy'.1 hy'.2 hly
   ·cases hx
 ·refine List.mem_append_right _ ?_
  unfold loneL
  rw [if_pos (by rw [hm,hc];rfl)]
  exact List.mem_filter.2 ⟨hx,hl⟩
theorem left_set (G:Int→Option Value) (x:Int) (v:Value) (hx:left G x = true) (y:Int):left (setK G x (some v)) y = left G y:=by
 unfold left at *
 by_cases e:y = x
 ·rw [e,setK_eq,hx];rfl
 ·rw [setK_ne _ _ e]
theorem left_del (G:Int→Option Value) (x:Int):left (setK G x none) x = false:=by unfold left;rw [setK_eq];rfl
theorem left_del_ne (G:Int→Option Value) {x y:Int} (h:y ≠ x):left (setK G x none) y = left G y:=by unfold left;rw [setK_ne _ _ h]
structure VInv (k:Int) (ls:List (List Int)) (G:Int→Option Value) (g:Int→List Int) (x:Int) (W many q r:List Int) (j:Nat):Prop where
 inv:UInv k ls G g many q
 many:∀ i,i < ls.length→many.getD i 0 = cnt (left G) (ls.getD i []) + (if x ∈ ls.getD i []∧(i:Int) ∉ W.take j then 1 else 0)
 fine:∀ i,i < ls.length→(x ∉ ls.getD i []∨(i:Int) ∈ W.take j)→cnt (left G) (ls.getD i []) = 1→∀ y ∈ ls.getD i [],left G y = true→y ∈ q
 bud:q.length + cnt (left G) (belowI k) * (ls.length + 1) + (W.length - j) + 1 ≤ (k.toNat + 1) * (ls.length + 1)
 qlen:q.length ≤ r.length + j
theorem VInv.start {k:Int} {ls:List (List Int)} {G:Int→Option Value} {g:Int→List Int} {many r:List Int} {x:Int} (h:UInv k ls G g many (x :: r)) (hs:∀ l ∈ ls,isSet k l = true) (hf:∀ i,i < ls.length→Fine1 ls G many (x :: r) i) (hx:left G x = true) :
  VInv k ls (setK G x none) g x (idx ls x ls.length) many r r 0:=by
 have hd:=h.dom x hx
 have hcd:∀ {l:List Int},l.Nodup→cnt (left G) l = cnt (left (setK G x none)) l + if x ∈ l then 1 else 0:=fun hn=>cnt_drop hx (left_del G x) (fun y hy=>left_del_ne G hy) hn
 have hb:=hcd (l:=belowI k) ((belowI_sorted k).imp fun h e=>by omega)
 rw [if_pos (mem_belowI.2 hd)] at hb
 have hsz:=h.size
 rw [hb,Nat.add_mul,Nat.one_mul] at hsz
 simp only [List.length_cons] at hsz
 have hil:=idx_len ls x ls.length
 refine ⟨⟨fun y hy=>?_,fun y hy=>?_,fun y h0 hk hy=>?_,h.len,fun y hy=>h.que y (by simp [hy]),by omega⟩,fun i hi=>?_,fun i hi hor hc y hy hl=>?_,by omega,by omega⟩
 ·by_cases e:y = x
  ·rw [e];exact hd
  ·rw [left_del_ne G e] at hy;exact h.dom y hy
 ·by_cases e:y = x
  ·rw [e,left_del] at hy;cases hy
  ·rw [left_del_ne G e] at hy;exact h.sets y hy
 ·by_cases e:y = x
  ·rw [e];exact (h.que x (by simp)).2.2
  ·rw [left_del_ne G e] at hy;exact h.gone y h0 hk hy
 ·rw [(hf i hi).1,hcd (isSet_nodup (hs _ (getD_mem hi)))]
  by_cases e:x ∈ ls.getD i []
  ·rw [if_pos e,if_pos ⟨e,by simp⟩];rfl
  ·rw [if_neg e,if_neg (fun h=>e h.1)];rfl
 ·have hxn:x ∉ ls.getD i []:=by
   rcases hor with h1 | h1
   ·exact h1
   ·simp at h1
  have hc1:=hcd (isSet_nodup (hs _ (getD_mem hi)))
  rw [if_neg hxn,hc] at hc1
  have hyx:y ≠ x:=fun e=>hxn (e ▸ hy)
  rw [left_del_ne G hyx] at hl
  rcases List.mem_cons.1 ((hf i hi).2 hc1 y hy hl) with e | h2
  ·exact absurd e hyx
  ·exact h2
theorem VInv.step {k:Int} {ls:List (List Int)} {G:Int→Option Value} {g:Int→List Int} {many q r:List Int} {x:Int} {j i:Nat} (h:VInv k ls G g x (idx ls x ls.length) many q r j) (hs:∀ l ∈ ls,isSet k l = true) (hj:j < (idx ls x ls.length).length) (hi:(idx ls x ls.length).getD j 0 = i) :
  i < ls.length∧VInv k ls G g x (idx ls x ls.length) (many.set i (many.getD i 0 - 1)) (q ++ loneL (many.set i (many.getD i 0 - 1)) G ls i) r (j + 1):=by
 generalize hW:idx ls x ls.length = W at *
 have hmem:(i:Int) ∈ W:=mem_getD.2 ⟨j,hj,hi⟩
 obtain ⟨i',e,hil,hxi⟩:=mem_idx.1 (hW ▸ hmem)
 obtain rfl:i = i':=by omega
 have hnd:W.Nodup:=hW ▸ idx_nodup ls x ls.length
 have hnt:(i:Int) ∉ W.take j:=by
  intro hm
  obtain ⟨m,hm1,hm2⟩:=List.mem_iff_getElem.1 hm
  have hmj:m < j:=by simp at hm1;omega
  have hi':W[j] = (i:Int):=by rw [← hi];simp [List.getD_eq_getElem?_getD,hj]
  have hm3:W[m]'(by omega) = W[j]:=by rw [hi',← hm2];simp
  have:=(List.getElem_inj hnd).1 hm3
  omega
 have htk:W.take (j + 1) = W.take j ++ [(i:Int)]:=by rw [take_succ' hj 0,hi]
 have hmi:=h.many i hil
 rw [if_pos ⟨hxi,hnt⟩] at hmi
 have hlt:i < many.length:=by rw [h.inv.len];exact hil
 have hget:∀ m,(many.set i (many.getD i 0 - 1)).getD m 0 = if i = m then many.getD i 0 - 1 else many.getD m 0:=fun m=>getD_set many i m _ hlt
 have hinv:UInv k ls G g (many.set i (many.getD i 0 - 1)) q:=⟨h.inv.dom,h.inv.sets,h.inv.gone,by simp [h.inv.len],h.inv.que,h.inv.size⟩
 obtain ⟨l1,l2,l3,l4⟩:=lone_inv (B:=W.length - (j + 1) + 1) hinv hs hil (by rw [hget,if_pos rfl,hmi];omega) (by have:=h.bud;omega)
 refine ⟨hil,l1,fun m hm=>?_,fun m hm hor hc y hy hl=>?_,by omega,?_⟩
 ·rw [hget,htk]
  by_cases e:i = m
  ·subst e;rw [if_pos rfl,hmi,if_neg (by simp)];omega
  ·rw [if_neg e,h.many m hm]
   congr 1
   have:((m:Int) ∈ W.take j ++ [(i:Int)]) ↔ (m:Int) ∈ W.take j:=by simp;omega
   simp only [this]
 ·by_cases e:i = m
  ·subst e;exact l2.2 hc y hy hl
  ·refine l3 y (h.fine m hm (hor.imp id fun h1=>?_) hc y hy hl)
   rw [htk,List.mem_append] at h1
   rcases h1 with h1 | h1
   ·exact h1
   ·simp at h1;omega
 ·rw [List.length_append]
  have h2:=h.qlen
  have h3:(loneL (many.set i (many.getD i 0 - 1)) G ls i).length ≤ 1:=by
   unfold loneL
   split
   ·rename_i h1;rw [l2.1] at h1
    have:cnt (left G) (ls.getD i []) = 1:=by omega
    exact Nat.le_of_eq this
   ·simp
  omega
theorem VInv.end {k:Int} {ls:List (List Int)} {G:Int→Option Value} {g:Int→List Int} {many q r:List Int} {x:Int} (h:VInv k ls G g x (idx ls x ls.length) many q r (idx ls x ls.length).length):UInv k ls G g many q∧∀ i,i < ls.length→Fine1 ls G many q i:=by
 have hor:∀ i,i < ls.length→(x ∉ ls.getD i []∨(i:Int) ∈ (idx ls x ls.length).take (idx ls x ls.length).length):=fun i hi=>by
  rw [List.take_length]
  by_cases e:x ∈ ls.getD i []
  ·exact .inr (mem_idx.2 ⟨i,rfl,hi,e⟩)
  ·exact .inl e
 refine ⟨h.inv,fun i hi=>⟨?_,h.fine i hi (hor i hi)⟩⟩
 rw [h.many i hi,if_neg]
 ·simp
 ·rintro ⟨h1,h2⟩
  rcases hor i hi with h3 | h3
  ·exact h3 h1
  ·exact h2 h3
end Go.Art
set_option maxRecDepth 4000
namespace Go.Art
open Go Go.Proofs Go.RowKit
attribute [local irreducible] Fit pt own ro vw mpc lpt vels rels mow lrc dfr
structure UG where
 G:Int→Option Value
 many:List Int
 q:List Int
 qv:Value
structure UF where
 i:Nat
 G:Int→Option Value
 g:Int→List Int
 many:List Int
abbrev TQ':TypeId:=207
abbrev TM':TypeId:=160
set_option maxHeartbeats 2000000 in
theorem unknown_tr (k:Int) (s:Value) (hs:List Value) (ls:List (List Int)) (hE:stopE k ls = 0) (hn:ls.length ≤ 4096) :
  Tr Tryz.prog 136 [I k,s] [vw s hs,vels hs ls] [] fun v D=>∃ b G g,v = mp b∧D = [mow 3 b G g none]∧(∀ x,left G x = true ↔ (0 ≤ x∧x < k)∧¬ Kn ls x):=by
 obtain ⟨hk1,hk2,hsets⟩:=stopE_zero hE
 refine Tr.enter env _ Tryz.func136 (by kernel_rfl) rfl Tryz.ntmps136 rfl (by repeat (first | exact has00 | refine has01 ?_)) fun w0=>?_
 refine TC.els (hs:=hs) (ls:=ls) (fun hl=>?_)
 refine TC.one (v:=s) (xs:=hs) fun hsv=>?_
 repeat' first|refine bx1 fun bs=>?_|refine mmo 3 (fun _=>[]) fun b=>?_|refine al fun bl=>?_|(refine wo ?_;first|refine oa ?_|refine sr ?_)|refine sq ?_|refine rg ?_|refine xc ?_|refine nl ?_|refine bk ?_
 refine TC.loop (ι:=Nat × (Int→Option Value)) (fun i=>[(23,I i.1)]) (fun i=>[mow 3 b i.2 (fun _=>[]) none]) (fun i=>(i.1:Int) ≤ k∧∀ x,i.2 x = if 0 ≤ x∧x < i.1 then some nS else none) (fun i=>(k - i.1).toNat) (0,fun _=>none) [3,4,5,22] ⟨by simp;omega,fun x=>by rw [if_neg (by omega)]⟩ ?_
 ·rintro ⟨i,G⟩ ⟨h1,h2⟩
  dsimp only at h1 h2 ⊢
  by_cases hi:(i:Int) < k
  ·repeat' first|(refine wo ?_;first|(refine ao ?_;first|refine oa ?_)|refine oa ?_|refine ld ?_)|(refine gc ?_;first|(refine ci (fun hB=>?_) (fun hB=>?_) <;> try (exfalso;omega)))|refine sq ?_|refine rg ?_|refine xc ?_|refine nl ?_|refine sk ?_|refine bk ?_
   refine TO.im (own_nil 3 _) ?_
   refine mou (v:=nS) (l:=[]) (G:=G) (k:=(i:Int)) ?_ (.inr ⟨rfl,by rw [h2,if_neg (by omega)]⟩)
   rw [show setK (fun _:Int=>([]:List Int)) (i:Int) [] = fun _=>[] from by funext x;unfold setK;split <;> rfl]
   repeat' first|(refine wo ?_;first|(refine ao ?_;first|refine aw ?_)|refine oa ?_)|refine rg ?_|refine xc ?_|refine nl ?_|refine xb ?_
   refine lp (i + 1,setK G i (some nS)) ⟨by dsimp only;omega,fun x=>?_⟩
   dsimp only
   by_cases e:x = i
   ·rw [e,setK_eq,if_pos (by omega)]
   ·rw [setK_ne _ _ e,h2]
    by_cases e2:0 ≤ x∧x < (i:Int)
    ·rw [if_pos e2,if_pos (by omega)]
    ·rw [if_neg e2,if_neg (by omega)]
  ·have hik:(i:Int) = k:=by omega
   rw [hik] at h2
   have hl0:∀ x,left G x = true ↔ 0 ≤ x∧x < k:=fun x=>by
    unfold left;rw [h2]
    by_cases e:0 ≤ x∧x < k
    ·rw [if_pos e];simp [e]
    ·rw [if_neg e];simp [e]
   clear h2
   repeat' first|refine mki fun mv0=>?_|(refine wo ?_;first|(refine ao ?_;first|refine oa ?_)|refine ld ?_|refine ln ?_)|(refine gc ?_;first|(refine ci (fun hB=>?_) (fun hB=>?_) <;> try (exfalso;omega)))|refine sq ?_|refine rg ?_|refine xc ?_|refine nl ?_|refine xe ?_
   refine al fun bm=>?_
   refine TO.one (v:=mv0) (xs:=Is (List.replicate ((hs.length:Nat):Int).toNat 0)) fun hmv=>?_
   repeat' first|(refine wo ?_;first|refine sr ?_)|refine sq ?_|refine rg ?_|refine xc ?_|refine nl ?_
   refine al fun bq=>?_
   repeat' first|(refine wo ?_;first|refine oa ?_|refine ld ?_|refine ln ?_)|refine sq ?_|refine rg ?_|refine xc ?_|refine nl ?_|refine bk ?_
   refine TC.loop (ι:=UF) (fun u=>[(36,I u.i)]) (fun u=>[mow 3 b u.G u.g none,own 3 mv0 (Is u.many)])
    (fun u=>u.i ≤ ls.length∧(∀ x,left u.G x = true ↔ 0 ≤ x∧x < k)∧(∀ x,left u.G x = true→u.g x = idx ls x u.i)∧u.many.length = ls.length∧∀ j,j < u.i→u.many.getD j 0 = (ls.getD j []).length)
    (fun u=>ls.length - u.i) ⟨0,G,fun _=>[],List.replicate ((hs.length:Nat):Int).toNat 0⟩ [0,3,5,7,8,9,34,35] ⟨by simp,hl0,fun x _=>rfl,by simp [hl],fun j h=>by simp at h⟩ ?_
   ·clear hl0 h1 hi hik
    rintro ⟨i,G,g,many⟩ ⟨h1,h2,h3,h4,h5⟩
    dsimp only at h1 h2 h3 h4 h5 ⊢
    by_cases hi:i < ls.length
    ·have hset:=hsets _ (getD_mem hi)
     have hnd:=isSet_nodup hset
     have hin:=(isSet_iff.1 hset).2.2
     have hlk:=isSet_len hset
     repeat' first|(refine wo ?_;first|(refine ao ?_;first|refine oa ?_)|refine oa ?_|refine ld ?_|refine lnm ?_|refine ixmn ?_|refine lv ?_|refine ixn ?_|refine soi ?_)|(refine gc ?_;first|(refine ci (fun hB=>?_) (fun hB=>?_) <;> try (exfalso;omega)))|refine sq ?_|refine rg ?_|refine xc ?_|refine nl ?_|refine sk ?_|refine bk ?_
     generalize hL:ls.getD i [] = L at *
     refine TC.loop (ι:=Nat × (Int→Option Value) × (Int→List Int)) (fun u=>[(48,I u.1)]) (fun u=>[mow 3 b u.2.1 u.2.2 none])
      (fun u=>u.1 ≤ L.length∧(∀ x,left u.2.1 x = true ↔ 0 ≤ x∧x < k)∧∀ x,left u.2.1 x = true→u.2.2 x = idx ls x i ++ if x ∈ L.take u.1 then [(i:Int)] else [])
      (fun u=>L.length - u.1) (0,G,g) [0,3,5,7,8,9,10,34,35,36,46,47] ⟨by simp,h2,fun x hx=>(h3 x hx).trans (by simp)⟩ ?_
     ·clear h2 h3
      rintro ⟨m,G,g⟩ ⟨h6,h2,h3⟩
      dsimp only at h6 h2 h3 ⊢
      subst hL
      by_cases hm:m < (ls.getD i []).length
      ·have hx0:=hin _ (mem_getD.2 ⟨m,hm,rfl⟩)
       have hmt:=not_mem_take (isSet_sorted hset).2 hm
       have hts:=take_succ' hm 0
       generalize hx:(ls.getD i []).getD m 0 = x at *
       have hgx:=h3 x ((h2 x).2 hx0)
       rw [if_neg hmt,List.append_nil] at hgx
       obtain ⟨v,hv⟩ : ∃ v,G x = some v:=Option.isSome_iff_exists.1 ((h2 x).2 hx0)
       repeat' first|refine lie hx ?_|(refine wo ?_;first|(refine ao ?_;first|refine oa ?_)|refine oa ?_|refine ixmn ?_)|(refine gc ?_;first|(refine ci (fun hB=>?_) (fun hB=>?_) <;> try (exfalso;omega)))|refine sq ?_|refine rg ?_|refine xc ?_|refine nl ?_|refine sk ?_|refine bk ?_
       refine TC.im (Im.trans (Tk.here) (mow_out _ b G g hv _)) ?_
       have hgl:=idx_len ls x i
       refine rs (fun w=>w.heap[bl]? = some (.cells #[mp b] TM' (0,0))) ?_ (fun w hw=>pt_at (by simp) hw)
       refine tkl 0 (cs:=[mp b]) (fun w h=>h) ?_
       refine tka 1 ?_
       refine tkl 2 (cs:=[mp b]) (fun w h=>h) ?_
       refine tka 3 ?_
       refine tka 6 ?_
       refine t2 4 7 ?_ ?_
       refine mo ?_ (ones_some hv)
       repeat' first|refine nl ?_
       refine te (fun w hw=>pt_at (by simp) hw) ?_
       refine tk 5 (fun w h=>R_field (E:=env) (cs:=[v]) rfl rfl rfl rfl rfl rfl) ?_
       refine t1 7 ?_
       refine slii [(i:Int)] fun v1=>?_
       repeat' first|refine nl ?_
       refine te (fun w hw=>pt_at (by simp) hw) ?_
       refine t1 8 ?_
       rotate_left
       refine slii [(i:Int)] fun v1=>?_
       repeat' first|refine nl ?_
       refine te (fun w hw=>pt_at (by simp) hw) ?_
       refine t1 4 ?_
       refine mo ?_ (ones_some hv)
       repeat' first|refine nl ?_
       refine te (fun w hw=>pt_at (by simp) hw) ?_
       refine tk 5 (fun w h=>R_field (E:=env) (cs:=[v]) rfl rfl rfl rfl rfl rfl) ?_
       refine t1 8 ?_
       all_goals
        refine api (v:=v) (l:=g x) (news:=[(i:Int)]) (hl:=by rw [hgx];simp only [List.length_cons,List.length_nil];omega) fun v2=>?_
        refine TO.one (v:=v2) (xs:=Is (g x ++ [(i:Int)])) fun hv2=>?_
        repeat' first|refine nl ?_
        refine te (fun w hw=>pt_at (by simp) hw) ?_
        refine tk 9 (fun w h=>R_buildC (E:=env) (vs:=[(0,v2)]) (cs:=[v2]) (by simp [hv2]) rfl rfl rfl rfl rfl) ?_
        refine t1 10 ?_
        refine mou (v:=v2) (l:=g x ++ [(i:Int)]) (G:=G) (k:=x) ?_ (.inl rfl)
        repeat' first|refine nl ?_
        refine te (fun w hw=>pt_at (by simp) hw) ?_
        refine t0 ?_
        repeat' first|(refine wo ?_;first|(refine ao ?_;first|refine aw ?_)|refine oa ?_)|refine rg ?_|refine xc ?_|refine nl ?_|refine xb ?_
        refine lp (m + 1,setK G x (some v2),setK g x (g x ++ [(i:Int)])) ⟨by dsimp only;omega,fun y=>?_,fun y hy=>?_⟩
        ·dsimp only;rw [left_set G x v2 ((h2 x).2 hx0)];exact h2 y
        ·dsimp only at hy ⊢
         rw [left_set G x v2 ((h2 x).2 hx0)] at hy
         rw [hts]
         by_cases e:y = x
         ·rw [e,setK_eq,hgx,if_pos (by simp)]
         ·rw [setK_ne _ _ e,h3 y hy]
          have:(y ∈ (ls.getD i []).take m ++ [x]) ↔ y ∈ (ls.getD i []).take m:=by simp [e]
          simp only [this]
      ·obtain rfl:m = (ls.getD i []).length:=by omega
       rw [List.take_length] at h3
       repeat' first|(refine wo ?_;first|(refine ao ?_;first|refine aw ?_|refine oa ?_)|refine oa ?_)|(refine gc ?_;first|(refine ci (fun hB=>?_) (fun hB=>?_) <;> try (exfalso;omega)))|refine sq ?_|refine rg ?_|refine xc ?_|refine nl ?_|refine xe ?_|refine xb ?_
       refine lp ⟨i + 1,G,g,many.set i (ls.getD i []).length⟩ ⟨by dsimp only;omega,h2,fun y hy=>?_,by simp [h4],fun j hj=>?_⟩
       ·dsimp only;rw [h3 y hy,idx_succ]
       ·dsimp only at hj ⊢
        rw [getD_set _ _ _ _ (by omega)]
        by_cases e:i = j
        ·rw [if_pos e,e]
        ·rw [if_neg e];exact h5 j (by omega)
    ·obtain rfl:i = ls.length:=by omega
     have hcl:∀ j,j < ls.length→cnt (left G) (ls.getD j []) = (ls.getD j []).length:=fun j hj=>by
      unfold cnt
      rw [List.filter_eq_self.2 fun y hy=>(h2 y).2 ((isSet_iff.1 (hsets _ (getD_mem hj))).2.2 y hy)]
     have hU:UInv k ls G g many []:=by
      refine ⟨fun x hx=>(h2 x).1 hx,h3,fun x h0 hk hx=>?_,h4,by simp,?_⟩
      ·rw [(h2 x).2 ⟨h0,hk⟩] at hx;cases hx
      ·have:cnt (left G) (belowI k) ≤ k.toNat:=by unfold cnt;rw [← belowI_len k];exact List.length_filter_le _ _
       have:=Nat.mul_le_mul_right (ls.length + 1) this
       rw [Nat.add_mul];simp only [List.length_nil];omega
     have hsz:(k.toNat + 1) * (ls.length + 1) ≤ 65537 * 4097:=Nat.mul_le_mul (by omega) (by omega)
     have hcm:∀ j,j < ls.length→many.getD j 0 = cnt (left G) (ls.getD j []):=fun j hj=>by rw [h5 j hj,hcl j hj]
     have hc0:cnt (left G) (belowI k) * (ls.length + 1) ≤ k.toNat * (ls.length + 1):=Nat.mul_le_mul_right _ (by unfold cnt;rw [← belowI_len k];exact List.length_filter_le _ _)
     rw [Nat.add_mul,Nat.one_mul] at hsz
     clear hcl h5
     refine TC.im (own_nil 3 _) ?_
     repeat' first|(refine wo ?_;first|(refine ao ?_;first|refine oa ?_)|refine oa ?_|refine ld ?_|refine ln ?_)|(refine gc ?_;first|(refine ci (fun hB=>?_) (fun hB=>?_) <;> try (exfalso;omega)))|refine sq ?_|refine rg ?_|refine xc ?_|refine nl ?_|refine bk ?_|refine xe ?_
     refine TC.loop (ι:=Nat × List Int × Value) (fun u=>[(66,I u.1)]) (fun u=>[pt bq [u.2.2] TQ',own 3 u.2.2 (Is u.2.1)])
      (fun u=>u.1 ≤ ls.length∧UInv k ls G g many u.2.1∧(∀ j,j < u.1→Fine1 ls G many u.2.1 j)∧u.2.1.length + cnt (left G) (belowI k) * (ls.length + 1) + (ls.length - u.1) + 1 ≤ (k.toNat + 1) * (ls.length + 1))
      (fun u=>ls.length - u.1) (0,[],nS) [3,5,7,8,9,65] ⟨by simp,hU,fun j h=>by simp at h,by rw [Nat.add_mul];simp only [List.length_nil];omega⟩ ?_
     clear hU
     rintro ⟨i,q,qv⟩ ⟨h6,hU,hF,hB⟩
     dsimp only at h6 hU hF hB ⊢
     by_cases hi:i < ls.length
     ·have hlk:=isSet_len (hsets _ (getD_mem hi))
      obtain ⟨l1,l2,l3,l4⟩:=lone_inv (B:=ls.length - i) hU hsets hi (hcm i hi) (by omega)
      have hq2:q.length + (ls.getD i []).length ≤ 1099511627776:=by rw [Nat.add_mul,Nat.one_mul] at hB;omega
      repeat' first|(refine cav (vs:=[I i]) (cap:=#[ptr bm,ptr bs,ptr bl,ptr bq]) (lone_tr i bm bs bl bq b mv0 s qv many q hs ls G g hi h4 hq2) ?_;rintro _ _ ⟨rfl,qw,rfl⟩)|(refine wo ?_;first|(refine ao ?_;first|refine aw ?_|refine oa ?_)|refine oa ?_)|(refine gc ?_;first|(refine ci (fun hB=>?_) (fun hB=>?_) <;> try (exfalso;omega)))|refine sq ?_|refine rg ?_|refine xc ?_|refine nl ?_|refine sk ?_|refine bk ?_|refine xb ?_
      refine lp (i + 1,q ++ loneL many G ls i,qw) ⟨by dsimp only;omega,l1,fun j hj=>?_,by dsimp only;omega⟩
      by_cases e:j = i
      ·rw [e];exact l2
      ·have:=hF j (by dsimp only at hj;omega)
       exact ⟨this.1,fun hc y hy hl=>l3 y (this.2 hc y hy hl)⟩
     ·obtain rfl:i = ls.length:=by omega
      clear hB hcm h2 h3 hc0
      repeat' first|(refine wo ?_;first|(refine ao ?_;first|refine oa ?_))|(refine gc ?_;first|(refine ci (fun hB=>?_) (fun hB=>?_) <;> try (exfalso;omega)))|refine sq ?_|refine rg ?_|refine xc ?_|refine nl ?_|refine bk ?_|refine xe ?_
      refine TC.loop (ι:=UG) (fun _=>[]) (fun u=>[mow 3 b u.G g none,own 3 mv0 (Is u.many),pt bq [u.qv] TQ',own 3 u.qv (Is u.q)])
       (fun u=>UInv k ls u.G g u.many u.q∧∀ j,j < ls.length→Fine1 ls u.G u.many u.q j) (fun u=>cnt (left u.G) (belowI k) * (ls.length + 1) + u.q.length) ⟨G,many,q,qv⟩ [3,5,7,8,9] ⟨hU,hF⟩ ?_
      clear hU hF h4 h6 h1
      rintro ⟨G,many,q,qv⟩ ⟨hU,hF⟩
      dsimp only at hU hF ⊢
      cases q with
      | nil=>
       repeat' first|(refine wo ?_;first|(refine ao ?_;first|refine oa ?_)|refine oa ?_|refine ld ?_|refine lnm ?_)|(refine gc ?_;first|refine cf ?_)|refine sq ?_|refine rg ?_|refine xc ?_|refine nl ?_|refine xe ?_|refine rt ?_
       refine r1 ⟨b,G,g,rfl,rfl,fun x=>?_⟩
       constructor
       ·intro hx;have hd:=hU.dom x hx;exact ⟨hd,(hU.end hsets hF x hd.1 hd.2).1 hx⟩
       ·rintro ⟨hd,hx⟩;exact (hU.end hsets hF x hd.1 hd.2).2 hx
      | cons x r=>
       have hlen:0 < (x :: r).length:=by simp
       refine TC.fact (mow_one (T:=3) (b:=b) (G:=G) (f:=g) (o:=none) (by simp)) fun hGo=>?_
       repeat' first|(refine gca ?_;first|(refine ca (next_tr bq qv x r) ?_;rintro _ _ ⟨rfl,qw,rfl⟩))|(refine wo ?_;first|(refine ao ?_;first|refine oa ?_)|refine oa ?_|refine ld ?_|refine lnm ?_)|(refine gc ?_;first|(refine ci (fun hB=>?_) (fun hB=>?_) <;> try (exfalso;omega)))|refine sq ?_|refine rg ?_|refine xc ?_|refine nl ?_|refine sk ?_|refine bk ?_
       cases hG:G x with
       | none=>
        have hlx:left G x = false:=by unfold left;rw [hG];rfl
        have hG1:=ones_none hG
        repeat' first|refine moN ?_ hG1|refine al fun bw=>?_|refine sra ?_|(refine wo ?_;first|refine oa ?_)|(refine gc ?_;first|refine ct ?_)|refine sq ?_|refine rg ?_|refine xc ?_|refine nl ?_|refine xe ?_
        refine lp ⟨G,many,r,qw⟩ ⟨⟨hU.dom,hU.sets,hU.gone,hU.len,fun y hy=>hU.que y (by simp [hy]),?_⟩,fun j hj=>⟨(hF j hj).1,fun hc y hy hly=>?_⟩⟩ (hlt:=by dsimp only;simp only [List.length_cons];omega)
        ·have:=hU.size;dsimp only at this ⊢;simp only [List.length_cons] at this;omega
        ·have h1:=(hF j hj).2 hc y hy hly
         rcases List.mem_cons.1 h1 with rfl | h1
         ·rw [hlx] at hly;cases hly
         ·exact h1
       | some v=>
        have hlx:left G x = true:=by unfold left;rw [hG];rfl
        have hG1:=ones_some hG
        have hvo:=hGo _ _ nofun hG
        have hV:=VInv.start hU hsets hF hlx
        have hgx:=hU.sets x hlx
        repeat' first|refine moS ?_ hG1|refine al fun bw=>?_|refine sra ?_|(refine wo ?_;first|refine oa ?_|refine ld ?_)|(refine gc ?_;first|refine cf ?_)|refine sq ?_|refine rg ?_|refine xc ?_|refine nl ?_|refine sk ?_
        refine TO.im (Im.trans tkA (mow_out _ b G g hG _)) ?_
        refine mod ?_
        rw [hgx]
        repeat' first|(refine wo ?_;first|refine oa ?_|refine ld ?_|refine lnm ?_)|refine sq ?_|refine rg ?_|refine xc ?_|refine nl ?_|refine bk ?_
        refine TC.loop (ι:=Nat × List Int × List Int × Value) (fun u=>[(90,I u.1)]) (fun u=>[own 3 mv0 (Is u.2.1),pt bq [u.2.2.2] TQ',own 3 u.2.2.2 (Is u.2.2.1)])
         (fun u=>u.1 ≤ (idx ls x ls.length).length∧VInv k ls (setK G x none) g x (idx ls x ls.length) u.2.1 u.2.2.1 r u.1) (fun u=>(idx ls x ls.length).length - u.1) (0,many,r,qw) [3,5,7,8,9,88,89] ⟨Nat.zero_le _,hV⟩ ?_
        clear hV
        rintro ⟨j,many,q,qv⟩ ⟨h6,hV⟩
        dsimp only at h6 hV ⊢
        by_cases hj:j < (idx ls x ls.length).length
        ·obtain ⟨i,he,hil,hxi⟩:=mem_idx.1 (mem_getD.2 ⟨j,hj,rfl⟩)
         obtain ⟨-,hV'⟩:=hV.step hsets hj he
         have hlk:=isSet_len (hsets _ (getD_mem hil))
         have hml:=hV.inv.len
         have hwl:=idx_len ls x ls.length
         have hmb:=hV.many i hil
         have hcl:cnt (left (setK G x none)) (ls.getD i []) ≤ (ls.getD i []).length:=List.length_filter_le _ _
         have hmb2:0 ≤ many.getD i 0∧many.getD i 0 ≤ 70000:=by split at hmb <;> omega
         have hq2:q.length + (ls.getD i []).length ≤ 1099511627776:=by have:=hV.bud;rw [Nat.add_mul,Nat.one_mul] at this;omega
         clear hmb hcl
         repeat' first|refine lie he ?_|(refine cav (vs:=[I i]) (cap:=#[ptr bm,ptr bs,ptr bl,ptr bq]) (lone_tr i bm bs bl bq b mv0 s qv (many.set i (many.getD i 0 - 1)) q hs ls (setK G x none) g hil (by simpa using hml) hq2) ?_;rintro _ _ ⟨rfl,qw,rfl⟩)|(refine wo ?_;first|(refine ao ?_;first|refine aw ?_|refine oa ?_)|refine oa ?_|refine ld ?_|refine ixmn ?_|refine li ?_|refine soi ?_)|(refine gc ?_;first|(refine ci (fun hB=>?_) (fun hB=>?_) <;> try (exfalso;omega)))|refine sq ?_|refine rg ?_|refine xc ?_|refine nl ?_|refine sk ?_|refine bk ?_|refine xb ?_
         exact lp (j + 1,_,_,qw) ⟨by dsimp only;omega,hV'⟩
        ·obtain rfl:j = (idx ls x ls.length).length:=by omega
         obtain ⟨e1,e2⟩:=hV.end
         have e3:=hV.qlen
         have e4:=idx_len ls x ls.length
         have e5:=cnt_drop hlx (left_del G x) (fun y hy=>left_del_ne G hy) (l:=belowI k) ((belowI_sorted k).imp fun h e=>by omega)
         rw [if_pos (mem_belowI.2 (hU.dom x hlx))] at e5
         clear hV
         repeat' first|(refine wo ?_;first|(refine ao ?_;first|refine oa ?_))|(refine gc ?_;first|(refine ci (fun hB=>?_) (fun hB=>?_) <;> try (exfalso;omega)))|refine sq ?_|refine rg ?_|refine xc ?_|refine nl ?_|refine xe ?_|refine xb ?_
         refine lp ⟨setK G x none,many,q,qv⟩ ⟨e1,e2⟩ (hlt:=by dsimp only;rw [e5,Nat.add_mul,Nat.one_mul];simp only [List.length_cons];omega)
end Go.Art
set_option maxRecDepth 4000
namespace Go.Art
open Go Go.Proofs Go.RowKit
attribute [local irreducible] Fit pt own ro vw mpc lpt vels rels mow lrc dfr
noncomputable def knownR (k:Int) (ls:List (List Int)):List Int:=if stopE k ls = 0 then knownL k ls else []
end Go.Art
set_option maxRecDepth 4000
namespace Go.Art
open Go Go.Proofs Go.RowKit
attribute [local irreducible] Fit pt own ro vw mpc lpt vels rels mow lrc dfr
abbrev W64 (n:Int):Value:=.int .u64 n
def bitsL (k n:Int):List Int:=(belowI k).filter fun i=>decide (n / 2 ^ i.toNat % 2 = 1)
/-! ### Examples -/
def knb (ls:List (List Int)):Nat→Int→Bool
 | 0,_=>false
 | n + 1,s=>ls.any fun l=>l.contains s && l.all fun x=>x == s || knb ls n x
end Go.Art
set_option maxRecDepth 4000
namespace Go.Art
open Go Go.Proofs Go.RowKit
attribute [local irreducible] Fit pt own ro vw mpc lpt vels rels mow lrc dfr
abbrev Ws (l:List Int):List Value:=l.map W64
section
variable {P:Program} {E:Env P} {n:Sh} {X:Cx} {s:List K} {fr:Fr} {A A' B F:List Ch} {ops:Array Oper} {rest:List Oper} {d:Nat} {ty:TypeId} {pos:String} {after:Array Edge} {v:Value} {t t':TypeId} {x y:Operand} {c0:Code}
end
def setsL (k:Int) (zs:List Int):List (List Int):=(zs.map (bitsL k)).filter fun l=>decide (0 < l.length)
structure UnG where
 i:Nat
 o:Value
 hs:List Value
 ls:List (List Int)
end Go.Art
set_option maxRecDepth 4000
namespace Go.Art
open Go Go.Proofs Go.RowKit
attribute [local irreducible] Fit pt own ro vw mpc lpt vels rels mow lrc dfr
attribute [local irreducible] lmp lme mit
def KeysOf (f:Int→Option Value) (zs:List Int):Prop:=zs.Nodup∧∀ k,k ∈ zs ↔ (f k).isSome = true
theorem Keys1_seq (c b:Nat) (f:Int→Option Value) (N:Nat) (hN:∀ zs:List Int,zs.Nodup→(∀ k ∈ zs,(f k).isSome = true)→zs.length ≤ N) :
  SeqC Tryz.prog 193 #[ptr c] [lpt c [mp b] 160,lmp b f] N (KeysOf f):=by
 refine ⟨?_,fun zs h=>hN zs h.1 fun k hk=>(h.2 k).1 hk,by (repeat (first | exact has00 | refine has01 ?_));first | done | fail⟩
 intro α l J el a0 h0 hnb hy
 refine Tr.enter env _ Tryz.func193 (by kernel_rfl) rfl Tryz.ntmps193 rfl (by repeat (first | exact has00 | refine has01 ?_)) fun w0=>?_
 refine TC.entries (b:=b) (f:=f) (fun es clock hT=>?_)
 have hold:∀ x ∈ es.toList,x.born < clock:=hT.st.1
 have hnd:(es.toList.map (·.born)).Nodup:=hT.st.2.1
 repeat' first|refine rgm (b:=b) (es:=es) (clock:=clock) fun r=>?_|(refine wo ?_;first|refine ldl ?_)|refine sq ?_|refine rg ?_|refine xc ?_|refine nl ?_|refine bk ?_
 refine TC.loop (ι:=α × Array Nat) (fun _=>[]) (fun a=>mit r b clock a.2 clock :: lme b es clock :: lpt c [mp b] 160 :: J a.1) (fun a=>(el a.1).Nodup∧∀ k,k ∈ el a.1 ↔ ∃ e ∈ es.toList,e.key = I k∧a.2.contains e.born = true) (fun a=>(leftOf es a.2).size) (a0,#[]) [0,5] ⟨by rw [h0];exact .nil,by rw [h0];simp⟩ ?_ (hf:=Fit.all)
 rintro ⟨a,seen⟩ ⟨h1,h2⟩
 dsimp only at h1 h2 ⊢
 have hkey:∀ e ∈ es.toList,∃ k,e.key = I k:=fun e he=>by
  have:=hT.ks e he
  unfold MapKept.IsKey at this
  split at this
  all_goals (first | (rename_i e1 e2;cases e1;subst this;exact ⟨_,e2⟩) | exact this.elim | (rename_i e1 _;cases e1))
 have hF:∀ seen,Fit (mit r b clock seen clock :: (lme b es clock :: lpt c [mp b] 160 :: J a)) (J a) [mit r b clock seen clock,lme b es clock,lpt c [mp b] 160]:=fun seen=>Fit.app [mit r b clock seen clock,lme b es clock,lpt c [mp b] 160] (J a)
 have hN0:(lme b es clock :: lpt c [mp b] 160 :: J a) ++ [] = lme b es clock :: lpt c [mp b] 160 :: J a:=List.append_nil _
 repeat' first|refine nxt (b:=b) (es:=es) (clock:=clock) (fun hz=>?_) (fun e he=>?_) hold (Nat.le_refl _)|(refine wo ?_;first|refine oa ?_)|(refine gc ?_;first|refine ct ?_|refine cf ?_)|refine sq ?_|refine rg ?_|refine xc ?_|refine nl ?_|refine sk ?_|refine bk ?_|refine xe ?_
 ·refine TX.im (B:=mit r b clock seen clock :: (lme b es clock :: lpt c [mp b] 160 :: J a)) (by exact Im.perm (by simp)) ?_
  refine e0 (D:=J a) ⟨a,⟨h1,fun k=>?_⟩,rfl⟩ (hf:=hF seen) (nb:=hnb a)
  rw [h2,Option.isSome_iff_exists]
  constructor
  ·rintro ⟨e,he,hk,_⟩;exact ⟨e.val,(hT.to k e.val).2 ⟨e,he,hk,rfl⟩⟩
  ·rintro ⟨v,hv⟩;obtain ⟨e,he,hk,_⟩:=(hT.to k v).1 hv;exact ⟨e,he,hk,all_seen es seen hz e he⟩
 ·obtain ⟨he1,he2⟩:=mem_left he
  obtain ⟨k,hk⟩:=hkey e he1
  have hka:k ∉ el a:=fun hm=>by
   obtain ⟨e',h3,h4,h5⟩:=(h2 k).1 hm
   obtain ⟨i1,hi1⟩:=mem_get.1 h3
   obtain ⟨i2,hi2⟩:=mem_get.1 he1
   have:=keys_inj hT.st.2.2 hi1 hi2 (by rw [h4,hk])
   subst this;rw [hi1] at hi2;cases hi2;rw [h5] at he2;cases he2
  have hex:∀ e' ∈ es.toList,∀ k',e'.key = I k'→(f k').isSome = true:=fun e' he' k' hk'=>by rw [(hT.to k' e'.val).2 ⟨e',he',hk',rfl⟩];rfl
  have hNl:(el a).length < N:=by
   have:=hN (el a ++ [k]) (by rw [List.nodup_append];exact ⟨h1,by simp,fun x hx y hy e=>hka (by rw [List.mem_singleton.1 hy] at e;rw [← e];exact hx)⟩) (fun k' hk'=>by
    rcases List.mem_append.1 hk' with hk' | hk'
    ·obtain ⟨e',h3,h4,_⟩:=(h2 k').1 hk';exact hex e' h3 k' h4
    ·rw [List.mem_singleton.1 hk'];exact hex e he1 k hk)
   simp at this;omega
  repeat' first|refine ent (e:=e) (b:=b) (es:=es) (clock:=clock) ?_ he1 hnd|(refine wo ?_;first|refine oa ?_)|refine sq ?_|refine rg ?_|refine xc ?_|refine nl ?_
  refine TO.im (B:=mit r b clock (seen.push e.born) clock :: (lme b es clock :: lpt c [mp b] 160 :: J a)) (by exact Im.perm (by simp)) ?_
  rw [hk]
  refine cy (hy a k hNl) ?_ (hs:=hF _)
  rintro ok B ⟨rfl,a',ha',rfl⟩
  repeat' first|(refine wo ?_;first|refine oa ?_)|(refine gc ?_;first|refine cf ?_)|refine xc ?_|refine nl ?_|refine sk ?_|refine xb ?_
  refine lp (a',seen.push e.born) ⟨by dsimp only;rw [ha',List.nodup_append];exact ⟨h1,by simp,fun x hx y hy e=>hka (by rw [List.mem_singleton.1 hy] at e;rw [← e];exact hx)⟩,fun k'=>?_⟩ (G:=[]) (hf:=?_) (hlt:=left_shrinks es seen e he)
  ·dsimp only
   rw [ha',List.mem_append,List.mem_singleton,h2]
   constructor
   ·rintro (⟨e',h3,h4,h5⟩ | rfl)
    ·exact ⟨e',h3,h4,by rw [contains_push,h5];rfl⟩
    ·exact ⟨e,he1,hk,by rw [contains_push];simp⟩
   ·rintro ⟨e',h3,h4,h5⟩
    rw [contains_push,Bool.or_eq_true] at h5
    rcases h5 with h5 | h5
    ·exact .inl ⟨e',h3,h4,h5⟩
    ·have hb:e'.born = e.born:=by simpa using h5
     have:=born_inj hnd h3 he1 hb
     subst this;rw [hk] at h4;cases h4;exact .inr rfl
  ·dsimp only;rw [List.append_nil];exact Fit.comm [mit r b clock (seen.push e.born) clock,lme b es clock,lpt c [mp b] 160] (J a')
theorem Keys_tr (b:Nat):Tr Tryz.prog 135 [mp b] [] [] fun v D=>∃ c,v = .func (.func 193) #[] #[ptr c]∧D = [pt c [mp b] 160]:=by
 refine Tr.enter env _ Tryz.func135 (by kernel_rfl) rfl Tryz.ntmps135 rfl (by repeat (first | exact has00 | refine has01 ?_)) fun w0=>?_
 repeat' first|refine bx1 fun c=>?_|(refine wo ?_;first|refine oa ?_)|refine sq ?_|refine rg ?_|refine xc ?_|refine nl ?_|refine rt ?_
 exact r1 ⟨c,rfl,rfl⟩
theorem srt_keys {k:Int} {p:Int→Bool} {zs:List Int} (h:zs.Nodup) (hz:∀ x,x ∈ zs ↔ (0 ≤ x∧x < k)∧p x = true):srt zs = (belowI k).filter p:=by
 have h2:((belowI k).filter p).Pairwise (· < ·):=(belowI_sorted k).sublist List.filter_sublist
 refine List.Perm.eq_of_pairwise (le:=(· ≤ ·)) (fun a b _ _ h1 h2=>by omega) (srt_sorted zs) (h2.imp fun h=>Int.le_of_lt h) ?_
 refine (srt_perm zs).trans ?_
 rw [List.perm_ext_iff_of_nodup h (h2.imp fun h e=>by omega)]
 intro x
 rw [hz,List.mem_filter,mem_belowI]
theorem nodup_len {zs L:List Int} (h1:zs.Nodup) (hL:L.Nodup) (h:∀ x ∈ zs,x ∈ L):zs.length ≤ L.length:=by
 have hp:zs.Perm (L.filter fun x=>decide (x ∈ zs)):=by
  rw [List.perm_ext_iff_of_nodup h1 (hL.sublist List.filter_sublist)]
  intro x
  rw [List.mem_filter,decide_eq_true_eq]
  exact ⟨fun hx=>⟨h x hx,hx⟩,fun hx=>hx.2⟩
 rw [hp.length_eq];exact List.length_filter_le _ _
noncomputable def largeR (k:Int) (ls:List (List Int)):List Int:=if stopE k ls = 0 then largeL k ls else []
theorem Largest_tr (k:Int) (s:Value) (hs:List Value) (ls:List (List Int)) (hn:ls.length ≤ 4096):Tr Tryz.prog 77 [I k,s] [vw s hs,vels hs ls] [] fun v D=>∃ o,v = tup2 o (I (stopE k ls))∧D = [own 3 o (Is (largeR k ls))]:=by
 refine Tr.enter env _ Tryz.func77 (by kernel_rfl) rfl Tryz.ntmps77 rfl (by repeat (first | exact has00 | refine has01 ?_)) fun w0=>?_
 refine TC.els (hs:=hs) (ls:=ls) (fun hl=>?_)
 repeat' first|(refine gca ?_;first|(refine ca (refuses_tr _ _ _ ls) ?_;rintro _ _ ⟨rfl,rfl⟩))|(refine wo ?_;first|(refine ao ?_;first|refine oa ?_)|refine oa ?_)|(refine gc ?_;first|(refine cn (fun hB=>?_) (fun hB=>?_) <;> try (exfalso;omega)))|refine sq ?_|refine rg ?_|refine xc ?_|refine nl ?_|refine sk ?_|refine rt ?_
 ·refine TX.im (own_nil 3 _) ?_
  exact r2 ⟨nS,rfl,by rw [largeR,if_neg (by assumption)]⟩
 have hE:stopE k ls = 0:=hB
 obtain ⟨hk1,hk2,hsets⟩:=stopE_zero hE
 refine ca (unknown_tr k s hs ls hE hn) ?_
 rintro _ _ ⟨b,G,g,rfl,rfl,hG⟩
 obtain ⟨-,hkn⟩:=known_of (k:=k) (ls:=ls) (left G) (fun s h0 h1=>by rw [hG];simp [h0,h1])
 have hleft:∀ x,(ones G x).isSome = true ↔ left G x = true:=fun x=>by unfold ones left;cases G x <;> simp
 have hD:∀ zs,KeysOf (ones G) zs→srt zs = largeL k ls:=fun zs h=>by
  rw [hkn]
  refine srt_keys h.1 fun x=>?_
  rw [h.2,hleft]
  exact ⟨fun h=>⟨((hG x).1 h).1,h⟩,fun h=>h.2⟩
 have hN:∀ zs:List Int,zs.Nodup→(∀ x ∈ zs,(ones G x).isSome = true)→zs.length ≤ 65536:=fun zs h1 h2=>by
  have:=nodup_len h1 ((belowI_sorted k).imp fun h e=>by omega) fun x hx=>mem_belowI.2 ((hG x).1 ((hleft x).1 (h2 x hx))).1
  rw [belowI_len] at this;omega
 repeat' first|(refine gca ?_;first|(refine ca (Keys_tr b) ?_;rintro _ _ ⟨c,rfl,rfl⟩))|(refine wo ?_;first|(refine ao ?_;first|refine aw ?_|refine aw6 ?_|refine oa ?_|refine adiv ?_|refine amod ?_|refine shr1 ?_|refine shr ?_|refine umod ?_|refine isl ?_|refine ipe ?_|refine ipn ?_|refine ibe ?_)|refine acw ?_|refine ucv ?_|refine anw ?_|refine oa ?_|refine ld ?_|refine ldl ?_|refine lnm ?_|refine ixmn ?_|refine ixm ?_|refine li ?_|refine lb ?_|refine lv ?_|refine ln ?_|refine ixn ?_|refine ix ?_|refine le ?_|refine sr ?_|refine soi ?_|refine sob ?_|refine scm ?_|refine sclm ?_|refine schm ?_|refine gy ?_|refine gn ?_|refine gnn ?_|refine gu ?_|(refine gsi (fun hB=>?_) (fun hB=>?_) <;> try (exfalso;omega))|(refine gsn (fun hB=>?_) (fun hB=>?_) <;> try (exfalso;omega))|(refine gs (fun hB=>?_) (fun hB=>?_) <;> try (exfalso;omega)))|(refine gc ?_;first|refine ct ?_|refine cf ?_|(refine ci (fun hB=>?_) (fun hB=>?_) <;> try (exfalso;omega))|(refine cn (fun hB=>?_) (fun hB=>?_) <;> try (exfalso;omega))|(refine cb (fun hB=>?_) (fun hB=>?_) <;> try (exfalso;omega)))|refine sq ?_|refine rg ?_|refine xc ?_|refine nl ?_|refine sk ?_|refine bk ?_|refine xe ?_|refine rt ?_|refine xb ?_
 refine ca (Sorted_tr (Keys1_seq c b (ones G) 65536 hN) (by decide)) ?_ (hp:=has1 hasA (has1 (has_mow (T:=3) (g:=g) (o:=none) memA) has0))
 rintro v _ ⟨zs,hz,rfl⟩
 rw [show largeR k ls = largeL k ls by rw [largeR,if_pos hE],hD zs hz,hE]
 repeat' first|(refine wo ?_;first|refine oa ?_)|refine xc ?_|refine nl ?_|refine rt ?_
 exact r2 ⟨v,rfl,rfl⟩
theorem Fails_tr (k:Int) (s:Value) (hs:List Value) (ls:List (List Int)) (hn:ls.length ≤ 4096):Tr Tryz.prog 103 [I k,s] [vw s hs,vels hs ls] [] fun v D=>v = tup2 (.bool (decide (0 < (largeR k ls).length))) (I (stopE k ls))∧D = []:=by
 refine Tr.enter env _ Tryz.func103 (by kernel_rfl) rfl Tryz.ntmps103 rfl (by repeat (first | exact has00 | refine has01 ?_)) fun w0=>?_
 repeat' first|(refine gca ?_;first|(refine ca (Largest_tr _ _ _ ls hn) ?_;rintro _ _ ⟨o,rfl,rfl⟩))|(refine wo ?_;first|(refine ao ?_;first|refine oa ?_)|refine oa ?_|refine lnm ?_)|refine sq ?_|refine rg ?_|refine xc ?_|refine nl ?_|refine rt ?_
 refine r2 ⟨?_,rfl⟩
 congr 3
 simp
end Go.Art
namespace Go.Art
open Go Go.Proofs Go.RowKit
abbrev irow (s:Value) (q:Rat) (h:Value × Value):List Value:=s :: rrow q h
def ics (ss:List Value) (qs:List Rat) (hs:List (Value × Value)):List Value:=(List.zipWith List.cons ss (List.zipWith rrow qs hs)).flatten
theorem ics_app {ss rs:List Value} {qs ps:List Rat} {hs gs:List (Value × Value)} (h1:ss.length = qs.length) (h2:hs.length = qs.length):ics (ss ++ rs) (qs ++ ps) (hs ++ gs) = ics ss qs hs ++ ics rs ps gs:=by
 unfold ics
 rw [List.zipWith_append h2.symm,List.zipWith_append (by simp;omega),List.flatten_append]
theorem ics_one (s:Value) (q:Rat) (h:Value × Value):ics [s] [q] [h] = irow s q h:=by simp [ics]
theorem ics_rows {ss:List Value} {qs:List Rat} {hs:List (Value × Value)}:∀ r ∈ List.zipWith List.cons ss (List.zipWith rrow qs hs),r.length = 4:=fun r hr=>by
 obtain ⟨j,hj,rfl⟩:=List.mem_iff_getElem.1 hr
 rw [List.getElem_zipWith,List.getElem_zipWith];rfl
theorem ics_row {ss:List Value} {qs:List Rat} {hs:List (Value × Value)} (h1:ss.length = qs.length) (h2:hs.length = qs.length) {i:Nat} (hi:i < qs.length):((ics ss qs hs).drop (4 * i)).take 4 = irow (ss.getD i nS) (qs.getD i 0) (hs.getD i nS2):=by
 refine flat_row (sz:=4) ics_rows ?_
 rw [List.getElem?_zipWith,List.getElem?_zipWith,List.getElem?_eq_getElem hi,List.getElem?_eq_getElem (show i < hs.length by omega),List.getElem?_eq_getElem (show i < ss.length by omega)]
 simp [List.getD_eq_getElem?_getD,hi,show i < hs.length by omega,show i < ss.length by omega]
theorem row_cell {xs:List Value} {m i:Nat} {r:List Value} (h:(xs.drop m).take 4 = r) (hi:i < 4) (hl:r.length = 4):xs[m + i]? = r[i]?:=by
 rw [← h,List.getElem?_take,if_pos hi,List.getElem?_drop]
theorem row_sub {xs:List Value} {m:Nat} {a:Value} {r:List Value} (h:(xs.drop m).take 4 = a :: r) (hl:r.length = 3):(xs.drop (m + 1)).take 3 = r:=by
 have h2:((xs.drop m).take 4).drop 1 = r:=by rw [h];rfl
 rw [List.drop_take,List.drop_drop] at h2
 exact h2
theorem has_velsI {F:List Ch} {hs:List Value} {ls:List (List Int)} (h:Has F (velg I hs ls)):Has F (vels hs ls):=⟨h.P,fun _ h=>h,fun _ h=>h,fun b hb=>h.ft b hb⟩
theorem has_pick {g:Int→Value} {F:List Ch} {ss:List Value} {ls:List (List Int)} (h:Has F (velg g ss ls)):∀ l:List Nat,(∀ i ∈ l,i < ls.length)→Has F (velg g (l.map fun i=>ss.getD i nS) (l.map fun i=>ls.getD i []))
 | [],_=>has_velg_nil
 | i :: r,hl=>has_velg_cons (has_elg h (hl i (by simp))) (has_pick h r fun j hj=>hl j (by simp [hj]))
theorem has_fpick {F:List Ch} {hs:List (Value × Value)} {qs:List Rat} (h:Has F (vfr hs qs)) (hl:hs.length = qs.length):∀ l:List Nat,(∀ i ∈ l,i < qs.length)→Has F (vfr (l.map fun i=>hs.getD i nS2) (l.map fun i=>qs.getD i 0))
 | [],_=>has_vfr_nil
 | i :: r,hm=>by
  have h2:=has_fr h hl (hm i (by simp))
  exact has_vfr_cons h2.1 h2.2 (has_fpick h hl r fun j hj=>hm j (by simp [hj]))
theorem mk_mul (a b D E:Nat) (hD:D ≠ 0) (hE:E ≠ 0):mkRat (a:Int) D * mkRat (b:Int) E = mkRat ((a * b:Nat):Int) (D * E):=by
 rw [Rat.mkRat_mul_mkRat]
 push_cast;rfl
theorem prod_mk {L:List (List Int × Nat)} {D:Nat} (hD:D ≠ 0) (l:List Nat):(l.map fun i=>mkRat (((L.getD i ([],0)).2:Nat):Int) D).foldl (· * ·) 1 = mkRat ((prdW L l:Nat):Int) (D ^ l.length):=by
 have key:∀ (l:List Nat) (a q:Nat),(l.map fun i=>mkRat (((L.getD i ([],0)).2:Nat):Int) D).foldl (· * ·) (mkRat (a:Int) (D ^ q)) = mkRat ((l.foldl (fun a i=>a * (L.getD i ([],0)).2) a:Nat):Int) (D ^ (q + l.length)):=by
  intro l
  induction l with
  | nil=>intro a q;rfl
  | cons i r ih=>
   intro a q
   rw [List.map_cons,List.foldl_cons,mk_mul _ _ _ _ (Nat.ne_of_gt (Nat.pow_pos (Nat.pos_of_ne_zero hD))) hD,← Nat.pow_succ,ih,List.foldl_cons,List.length_cons]
   congr 2;omega
 have:=key l 1 0
 rw [Nat.pow_zero,Nat.zero_add] at this
 exact this
theorem dg_pow {D b n:Nat} (h:D < 18446744073709551616 ^ b):(dg (4096 * D ^ n)).length ≤ b * n + 1:=by
 refine (dg_len _ _).2 ?_
 have h1:D ^ n ≤ (18446744073709551616 ^ b) ^ n:=Nat.pow_le_pow_left (Nat.le_of_lt h) n
 rw [← Nat.pow_mul] at h1
 rw [Nat.pow_succ,Nat.mul_comm]
 have h2:0 < 18446744073709551616 ^ (b * n):=Nat.pow_pos (by decide)
 exact Nat.lt_of_le_of_lt (Nat.mul_le_mul_right 4096 h1) (Nat.mul_lt_mul_of_pos_left (by decide) h2)
theorem FB_pow {a D b n B:Nat} (hD0:D ≠ 0) (hD:D < 18446744073709551616 ^ b) (ha:a ≤ 4096 * D ^ n) (hB:b * n + 1 ≤ B):FB (mkRat (a:Int) (D ^ n)) B:=by
 have h1:=dg_pow (n:=n) hD
 refine FB_mk (Nat.ne_of_gt (Nat.pow_pos (Nat.pos_of_ne_zero hD0))) (Nat.le_trans (dg_mono ha) (by omega)) (Nat.le_trans (dg_mono (show D ^ n ≤ 4096 * D ^ n by omega)) (by omega))
section
variable {P:Program} {E:Env P} {n:Sh} {fr:Fr} {A A' D G:List Ch} {m:Nat}
theorem mca {Ds:List Nat} {w0:World} {A0:List Ch} {R':Value→List Ch→Prop} {fn:Func} {t u:Nat} {ty T:TypeId} {dt:TypeDesc} {z:Value} {sz by_ b:Nat} {cs vs:List Value} {v2:Value} (h:R' (.tuple #[.agg vs.toArray,v2]) D) (hr:fn.results = #[.cell t ty,.tmp u]:=by rfl) (ht:lk E.und ty = some dt:=by rfl) (hg:aggB dt = true:=by rfl) (hi:lk E.inf ty = some (z,sz,by_):=by rfl)
  (hv:get fr t = some (ptr b):=by rfl) (hv2:get fr u = some v2:=by rfl) (hm:Tk (dfrl Ds) A A':=by exact tkA) (hp:pt b cs T ∈ A':=by exact memA) (hcs:cs.take sz = vs:=by rfl) (hl:vs.length = sz:=by rfl) (hf:Fit A' D G:=by exact fitA) (nb:∀ c ∈ D,∀ b,¬ c.bd b:=by (repeat (first | exact nb0 | refine nb1 ?_));first | done | fail) (hn:n = ⟨m,marks Ds,none⟩:=by rfl) :
  TX E n ⟨bodyPostM (FF none) 0 P fn (RetP (PR w0 A0 R')),w0,A0⟩ [] .ret fr A:=by
 subst hn
 exact mG (.inl rfl) h (fun w hw a ha=>res_at (E:=E) ha hr ht hg hi hv (pt_at hp hw) hcs hl hv2) hm hf nb
end
abbrev TIm:TypeId:=125
abbrev TSm:TypeId:=110
attribute [local irreducible] Fit pt own ro vw mpc lpt vels rels mow lrc dfr
attribute [local irreducible] lmp lme mit velg relg bnd owl dfrl
theorem sumAdd_tr (c:Nat) (q r:Rat) (v1 v2 v3 v4:Value) (h1:v1.oneCell' = true) (h2:v2.oneCell' = true) (h3:v3.oneCell' = true) (h4:v4.oneCell' = true) (hq:FB q 8589934592) (hr:FB r 8589934592) :
  Tr Tryz.prog 142 [rv r v3 v4,ptr c] [vw v3 (Us (dg r.num.natAbs)),vw v4 (Us (dg r.den))] [pt c (rrow q (v1,v2)) TRt,own T64 v1 (Us (dg q.num.natAbs)),own T64 v2 (Us (dg q.den))]
  fun u D=>∃ n1 n2,u = .tuple #[]∧n1.oneCell' = true∧n2.oneCell' = true∧D = [pt c (rrow (q + r) (n1,n2)) TRt,own T64 n1 (Us (dg (q + r).num.natAbs)),own T64 n2 (Us (dg (q + r).den))]:=by
 have hA:=fun lv=>FAdd2_tr q r lv v1 v2 v3 v4 hq hr
 unfold FQ2 at hA
 obtain ⟨s,hs⟩ : ∃ s,s = q + r:=⟨_,rfl⟩
 rw [← hs] at hA ⊢
 refine Tr.enter env _ Tryz.func142 (by kernel_rfl) rfl Tryz.ntmps142 rfl (by repeat (first | exact has00 | refine has01 ?_)) fun w0=>?_
 repeat' first|(refine gca ?_;first|(refine ca (hA _) ?_ (hp:=has1 (has_oww memA) (has1 hasA (has1 hasA (has1 hasA (has1 hasA has0)))));rintro _ _ ⟨n1,n2,rfl,hn1,hn2,rfl⟩))|refine bx fun b=>?_|refine lda (cs:=rrow q (v1,v2)) ?_|refine lda ?_|refine slws fun g2=>?_|refine srz ?_ (hj:=Nat.le_of_ble_eq_true rfl)|(refine wo ?_;first|refine oa ?_)|refine sq ?_|refine rg ?_|refine xc ?_|refine nl ?_
 exact e0 ⟨n1,n2,rfl,hn1,hn2,rfl⟩
theorem fails_trm (k:Int) (s:Value) (hs:List Value) (ls:List (List Int)) (hn:ls.length ≤ 4096):Tr Tryz.prog 82 [I k,s] [vw s hs,vels hs ls] [] fun v D=>v = .bool (decide (0 < (largeR k ls).length))∧D = []:=by
 refine Tr.enter env _ Tryz.func82 (by kernel_rfl) rfl Tryz.ntmps82 rfl (by repeat (first | exact has00 | refine has01 ?_)) fun w0=>?_
 repeat' first|(refine gca ?_;first|(refine ca (Fails_tr k s hs ls hn) ?_;rintro _ _ ⟨rfl,rfl⟩))|(refine wo ?_;first|refine oa ?_)|refine sq ?_|refine rg ?_|refine xc ?_|refine nl ?_|refine rt ?_
 exact r1 ⟨rfl,rfl⟩
end Go.Art
namespace Go.Art
open Go Go.Proofs Go.RowKit
def sumW (W:List (List Int)→Bool) (L:List (List Int × Nat)) (D n:Nat):Fr3 × Int:=
 if L.length ≤ 4096∧L.length ^ n ≤ 4096 then (rqf (mkRat ((natG W L n [] 1:Nat):Int) (D ^ n)),0) else (rqn,4)
abbrev fracs (L:List (List Int × Nat)) (D:Nat):List Rat:=L.map fun s=>mkRat ((s.2:Nat):Int) D
theorem fracs_get {L:List (List Int × Nat)} {D i:Nat} (h:i < L.length):(fracs L D).getD i 0 = mkRat (((L.getD i ([],0)).2:Nat):Int) D:=by simp [List.getD_eq_getElem?_getD,h]
theorem fst_get {L:List (List Int × Nat)} {i:Nat} (h:i < L.length):(L.map (·.1)).getD i [] = (L.getD i ([],0)).1:=by simp [List.getD_eq_getElem?_getD,h]
theorem elg_one {g:Int→Value} {F:List Ch} {ss:List Value} {ls:List (List Int)} (h:Has F (velg g ss ls)) {i:Nat} (hi:i < ls.length) (w:World) (hw:Sat F w):(ss.getD i nS).oneCell' = true:=by
 obtain ⟨_,_,e,_⟩:=((has_elg h hi).P w hw:Sl w _ _)
 rw [e];rfl
structure SmG where
 j:Nat
 vn:Value
 vd:Value
structure SnG where
 j:Nat
 sv:Value
 mv:Value
attribute [local irreducible] Fit pt own ro vw mpc lpt vels rels mow lrc dfr
attribute [local irreducible] lmp lme mit velg relg bnd owl dfrl accN natG tupN prdW
set_option maxHeartbeats 1000000 in
theorem Sum_tr (lv:Value) (hlv:lv.oneCell' = true) (ss:List Value) (hs:List (Value × Value)) (L:List (List Int × Nat)) (D n:Nat) (k:Int) (wf:FuncId) (W:List (List Int)→Bool) (hss:ss.length = L.length) (hhs:hs.length = L.length)
  (hL0:0 < L.length) (hwb:∀ s ∈ L,s.2 ≤ D) (hD0:D ≠ 0) (hD:D < 18446744073709551616 ^ 10) (hn:n ≤ 12)
  (hW:∀ (v:Value) (l:List Nat),l.length = n→(∀ i ∈ l,i < L.length)→Tr Tryz.prog wf [I k,v] [vw v (l.map fun i=>ss.getD i nS),vels (l.map fun i=>ss.getD i nS) (selS L l)] [] fun u D=>u = .bool (W (selS L l))∧D = []) :
  Tr Tryz.prog 81 [lv,I k,I n,.func (.func wf) #[] #[]] [vwf lv L.length (ics ss (fracs L D) hs),velg I ss (L.map (·.1)),vfr hs (fracs L D)] [] (FW (sumW W L D n)):=by
 have hE:D ^ n ≠ 0:=Nat.ne_of_gt (Nat.pow_pos (Nat.pos_of_ne_zero hD0))
 have hfl:(fracs L D).length = L.length:=by simp
 by_cases hbig:L.length ≤ 4096∧L.length ^ n ≤ 4096
 rotate_left
 ·unfold sumW
  rw [if_neg hbig]
  refine Tr.mono (R:=fun u D=>u = tup2 rv0 (I 4)∧D = [own T64 nS (Us []),own T64 nS (Us [])]) ?_ fun u D h=>FW.of0 h
  have hF:=fun h=>few_tr23 L.length n ⟨hL0,h⟩ (by omega)
  generalize ics ss (fracs L D) hs = xs at *
  refine Tr.enterM env _ Tryz.func81 (by kernel_rfl) rfl Tryz.ntmps81 rfl (by repeat (first | exact has00 | refine has01 ?_)) fun w0=>?_
  by_cases hN:L.length ≤ 4096
  ·have hF1:=hF hN
   have hno:¬ L.length ^ n ≤ 4096:=fun h=>hbig ⟨hN,h⟩
   clear hbig hE
   generalize L.length ^ n = p at *
   repeat' first|(refine gca ?_;first|(refine ca hF1 ?_;rintro _ _ ⟨⟨b,rfl,hb⟩,rfl⟩;obtain rfl:b = false:=by cases b;rfl;exact absurd (hb.1 rfl) hno))|refine bx1 fun b=>?_|refine al fun c=>?_|refine lnw (N:=L.length) (xs:=xs) ?_|refine bdz ?_|refine srz ?_|(refine wo ?_;first|(refine ao ?_;first|refine oa ?_)|refine oa ?_|refine ld ?_|refine gy ?_|(refine gsi (fun hB=>?_) (fun hB=>?_) <;> try (exfalso;omega)))|(refine gc ?_;first|refine ct ?_)|refine sq ?_|refine rg ?_|refine xc ?_|refine nl ?_|refine rt ?_
   refine TX.im (dfrl_nil _) ?_
   refine TX.im (own_nil T64 _) (TX.im (own_nil T64 _) ?_)
   exact mca (Ds:=[]) (cs:=[.bool false,nS,nS]) (vs:=[.bool false,nS,nS]) (T:=TRt) ⟨rfl,rfl⟩
  ·clear hbig hE
   repeat' first|refine bx1 fun b=>?_|refine al fun c=>?_|refine lnw (N:=L.length) (xs:=xs) ?_|refine bdz ?_|refine srz ?_|(refine wo ?_;first|(refine ao ?_;first|refine oa ?_)|refine oa ?_|refine ld ?_|refine gn ?_|(refine gsi (fun hB=>?_) (fun hB=>?_) <;> try (exfalso;omega)))|(refine gc ?_;first|refine ct ?_)|refine sq ?_|refine rg ?_|refine xc ?_|refine nl ?_|refine rt ?_
   refine TX.im (dfrl_nil _) ?_
   refine TX.im (own_nil T64 _) (TX.im (own_nil T64 _) ?_)
   exact mca (Ds:=[]) (cs:=[.bool false,nS,nS]) (vs:=[.bool false,nS,nS]) (T:=TRt) ⟨rfl,rfl⟩
 obtain ⟨hN,hNn⟩:=hbig
 unfold sumW
 rw [if_pos ⟨hN,hNn⟩]
 have hz0:mkRat ((0:Nat):Int) 1 = mkRat ((accN W L n 0:Nat):Int) (D ^ n):=by rw [accN_zero];simp
 have hP:=FPair_tr 0 1 (by decide) (by decide) (by decide)
 unfold FQ2 at hP
 rw [hz0] at hP
 have hF1:=few_tr23 L.length n ⟨hL0,hN⟩ (by omega)
 have hT:=tuples_tr (L.length:Int) (n:Int)
 have hseq:=fun pn pm=>tuples1_seq L.length n pn pm hL0 hNn (by omega) hN
 have hfull:=accN_full W hL0 n
 have hacF:∀ j,j ≤ L.length ^ n→FB (mkRat ((accN W L n j:Nat):Int) (D ^ n)) 8589934592:=fun j hj=>FB_pow hD0 hD (Nat.le_trans (accN_le hwb j) (Nat.mul_le_mul_right _ (by omega))) (by omega)
 have hacS:∀ j,mkRat ((accN W L n j:Nat):Int) (D ^ n) + mkRat ((tupN W L (digs L.length n j):Nat):Int) (D ^ n) = mkRat ((accN W L n (j + 1):Nat):Int) (D ^ n):=fun j=>by rw [mk_add _ _ _ hE,accN_succ]
 rw [← hfull]
 clear hfull hz0
 obtain ⟨ac,hac⟩ : ∃ ac:Nat→Rat,ac = fun j=>mkRat ((accN W L n j:Nat):Int) (D ^ n):=⟨_,rfl⟩
 have hac1:∀ j,mkRat ((accN W L n j:Nat):Int) (D ^ n) = ac j:=fun j=>by rw [hac]
 simp only [hac1] at hP hacF hacS ⊢
 clear hac hac1
 obtain ⟨M,hM⟩ : ∃ M,M = L.length ^ n:=⟨_,rfl⟩
 refine Tr.enterM env _ Tryz.func81 (by kernel_rfl) rfl Tryz.ntmps81 rfl (by repeat (first | exact has00 | refine has01 ?_)) fun w0=>?_
 repeat' first|(refine gca ?_;first|(refine ca hF1 ?_;rintro _ _ ⟨⟨b,rfl,hb⟩,rfl⟩;obtain rfl:b = true:=hb.2 hNn)|(refine ca hP ?_;rintro _ _ ⟨vn,vd,rfl,hvn,hvd,rfl⟩)|(refine ca hT ?_;rintro _ _ ⟨pn,pm,rfl,rfl⟩))|refine bx1 fun b=>?_|refine al fun c=>?_|refine lnw (N:=L.length) (xs:=ics ss (fracs L D) hs) ?_|refine srz ?_|(refine wo ?_;first|(refine ao ?_;first|refine oa ?_)|refine oa ?_|refine ld ?_|refine sr ?_|refine gy ?_|(refine gsi (fun hB=>?_) (fun hB=>?_) <;> try (exfalso;omega)))|(refine gc ?_;first|refine cf ?_)|refine sq ?_|refine rg ?_|refine xc ?_|refine nl ?_|refine sk ?_|refine bk ?_
 rename_i c4 c5 c8 c10
 have hS:=@SeqV.run _ _ _ _ _ (hseq pn pm)
 rw [tupsL_len] at hS
 have hfg:=fun i (h:i < L.length)=>fracs_get (D:=D) h
 have hrowA:=fun i (h:i < L.length)=>ics_row (ss:=ss) (qs:=fracs L D) (hs:=hs) (by rw [hfl];exact hss) (by rw [hfl];exact hhs) (i:=i) (by rw [hfl];exact h)
 have hqF:∀ i,i < L.length→FB ((fracs L D).getD i 0) 8589934592:=fun i h=>by
  rw [hfg i h]
  have:=FB_pow (a:=(L.getD i ([],0)).2) (n:=1) (B:=8589934592) hD0 hD (by
   rw [Nat.pow_one]
   have:=hwb (L.getD i ([],0)) (by rw [List.getD_eq_getElem?_getD,List.getElem?_eq_getElem h];exact List.getElem_mem h)
   omega) (by omega)
  rwa [Nat.pow_one] at this
 clear hseq hT hP hF1
 generalize hxs4:ics ss (fracs L D) hs = xs4 at *
 clear hxs4
 refine TC.range [lbd [lpt c4 [lv] TSm,lpt c5 [I k] TLI,lpt b [.func (.func wf) #[] #[]] 114,lpt c [.func (.func 142) #[] #[ptr c10]] 39,vwf lv L.length xs4,velg I ss (L.map (·.1)),vfr hs (fracs L D)],lpt pn [I n] TLI,lpt pm [I L.length] TLI] [pt c10 (rrow (ac 0) (vn,vd)) TRt,own T64 vn (Us (dg (ac 0).num.natAbs)),own T64 vd (Us (dg (ac 0).den))] (fun l2 rec Dm pend B'=>∃ vn vd,B' = [dfr Dm,pt c10 (rrow (ac M) (vn,vd)) TRt,own T64 vn (Us (dg (ac M).num.natAbs)),own T64 vd (Us (dg (ac M).den))]∧pend = none∧vn.oneCell' = true∧vd.oneCell' = true) ?_ ?_ (hp:=has1 (lbd_of (has1 hasA (has1 hasA (has1 hasA (has1 hasA (has1 hasA (has1 hasA (has1 hasA has0)))))))) (has1 hasA (has1 hasA has0)))
 ·intro rec l2 Dm hr
  refine Tr.unb (hS (α:=SmG) (lbd [lpt c4 [lv] TSm,lpt c5 [I k] TLI,lpt b [.func (.func wf) #[] #[]] 114,lpt c [.func (.func 142) #[] #[ptr c10]] 39,vwf lv L.length xs4,velg I ss (L.map (·.1)),vfr hs (fracs L D)]) l2 (fun g=>bnd [lrc l2 rec .ready none,dfr Dm,pt c10 (rrow (ac g.j) (g.vn,g.vd)) TRt,own T64 g.vn (Us (dg (ac g.j).num.natAbs)),own T64 g.vd (Us (dg (ac g.j).den))]) (fun g i=>g.j = i∧g.vn.oneCell' = true∧g.vd.oneCell' = true) (fun _=>False) ⟨0,vn,vd⟩ ⟨rfl,hvn,hvd⟩ (fun p=>bnd_nob (nb1 (nb1 (nb1 (nb1 (nb1 nb0)))))) ?_) ?_
  ·rintro ⟨j,vn,vd⟩ i x ⟨hji,hvn,hvd⟩ hj
   dsimp only at hji hvn hvd
   subst hji
   rw [tupsL_get hj]
   refine Ty.bnd ?_
   have hFj:=hacF j (by omega)
   have hSj:=hacS j
   obtain ⟨dl,hdl⟩ : ∃ dl,dl = digs L.length n j:=⟨_,rfl⟩
   have hdn:dl.length = n:=by rw [hdl];exact digs_len _ _ _
   have hdb:∀ i ∈ dl,i < L.length:=by rw [hdl];exact digs_lt hL0 n j
   rw [← hdl] at hSj ⊢
   clear hdl hacF hacS hS
   obtain ⟨xs,hxs⟩ : ∃ xs:List Int,xs = dl.map Int.ofNat:=⟨_,rfl⟩
   have hxl:xs.length = n:=by rw [hxs,List.length_map];exact hdn
   have hxg:∀ i,i < n→xs.getD i 0 = ((dl.getD i 0:Nat):Int):=fun i h=>by rw [hxs];simp [List.getD_eq_getElem?_getD,show i < dl.length by omega]
   rw [← hxs]
   clear hxs
   have hw1:=hW
   refine Ty.pre (pre:=vw x (Is xs) :: [lpt c4 [lv] TSm,lpt c5 [I k] TLI,lpt b [.func (.func wf) #[] #[]] 114,lpt c [.func (.func 142) #[] #[ptr c10]] 39,vwf lv L.length xs4,velg I ss (L.map (·.1)),vfr hs (fracs L D)]) ?_ (has1 hasA (has1 (has_lbd (C:=[lpt c4 [lv] TSm,lpt c5 [I k] TLI,lpt b [.func (.func wf) #[] #[]] 114,lpt c [.func (.func 142) #[] #[ptr c10]] 39,vwf lv L.length xs4,velg I ss (L.map (·.1)),vfr hs (fracs L D)]) (has_mem memA) memA) (has1 (has_lbd (C:=[lpt c4 [lv] TSm,lpt c5 [I k] TLI,lpt b [.func (.func wf) #[] #[]] 114,lpt c [.func (.func 142) #[] #[ptr c10]] 39,vwf lv L.length xs4,velg I ss (L.map (·.1)),vfr hs (fracs L D)]) (has_mem memA) memA) (has1 (has_lbd (C:=[lpt c4 [lv] TSm,lpt c5 [I k] TLI,lpt b [.func (.func wf) #[] #[]] 114,lpt c [.func (.func 142) #[] #[ptr c10]] 39,vwf lv L.length xs4,velg I ss (L.map (·.1)),vfr hs (fracs L D)]) (has_mem memA) memA) (has1 (has_lbd (C:=[lpt c4 [lv] TSm,lpt c5 [I k] TLI,lpt b [.func (.func wf) #[] #[]] 114,lpt c [.func (.func 142) #[] #[ptr c10]] 39,vwf lv L.length xs4,velg I ss (L.map (·.1)),vfr hs (fracs L D)]) (has_mem memA) memA) (has1 (has_lbd (C:=[lpt c4 [lv] TSm,lpt c5 [I k] TLI,lpt b [.func (.func wf) #[] #[]] 114,lpt c [.func (.func 142) #[] #[ptr c10]] 39,vwf lv L.length xs4,velg I ss (L.map (·.1)),vfr hs (fracs L D)]) (has_mem memA) memA) (has1 (has_lbd (C:=[lpt c4 [lv] TSm,lpt c5 [I k] TLI,lpt b [.func (.func wf) #[] #[]] 114,lpt c [.func (.func 142) #[] #[ptr c10]] 39,vwf lv L.length xs4,velg I ss (L.map (·.1)),vfr hs (fracs L D)]) (has_mem memA) memA) (has1 (has_lbd (C:=[lpt c4 [lv] TSm,lpt c5 [I k] TLI,lpt b [.func (.func wf) #[] #[]] 114,lpt c [.func (.func 142) #[] #[ptr c10]] 39,vwf lv L.length xs4,velg I ss (L.map (·.1)),vfr hs (fracs L D)]) (has_mem memA) memA) has0)))))))) (by repeat (first | exact has00 | refine has01 ?_))
   refine Ty.intro env hr (by repeat (first | exact has00 | refine has01 ?_)) fun w1=>?_
   refine TC.fact (p:=∀ i,i < L.length→(ss.getD i nS).oneCell' = true) (fun w hw i hi=>elg_one (g:=I) (ls:=L.map (·.1)) hasA (by simpa using hi) w hw) fun hso=>?_
   refine TC.fact (p:=∀ i,i < L.length→(hs.getD i nS2).1.oneCell' = true∧(hs.getD i nS2).2.oneCell' = true) (fun w hw i hi=>fr_one (hs:=hs) (qs:=fracs L D) hasA (by rw [hfl];exact hhs) (by rw [hfl];exact hi) w hw) fun hfo=>?_
   repeat' first|refine xbeg ?_|(refine wo ?_;first|refine oa ?_|refine lnm ?_)|refine sq ?_|refine rg ?_|refine xc ?_|refine nl ?_|refine bk ?_
   refine TC.im (own_nil TLs _) (TC.im (oww_nil TRt 3 _) ?_)
   refine TC.loop (ι:=SnG) (fun g=>[(43,I g.j),(14,g.sv),(15,g.mv)]) (fun g=>[own TLs g.sv ((dl.take g.j).map fun i=>ss.getD i nS),oww TRt 3 g.mv g.j (rcs ((dl.take g.j).map fun i=>(fracs L D).getD i 0) ((dl.take g.j).map fun i=>hs.getD i nS2))]) (fun g=>g.j ≤ n∧g.sv.oneCell' = true∧g.mv.oneCell' = true) (fun g=>n - g.j) ⟨0,nS,nS⟩ [4,5,7,12,41,42] ⟨Nat.zero_le _,rfl,rfl⟩ ?_
   rintro ⟨i,sv,mv⟩ ⟨hi,hsv,hmv⟩
   dsimp only at hi hsv hmv ⊢
   by_cases hlt:i < n
   ·have hi0:dl.getD i 0 < L.length:=hdb _ (by rw [List.getD_eq_getElem?_getD,List.getElem?_eq_getElem (by omega)];exact List.getElem_mem (by omega))
    have hg1:=hxg i hlt
    have htk:=take_succ' (show i < dl.length by omega) 0
    have hrow:=hrowA _ hi0
    have hs1:=hso _ hi0
    have hf1:=hfo _ hi0
    have htl:(dl.take i).length = i:=by rw [List.length_take];omega
    clear hrowA hso hfo hxg hW hw1 hqF hfg
    obtain ⟨m,hm⟩ : ∃ m,m = dl.getD i 0:=⟨_,rfl⟩
    rw [← hm] at hi0 hg1 htk hrow hs1 hf1
    clear hm
    have hcell:xs4[4 * m]? = some (ss.getD m nS):=row_cell hrow (i:=0) (by decide) rfl
    have hsub:(xs4.drop (4 * m + 1)).take 3 = rrow ((fracs L D).getD m 0) (hs.getD m nS2):=row_sub hrow rfl
    have hra:rcs ((dl.take (i + 1)).map fun i=>(fracs L D).getD i 0) ((dl.take (i + 1)).map fun i=>hs.getD i nS2) = rcs ((dl.take i).map fun i=>(fracs L D).getD i 0) ((dl.take i).map fun i=>hs.getD i nS2) ++ rrow ((fracs L D).getD m 0) (hs.getD m nS2):=by
     rw [htk,List.map_append,List.map_append,rcs_app (by simp),List.map_singleton,List.map_singleton,rcs_one]
    have hsa:((dl.take (i + 1)).map fun i=>ss.getD i nS) = ((dl.take i).map fun i=>ss.getD i nS) ++ [ss.getD m nS]:=by rw [htk,List.map_append];rfl
    have hsal:((dl.take i).map fun i=>ss.getD i nS).length ≤ 12:=by rw [List.length_map];omega
    generalize ((dl.take i).map fun i=>ss.getD i nS) = sl at *
    generalize rcs ((dl.take i).map fun i=>(fracs L D).getD i 0) ((dl.take i).map fun i=>hs.getD i nS2) = rl at *
    generalize hs.getD m nS2 = h1 at *
    generalize (fracs L D).getD m 0 = q1 at *
    generalize ss.getD m nS = s1 at *
    obtain ⟨hn1,hd1⟩:=h1
    dsimp only at hf1
    repeat' first|refine lie hg1 ?_|(refine wo ?_;first|(refine ao ?_;first|refine oa ?_)|refine oa ?_|refine ixmn ?_)|(refine gc ?_;first|(refine ci (fun hB=>?_) (fun hB=>?_) <;> try (exfalso;omega)))|refine sq ?_|refine rg ?_|refine xc ?_|refine nl ?_|refine sk ?_|refine bk ?_
    refine rs (fun w=>w.heap[c4]? = some (.cells [lv].toArray TSm (0,0))∧SlW w lv L.length xs4) ?_ (fun w hw=>⟨lpt_at memA hw,has_wf memA hw⟩)
    refine kra 0 ?_
    refine krl 1 (cs:=[lv]) (fun w h=>h.1) ?_
    refine kra 2 ?_
    refine kr 3 (v:=.pointer (some (adr lv (4 * m)))) (fun w h=>R_idxW (E:=env) (i:=(m:Int)) rfl rfl rfl rfl h.2 ⟨by omega,by omega⟩) ?_
    refine kr 4 (v:=.pointer (some (adr lv (4 * m + 0)))) (fun w h=>R_fldW (E:=env) (m:=4 * m) (fld:=⟨_,_,0,_,_,_,_⟩) rfl rfl rfl rfl rfl) ?_
    refine kr 5 (v:=s1) (fun w h=>R_load (E:=env) rfl rfl rfl (SlW.cell h.2 hcell)) ?_
    refine kra 8 ?_
    refine krl 9 (cs:=[lv]) (fun w h=>h.1) ?_
    refine kra 10 ?_
    refine kr 11 (v:=.pointer (some (adr lv (4 * m)))) (fun w h=>R_idxW (E:=env) (i:=(m:Int)) rfl rfl rfl rfl h.2 ⟨by omega,by omega⟩) ?_
    refine kr 12 (v:=.pointer (some (adr lv (4 * m + 1)))) (fun w h=>R_fldW (E:=env) (m:=4 * m) (fld:=⟨_,_,1,_,_,_,_⟩) rfl rfl rfl rfl rfl) ?_
    refine kr 13 (v:=.agg (rrow q1 (hn1,hd1)).toArray) (fun w h=>R_loadW (E:=env) rfl rfl rfl rfl h.2 hsub rfl) ?_
    refine t2 6 14 ?_ ?_
    ·refine sli (vs:=[s1]) (fun g1=>?_) (h1:=one_cons hs1 one_nil)
     refine nl ?_
     refine te (fun w hw=>⟨lpt_at memA hw,has_wf memA hw⟩) ?_
     refine t2 7 14 ?_ ?_
     ·refine ap (xs:=sl) (news:=[s1]) (fun o1=>?_) (h1:=one_cons hs1 one_nil)
      refine TO.one (v:=o1) (xs:=sl ++ [s1]) fun ho1=>?_
      refine nl ?_
      refine te (fun w hw=>⟨lpt_at memA hw,has_wf memA hw⟩) ?_
      refine t1 14 ?_
      refine slws (sz:=3) (xs:=rrow q1 (hn1,hd1)) (fun g2=>?_)
      refine nl ?_
      refine te (fun w hw=>⟨lpt_at memA hw,has_wf memA hw⟩) ?_
      refine t1 15 ?_
      refine apw (sz:=3) (M:=1) (N:=i) (xs:=rl) (ys:=rrow q1 (hn1,hd1)) (by decide) rfl (one_cons rfl (one_cons hf1.1 (one_cons hf1.2 one_nil))) (fun o2 ho2=>?_) (hu:=has_oww memA)
      refine nl ?_
      refine te (fun w hw=>⟨lpt_at memA hw,has_wf memA hw⟩) ?_
      refine kra 16 ?_
      refine kra 17 ?_
      refine t0 ?_
      repeat' first|(refine wo ?_;first|(refine ao ?_;first|refine aw ?_)|refine oa ?_)|refine rg ?_|refine xc ?_|refine nl ?_|refine xb ?_
      exact lp ⟨i + 1,o1,o2⟩ ⟨hlt,ho1,ho2⟩ (hf:=by dsimp only;rw [hsa,hra];exact fitA)
     ·refine slws (sz:=3) (xs:=rrow q1 (hn1,hd1)) (fun g2=>?_)
      refine nl ?_
      refine te (fun w hw=>⟨lpt_at memA hw,has_wf memA hw⟩) ?_
      refine t1 7 ?_
      refine ap (xs:=sl) (news:=[s1]) (fun o1=>?_) (h1:=one_cons hs1 one_nil)
      refine TO.one (v:=o1) (xs:=sl ++ [s1]) fun ho1=>?_
      refine nl ?_
      refine te (fun w hw=>⟨lpt_at memA hw,has_wf memA hw⟩) ?_
      refine t1 15 ?_
      refine apw (sz:=3) (M:=1) (N:=i) (xs:=rl) (ys:=rrow q1 (hn1,hd1)) (by decide) rfl (one_cons rfl (one_cons hf1.1 (one_cons hf1.2 one_nil))) (fun o2 ho2=>?_) (hu:=has_oww memA)
      refine nl ?_
      refine te (fun w hw=>⟨lpt_at memA hw,has_wf memA hw⟩) ?_
      refine kra 16 ?_
      refine kra 17 ?_
      refine t0 ?_
      repeat' first|(refine wo ?_;first|(refine ao ?_;first|refine aw ?_)|refine oa ?_)|refine rg ?_|refine xc ?_|refine nl ?_|refine xb ?_
      exact lp ⟨i + 1,o1,o2⟩ ⟨hlt,ho1,ho2⟩ (hf:=by dsimp only;rw [hsa,hra];exact fitA)
    ·refine slws (sz:=3) (xs:=rrow q1 (hn1,hd1)) (fun g2=>?_)
     refine nl ?_
     refine te (fun w hw=>⟨lpt_at memA hw,has_wf memA hw⟩) ?_
     refine t1 6 ?_
     refine sli (vs:=[s1]) (fun g1=>?_) (h1:=one_cons hs1 one_nil)
     refine nl ?_
     refine te (fun w hw=>⟨lpt_at memA hw,has_wf memA hw⟩) ?_
     refine t1 7 ?_
     refine ap (xs:=sl) (news:=[s1]) (fun o1=>?_) (h1:=one_cons hs1 one_nil)
     refine TO.one (v:=o1) (xs:=sl ++ [s1]) fun ho1=>?_
     refine nl ?_
     refine te (fun w hw=>⟨lpt_at memA hw,has_wf memA hw⟩) ?_
     refine t1 15 ?_
     refine apw (sz:=3) (M:=1) (N:=i) (xs:=rl) (ys:=rrow q1 (hn1,hd1)) (by decide) rfl (one_cons rfl (one_cons hf1.1 (one_cons hf1.2 one_nil))) (fun o2 ho2=>?_) (hu:=has_oww memA)
     refine nl ?_
     refine te (fun w hw=>⟨lpt_at memA hw,has_wf memA hw⟩) ?_
     refine kra 16 ?_
     refine kra 17 ?_
     refine t0 ?_
     repeat' first|(refine wo ?_;first|(refine ao ?_;first|refine aw ?_)|refine oa ?_)|refine rg ?_|refine xc ?_|refine nl ?_|refine xb ?_
     exact lp ⟨i + 1,o1,o2⟩ ⟨hlt,ho1,ho2⟩ (hf:=by dsimp only;rw [hsa,hra];exact fitA)
   ·obtain rfl:i = n:=by omega
    rw [List.take_of_length_le (show dl.length ≤ i by omega)]
    have hsel:selS L dl = dl.map fun i=>(L.map (·.1)).getD i []:=by
     unfold selS
     exact List.map_congr_left fun a ha=>(fst_get (hdb a ha)).symm
    have hqs:(dl.map fun i=>(fracs L D).getD i 0) = dl.map fun i=>mkRat (((L.getD i ([],0)).2:Nat):Int) D:=List.map_congr_left fun a ha=>hfg a (hdb a ha)
    have hprod:(dl.map fun i=>(fracs L D).getD i 0).foldl (· * ·) 1 = mkRat ((prdW L dl:Nat):Int) (D ^ i):=by rw [hqs,prod_mk hD0,hdn]
    have hMul:=fun o=>FMul_tr o (dl.map fun i=>(fracs L D).getD i 0) (dl.map fun i=>hs.getD i nS2) (by simp) (fun a ha=>by
     have ha':a < dl.length:=by simpa using ha
     rw [show (dl.map fun i=>(fracs L D).getD i 0).getD a 0 = (fracs L D).getD (dl.getD a 0) 0 by simp [List.getD_eq_getElem?_getD,ha']]
     exact hqF _ (hdb _ (by rw [List.getD_eq_getElem?_getD,List.getElem?_eq_getElem ha'];exact List.getElem_mem ha'))) (fun a ha=>by
     have ha':a < dl.length:=by simpa using ha
     rw [hqs,← List.map_take,prod_mk hD0,List.length_take,Nat.min_eq_left (by omega)]
     have hpl:=prdW_le hwb (dl.take a)
     rw [List.length_take,Nat.min_eq_left (by omega)] at hpl
     exact FB_pow hD0 hD (by omega) (by omega))
    rw [List.length_map,hdn,hprod] at hMul
    have hFt:FB (mkRat ((prdW L dl:Nat):Int) (D ^ i)) 8589934592:=by
     have hpl:=prdW_le hwb dl
     rw [hdn] at hpl
     exact FB_pow hD0 hD (by omega) (by omega)
    have hWs:=hW sv dl hdn hdb
    have hAdd:=fun v1 v2 v3 v4 h1 h2 h3 h4=>sumAdd_tr c10 (ac j) (mkRat ((prdW L dl:Nat):Int) (D ^ i)) v1 v2 v3 v4 h1 h2 h3 h4 hFj hFt
    have hpk:∀ F,velg I ss (L.map (·.1)) ∈ F→Has F (vels (dl.map fun i=>ss.getD i nS) (selS L dl)):=fun F h=>by
     rw [hsel];exact has_velsI (has_pick (has_velg h) dl fun a ha=>by simpa using hdb a ha)
    have hpf:∀ F,vfr hs (fracs L D) ∈ F→Has F (vfr (dl.map fun i=>hs.getD i nS2) (dl.map fun i=>(fracs L D).getD i 0)):=fun F h=>has_fpick (has_velg h) (by rw [hfl];exact hhs) dl fun a ha=>by rw [hfl];exact hdb a ha
    unfold FQ2 at hMul
    unfold tupN at hSj
    clear hrowA hso hfo hxg hW hw1 hqF hfg hsel hqs hprod hwb hFj hFt hD
    generalize selS L dl = sl at *
    generalize (dl.map fun i=>ss.getD i nS) = s1 at *
    generalize (dl.map fun i=>hs.getD i nS2) = f1 at *
    generalize (dl.map fun i=>(fracs L D).getD i 0) = f2 at *
    by_cases hwt:W sl = true
    ·rw [hwt] at hWs
     rw [if_pos hwt] at hSj
     generalize mkRat ((prdW L dl:Nat):Int) (D ^ i) = q1 at *
     repeat' first|(refine gca ?_;first|(refine ca (hMul mv) ?_ (hp:=has1 (has_oww memA) (has1 (hpf _ memA) has0));rintro _ _ ⟨mn,md,rfl,hmn,hmd,rfl⟩))|(refine cav (cap:=#[]) (vs:=[I k,sv]) hWs ?_ (hp:=has1 hasA (has1 (hpk _ memA) has0));rintro _ _ ⟨rfl,rfl⟩)|refine al fun c18=>?_|refine srz ?_ (hj:=Nat.le_of_ble_eq_true rfl)|refine lda ?_|(refine cav (cap:=#[ptr c10]) (vs:=[rv q1 mn md]) (hAdd vn vd mn md hvn hvd hmn hmd) ?_;rintro _ _ ⟨n1,n2,rfl,hn1,hn2,rfl⟩)|(refine wo ?_;first|(refine ao ?_;first|refine oa ?_)|refine oa ?_|refine ldl ?_)|(refine gc ?_;first|refine ct ?_|(refine ci (fun hB=>?_) (fun hB=>?_) <;> try (exfalso;omega)))|refine sq ?_|refine rg ?_|refine xc ?_|refine nl ?_|refine xe ?_|refine xb ?_
     rw [hSj]
     exact yn ⟨⟨j + 1,n1,n2⟩,rfl,.inl ⟨rfl,rfl,hn1,hn2⟩⟩
    ·have hwf:W sl = false:=by simpa using hwt
     rw [hwf] at hWs
     rw [if_neg hwt,show mkRat ((0:Nat):Int) (D ^ i) = 0 by simp,Rat.add_zero] at hSj
     rw [hSj]
     repeat' first|(refine cav (cap:=#[]) (vs:=[I k,sv]) hWs ?_ (hp:=has1 hasA (has1 (hpk _ memA) has0));rintro _ _ ⟨rfl,rfl⟩)|(refine wo ?_;first|(refine ao ?_;first|refine oa ?_)|refine oa ?_|refine ldl ?_)|(refine gc ?_;first|refine cf ?_|(refine ci (fun hB=>?_) (fun hB=>?_) <;> try (exfalso;omega)))|refine sq ?_|refine rg ?_|refine xc ?_|refine nl ?_|refine sk ?_|refine xe ?_|refine xb ?_
     exact yn ⟨⟨j + 1,vn,vd⟩,rfl,.inl ⟨rfl,rfl,hvn,hvd⟩⟩
  ·rintro _ _ ⟨⟨j,vn,vd⟩,rfl,⟨rfl,g2,g3⟩ | h⟩
   ·exact ⟨_,rfl,.ready,none,_,rfl,by decide,vn,vd,by rw [hM],rfl,g2,g3⟩
   ·exact h.elim
 ·rintro l2 rec Dm pend B' ⟨vn,vd,rfl,rfl,g2,g3⟩
  show TX env _ _ _ _ _ _
  refine TX.im (dfrl_nil _) ?_
  refine TX.im (dfrl_push (D:=Dm) (Ds:=[]) fitA) ?_
  rw [← hM]
  generalize ac M = q at *
  repeat' first|refine lda (cs:=rrow q (vn,vd)) ?_|refine srz ?_|(refine wo ?_;first|refine oa ?_)|refine sq ?_|refine rg ?_|refine xc ?_|refine nl ?_|refine rt ?_|refine xb ?_
  exact mca (Ds:=[Dm]) (cs:=rrow q (vn,vd)) (vs:=rrow q (vn,vd)) (T:=TRt) ⟨vn,vd,rfl,g2,g3,rfl⟩
end Go.Art
namespace Go.Art
open Go Go.Proofs Go.RowKit
theorem bnd_swap {X:Ch} {C:List Ch} {w:World}:Sat [X,Go.Art.bnd C] w ↔ Sat (C ++ [X]) w:=
 ⟨fun h=>bnd_sat.1 (h.perm (List.Perm.swap _ _ _)),fun h=>(bnd_sat.2 h).perm (List.Perm.swap _ _ _)⟩
theorem bnd_wr2 {X:Ch} {C:List Ch} {b:Nat}:wrs [X,Go.Art.bnd C] b ↔ wrs (C ++ [X]) b:=by
 rw [← bnd_wrs]
 constructor
 ·rintro ⟨c,hc,h⟩
  exact ⟨c,by simp only [List.mem_cons,List.not_mem_nil,or_false] at hc ⊢;exact hc.symm,h⟩
 ·rintro ⟨c,hc,h⟩
  exact ⟨c,by simp only [List.mem_cons,List.not_mem_nil,or_false] at hc ⊢;exact hc.symm,h⟩
theorem bnd_rd2 {X:Ch} {C:List Ch} {b:Nat}:rds [X,Go.Art.bnd C] b ↔ rds (C ++ [X]) b:=by
 rw [← bnd_rds]
 constructor
 ·rintro ⟨c,hc,h⟩
  exact ⟨c,by simp only [List.mem_cons,List.not_mem_nil,or_false] at hc ⊢;exact hc.symm,h⟩
 ·rintro ⟨c,hc,h⟩
  exact ⟨c,by simp only [List.mem_cons,List.not_mem_nil,or_false] at hc ⊢;exact hc.symm,h⟩
theorem Ty.bndX {P:Program} {l:Nat} {vs:List Value} {X:Ch} {pre C:List Ch} {R:Bool→List Ch→Prop} (h:Ty P l vs pre (C ++ [X]) fun b D=>R b [Go.Art.bnd D]):Ty P l vs pre [X,Go.Art.bnd C] R:=by
 refine ⟨fun w hw=>?_,h.lent⟩
 have h1:Sat (pre ++ (C ++ [X])) w:=by
  obtain ⟨a1,a2,a3⟩:=Sat.app.1 hw
  refine Sat.app.2 ⟨a1,bnd_swap.1 a2,fun a ha c hc=>?_⟩
  rcases List.mem_append.1 hc with hc | hc
  ·have a5:=a3 a ha (Go.Art.bnd C) (by simp)
   exact ⟨fun b hb hf=>a5.1 b hb (bnd_ft.2 ⟨c,hc,hf⟩),fun b hb hf=>a5.2 b ⟨c,hc,hb⟩ hf⟩
  ·rw [List.mem_singleton.1 hc];exact a3 a ha X (List.Mem.head _)
 have e1:∀ {D:List Ch} {b:Nat},wrs [Go.Art.bnd D] b ↔ wrs D b:=fun {D b}=>by have:=bnd_wrs (C:=D) (F:=[]) (b:=b);rwa [List.append_nil] at this
 have e2:∀ {D:List Ch} {b:Nat},rds [Go.Art.bnd D] b ↔ rds D b:=fun {D b}=>by have:=bnd_rds (C:=D) (F:=[]) (b:=b);rwa [List.append_nil] at this
 refine (h.run w h1).mono fun b w' ⟨B,hR,hS,hM,hB⟩=>⟨[Go.Art.bnd B],hR,bnd_sat.2 (by rw [List.append_nil];exact hS),⟨hM.os,hM.tape,hM.output,hM.size,fun k hk hn=>hM.block k hk fun hm=>hn (bnd_wr2.2 hm),fun x hx=>?_,fun x hx=>?_⟩,fun c hc x hx=>?_⟩
 ·rcases hM.wr x (e1.1 hx) with h2 | h2
  ·exact .inl (bnd_wr2.2 h2)
  ·exact .inr h2
 ·rcases hM.rd x (e2.1 hx) with h2 | h2 | h2
  ·exact .inl (bnd_wr2.2 h2)
  ·exact .inr (.inl (bnd_rd2.2 h2))
  ·exact .inr (.inr h2)
 ·obtain rfl:=List.mem_singleton.1 hc
  obtain ⟨y,hy,h2⟩:=hx
  exact hB y hy x h2
structure SeqO (P:Program) (f:FuncId) (cap:Array Value) (T:TypeId) (pre:List Ch) (L:List (List Int)):Prop where
 run:∀ {α:Type} (l:Nat) (J:α→Ch) (pl:α→Nat→Prop) (S:α→Prop) (a0:α),pl a0 0→(∀ a b,¬ (J a).bd b) →
  (∀ a i x,x.oneCell' = true→pl a i→i < L.length→Ty P l [x] [] [own T x (Is (L.getD i [])),J a] fun ok B=>∃ a',B = [J a']∧((ok = true∧pl a' (i + 1))∨(ok = false∧S a'))) →
  Tr P f (yv l :: cap.toList) pre [J a0] fun _ B=>∃ a,B = [J a]∧(pl a L.length∨S a)
 lent:∀ c ∈ pre,∀ b,¬ c.wr b∧¬ c.rd b
open Go Go.Proofs Go.RowKit
attribute [local irreducible] Fit pt own ro vw mpc lpt vels rels mow lrc dfr
attribute [local irreducible] lmp lme mit velg relg bnd owl dfrl
theorem of_tr (v:Value) (k f d:Int) (hv:v.oneCell' = true):Tr Tryz.prog 73 [I k,I f,I d,v] [] [] fun u D=>∃ pd ps pf pk,u = .func (.func 126) #[] #[ptr pd,ptr ps,ptr pf,ptr pk]∧D = [pt ps [v] TLs,pt pd [I d] TLI,pt pf [I f] TLI,pt pk [I k] TLI]:=by
 refine Tr.enter env _ Tryz.func73 (by kernel_rfl) rfl Tryz.ntmps73 rfl (by repeat (first | exact has00 | refine has01 ?_)) fun w0=>?_
 repeat' first|refine bx1 fun b=>?_|(refine wo ?_;first|refine oa ?_)|refine sq ?_|refine rg ?_|refine xc ?_|refine nl ?_|refine rt ?_
 exact r1 ⟨_,_,_,_,rfl,rfl⟩
theorem of1_seq:∀ (d f k:Nat) (b:List Int) (pd ps pf pk:Nat) (v:Value),k ≤ 65536→f ≤ 65537→b.length + d ≤ 100000→v.oneCell' = true→SeqO Tryz.prog 126 #[ptr pd,ptr ps,ptr pf,ptr pk] TLI [lpt pd [I d] TLI,lpt ps [v] TLs,lpt pf [I f] TLI,lpt pk [I k] TLI,vw v (Is b)] (risL d f k b)
 | 0,f,k,b,pd,ps,pf,pk,v,hk,hf,hb,hv=>by
  refine ⟨fun {α} l J pl S a0 h0 hnb hy=>?_,by repeat (first | exact has00 | refine has01 ?_)⟩
  haveI:∀ a,NoB (J a):=fun a=>⟨hnb a⟩
  have h1:=fun x hx=>hy a0 0 x hx h0 (by simp [risL])
  rw [show (risL 0 f k b).getD 0 [] = b from rfl] at h1
  refine Tr.enterM env _ Tryz.func126 (by kernel_rfl) rfl Tryz.ntmps126 rfl (by repeat (first | exact has00 | refine has01 ?_)) fun w0=>?_
  repeat' first|refine bx1 fun q=>?_|(refine wo ?_;first|(refine ao ?_;first|refine oa ?_)|refine ldl ?_)|(refine gc ?_;first|refine ct ?_)|refine sq ?_|refine rg ?_|refine xc ?_|refine nl ?_
  refine rs (fun w=>w.heap[q]? = some (.cells [yv l].toArray TYl (0,0))∧w.heap[ps]? = some (.cells [v].toArray TLs (0,0))) ?_ (fun w hw=>⟨pt_at memA hw,lpt_at memA hw⟩)
  refine tkl 0 (cs:=[yv l]) (fun w h=>h.1) ?_
  refine tkl 1 (cs:=[v]) (fun w h=>h.2) ?_
  refine t1 2 ?_
  refine ca (ICloneN_tr v b (by omega)) ?_
  rintro x _ ⟨hx,rfl⟩
  refine nl ?_
  refine te (fun w hw=>⟨pt_at memA hw,lpt_at memA hw⟩) ?_
  refine t1 3 ?_
  refine cy (h1 x hx) ?_
  rintro ok _ ⟨a1,rfl,hs⟩
  refine nl ?_
  refine te (fun w hw=>⟨pt_at memA hw,lpt_at memA hw⟩) ?_
  refine t0 ?_
  repeat' first|refine xc ?_|refine rt ?_
  refine TX.im (dfrl_nil _) ?_
  exact m0 (Ds:=[]) ⟨a1,rfl,hs.imp (·.2) (·.2)⟩
 | d + 1,f,k,b,pd,ps,pf,pk,v,hk,hf,hb,hv=>by
  refine ⟨fun {α} l J pl S a0 h0 hnb hy=>?_,by repeat (first | exact has00 | refine has01 ?_)⟩
  haveI:∀ a,NoB (J a):=fun a=>⟨hnb a⟩
  refine Tr.enterM env _ Tryz.func126 (by kernel_rfl) rfl Tryz.ntmps126 rfl (by repeat (first | exact has00 | refine has01 ?_)) fun w0=>?_
  repeat' first|refine bx1 fun q=>?_|(refine wo ?_;first|(refine ao ?_;first|refine oa ?_)|refine oa ?_|refine ldl ?_)|(refine gc ?_;first|refine cf ?_)|refine sq ?_|refine rg ?_|refine xc ?_|refine nl ?_|refine sk ?_|refine bk ?_
  refine TC.im (dfrl_nil _) ?_
  refine TC.loopD (ι:=EnG α) (fun g=>g.Ds) (fun g=>[(6,I ((f + g.i:Nat):Int))]) (fun g=>[dfrl g.Ds,pt q [yv l] TYl,J g.a]) (fun g=>g.i ≤ k - d - f∧pl g.a ((List.range g.i).flatMap fun j:Nat=>risL d (f + j + 1) k (b ++ [((f + j:Nat):Int)])).length) (fun g=>k - d - f - g.i) ⟨0,a0,[]⟩ [1,2,3,4,5] ⟨Nat.zero_le _,h0⟩ ?_
  rintro ⟨i,a,Ds⟩ ⟨hi,ha⟩
  dsimp only at hi ha ⊢
  by_cases hlt:i < k - d - f
  ·have ih:=fun pd ps pf pk v hv=>of1_seq d (f + i + 1) k (b ++ [((f + i:Nat):Int)]) pd ps pf pk v hk (by omega) (by simp;omega) hv
   have hg:=fun j (hj:j < (risL d (f + i + 1) k (b ++ [((f + i:Nat):Int)])).length)=>fm_get (fun j:Nat=>risL d (f + j + 1) k (b ++ [((f + j:Nat):Int)])) hlt hj []
   have hE:=fun v hv=>of_tr v (k:Int) ((f + i + 1:Nat):Int) (d:Int) hv
   have hlen:=fm_len (fun j:Nat=>risL d (f + j + 1) k (b ++ [((f + j:Nat):Int)])) i
   have hbl:b.length + 1 ≤ 17592186044416:=by omega
   have hdb:d ≤ 100000:=by omega
   clear hb
   repeat' first|(refine wo ?_;first|(refine ao ?_;first|refine aw ?_|refine oa ?_)|refine oa ?_|refine ldl ?_)|(refine gc ?_;first|(refine ci (fun hB=>?_) (fun hB=>?_) <;> try (exfalso;omega)))|refine sq ?_|refine rg ?_|refine xc ?_|refine nl ?_|refine sk ?_|refine bk ?_
   refine rs (fun w=>w.heap[ps]? = some (.cells [v].toArray TLs (0,0))∧w.heap[pk]? = some (.cells [I k].toArray TLI (0,0))∧w.heap[pd]? = some (.cells [I ((d + 1:Nat):Int)].toArray TLI (0,0))) ?_ (fun w hw=>⟨lpt_at memA hw,lpt_at memA hw,lpt_at memA hw⟩)
   refine tkl 0 (cs:=[I k]) (fun w h=>h.2.1) ?_
   refine tka 1 ?_
   refine tkw 2 ((f + i + 1:Nat):Int) ?_
   refine tkl 3 (cs:=[I ((d + 1:Nat):Int)]) (fun w h=>h.2.2) ?_
   refine tkw 4 (d:Int) ?_
   refine tkl 5 (cs:=[v]) (fun w h=>h.1) ?_
   refine tka 7 ?_
   refine t2 6 8 ?_ ?_
   ·refine ca (Clip_tr v b) ?_
    rintro _ _ ⟨rfl,rfl⟩
    refine nl ?_
    refine te (fun w hw=>⟨lpt_at memA hw,lpt_at memA hw,lpt_at memA hw⟩) ?_
    refine t1 8 ?_
    refine slii [((f + i:Nat):Int)] fun v1=>?_
    refine nl ?_
    refine te (fun w hw=>⟨lpt_at memA hw,lpt_at memA hw,lpt_at memA hw⟩) ?_
    refine t1 9 ?_
    refine apc (v:=v) (l:=b) (news:=[((f + i:Nat):Int)]) (fun v2 hv2=>?_)
    refine nl ?_
    refine te (fun w hw=>⟨lpt_at memA hw,lpt_at memA hw,lpt_at memA hw⟩) ?_
    refine t1 10 ?_
    refine ca (hE v2 hv2) ?_
    rintro _ _ ⟨pd2,ps2,pf2,pk2,rfl,rfl⟩
    refine nl ?_
    refine te (fun w hw=>⟨lpt_at memA hw,lpt_at memA hw,lpt_at memA hw⟩) ?_
    refine t0 ?_
    repeat' first|refine xc ?_|refine bk ?_
    have hS:=@SeqO.run _ _ _ _ _ _ (ih pd2 ps2 pf2 pk2 v2 hv2)
    clear ih hE
    refine TC.range [lpt pd2 [I d] TLI,lpt ps2 [v2] TLs,lpt pf2 [I ((f + i + 1:Nat):Int)] TLI,lpt pk2 [I k] TLI,vw v2 (Is (b ++ [((f + i:Nat):Int)]))] [pt q [yv l] TYl,J a] (fun l2 rec Dm pend B'=>∃ a',B' = [dfr Dm,pt q [yv l] TYl,J a']∧((pend = none∧pl a' ((List.range (i + 1)).flatMap fun j:Nat=>risL d (f + j + 1) k (b ++ [((f + j:Nat):Int)])).length)∨(pend = some .ret∧S a'))) ?_ ?_
    ·intro rec l2 Dm hr
     refine Tr.unb (hS (α:=α × Bool) l2 (fun p=>bnd [lrc l2 rec (bif p.2 then .done else .ready) (bif p.2 then some .ret else none),dfr Dm,pt q [yv l] TYl,J p.1]) (fun p j=>p.2 = false∧pl p.1 (((List.range i).flatMap fun j:Nat=>risL d (f + j + 1) k (b ++ [((f + j:Nat):Int)])).length + j)) (fun p=>p.2 = true∧S p.1) (a,false) ⟨rfl,ha⟩ (fun p=>bnd_nob (nb1 (nb1 (nb1 (nb1 nb0))))) ?_) ?_
     ·rintro ⟨a1,s⟩ j x hx ⟨hs1,hpl⟩ hj
      dsimp only at hs1 hpl
      subst hs1
      obtain ⟨hg1,hg2⟩:=hg j hj
      have h2:=hy a1 _ x hx hpl hg1
      rw [show (risL (d + 1) f k b).getD _ [] = (risL d (f + i + 1) k (b ++ [((f + i:Nat):Int)])).getD j [] from hg2] at h2
      refine Ty.bndX ?_
      generalize (risL d (f + i + 1) k (b ++ [((f + i:Nat):Int)])).getD j [] = row at *
      show Ty _ _ _ _ (lrc l2 rec .ready none :: [dfr Dm,pt q [yv l] TYl,J a1,own TLI x (Is row)]) _
      refine Ty.intro env hr (by repeat (first | exact has00 | refine has01 ?_)) fun w1=>?_
      repeat' first|refine xbeg ?_|(refine cy h2 ?_;rintro ok _ ⟨a2,rfl,⟨rfl,h3⟩ | ⟨rfl,h3⟩⟩)|(refine wo ?_;first|refine oa ?_|refine ld ?_)|(refine gc ?_;first|refine ct ?_|refine cf ?_)|refine sq ?_|refine rg ?_|refine xc ?_|refine nl ?_|refine sk ?_|refine bk ?_|refine rt ?_|refine xb ?_
      ·exact yn ⟨(a2,false),rfl,.inl ⟨rfl,rfl,h3⟩⟩
      ·exact yr ⟨(a2,true),rfl,.inr ⟨rfl,rfl,h3⟩⟩
     ·rintro _ _ ⟨⟨a1,s⟩,rfl,⟨hs1,h3⟩ | ⟨hs1,h3⟩⟩
      ·dsimp only at hs1 h3
       subst hs1
       exact ⟨_,rfl,.ready,none,_,rfl,by decide,a1,rfl,.inl ⟨rfl,by rw [hlen];exact h3⟩⟩
      ·dsimp only at hs1 h3
       subst hs1
       exact ⟨_,rfl,.done,some .ret,_,rfl,by decide,a1,rfl,.inr ⟨rfl,h3⟩⟩
    ·rintro l2 rec Dm pend B' ⟨a1,rfl,⟨rfl,h3⟩ | ⟨rfl,h3⟩⟩
     ·show TX env _ _ _ _ _ _
      refine TX.im (dfrl_push (D:=Dm) (Ds:=Ds) fitA) ?_
      repeat' first|(refine wo ?_;first|(refine ao ?_;first|refine aw ?_)|refine oa ?_)|refine rg ?_|refine xc ?_|refine nl ?_|refine xb ?_
      exact lpD ⟨i + 1,a1,Dm :: Ds⟩ ⟨hlt,h3⟩
     ·show TC env _ _ _ _ _ _
      refine TC.im (dfrl_push (D:=Dm) (Ds:=Ds) fitA) ?_
      repeat' first|refine rt ?_
      exact m0 (Ds:=Dm :: Ds) ⟨a1,rfl,.inr h3⟩
   ·refine slii [((f + i:Nat):Int)] fun v1=>?_
    refine nl ?_
    refine te (fun w hw=>⟨lpt_at memA hw,lpt_at memA hw,lpt_at memA hw⟩) ?_
    refine t1 6 ?_
    refine ca (Clip_tr v b) ?_
    rintro _ _ ⟨rfl,rfl⟩
    refine nl ?_
    refine te (fun w hw=>⟨lpt_at memA hw,lpt_at memA hw,lpt_at memA hw⟩) ?_
    refine t1 9 ?_
    refine apc (v:=v) (l:=b) (news:=[((f + i:Nat):Int)]) (fun v2 hv2=>?_)
    refine nl ?_
    refine te (fun w hw=>⟨lpt_at memA hw,lpt_at memA hw,lpt_at memA hw⟩) ?_
    refine t1 10 ?_
    refine ca (hE v2 hv2) ?_
    rintro _ _ ⟨pd2,ps2,pf2,pk2,rfl,rfl⟩
    refine nl ?_
    refine te (fun w hw=>⟨lpt_at memA hw,lpt_at memA hw,lpt_at memA hw⟩) ?_
    refine t0 ?_
    repeat' first|refine xc ?_|refine bk ?_
    have hS:=@SeqO.run _ _ _ _ _ _ (ih pd2 ps2 pf2 pk2 v2 hv2)
    clear ih hE
    refine TC.range [lpt pd2 [I d] TLI,lpt ps2 [v2] TLs,lpt pf2 [I ((f + i + 1:Nat):Int)] TLI,lpt pk2 [I k] TLI,vw v2 (Is (b ++ [((f + i:Nat):Int)]))] [pt q [yv l] TYl,J a] (fun l2 rec Dm pend B'=>∃ a',B' = [dfr Dm,pt q [yv l] TYl,J a']∧((pend = none∧pl a' ((List.range (i + 1)).flatMap fun j:Nat=>risL d (f + j + 1) k (b ++ [((f + j:Nat):Int)])).length)∨(pend = some .ret∧S a'))) ?_ ?_
    ·intro rec l2 Dm hr
     refine Tr.unb (hS (α:=α × Bool) l2 (fun p=>bnd [lrc l2 rec (bif p.2 then .done else .ready) (bif p.2 then some .ret else none),dfr Dm,pt q [yv l] TYl,J p.1]) (fun p j=>p.2 = false∧pl p.1 (((List.range i).flatMap fun j:Nat=>risL d (f + j + 1) k (b ++ [((f + j:Nat):Int)])).length + j)) (fun p=>p.2 = true∧S p.1) (a,false) ⟨rfl,ha⟩ (fun p=>bnd_nob (nb1 (nb1 (nb1 (nb1 nb0))))) ?_) ?_
     ·rintro ⟨a1,s⟩ j x hx ⟨hs1,hpl⟩ hj
      dsimp only at hs1 hpl
      subst hs1
      obtain ⟨hg1,hg2⟩:=hg j hj
      have h2:=hy a1 _ x hx hpl hg1
      rw [show (risL (d + 1) f k b).getD _ [] = (risL d (f + i + 1) k (b ++ [((f + i:Nat):Int)])).getD j [] from hg2] at h2
      refine Ty.bndX ?_
      generalize (risL d (f + i + 1) k (b ++ [((f + i:Nat):Int)])).getD j [] = row at *
      show Ty _ _ _ _ (lrc l2 rec .ready none :: [dfr Dm,pt q [yv l] TYl,J a1,own TLI x (Is row)]) _
      refine Ty.intro env hr (by repeat (first | exact has00 | refine has01 ?_)) fun w1=>?_
      repeat' first|refine xbeg ?_|(refine cy h2 ?_;rintro ok _ ⟨a2,rfl,⟨rfl,h3⟩ | ⟨rfl,h3⟩⟩)|(refine wo ?_;first|refine oa ?_|refine ld ?_)|(refine gc ?_;first|refine ct ?_|refine cf ?_)|refine sq ?_|refine rg ?_|refine xc ?_|refine nl ?_|refine sk ?_|refine bk ?_|refine rt ?_|refine xb ?_
      ·exact yn ⟨(a2,false),rfl,.inl ⟨rfl,rfl,h3⟩⟩
      ·exact yr ⟨(a2,true),rfl,.inr ⟨rfl,rfl,h3⟩⟩
     ·rintro _ _ ⟨⟨a1,s⟩,rfl,⟨hs1,h3⟩ | ⟨hs1,h3⟩⟩
      ·dsimp only at hs1 h3
       subst hs1
       exact ⟨_,rfl,.ready,none,_,rfl,by decide,a1,rfl,.inl ⟨rfl,by rw [hlen];exact h3⟩⟩
      ·dsimp only at hs1 h3
       subst hs1
       exact ⟨_,rfl,.done,some .ret,_,rfl,by decide,a1,rfl,.inr ⟨rfl,h3⟩⟩
    ·rintro l2 rec Dm pend B' ⟨a1,rfl,⟨rfl,h3⟩ | ⟨rfl,h3⟩⟩
     ·show TX env _ _ _ _ _ _
      refine TX.im (dfrl_push (D:=Dm) (Ds:=Ds) fitA) ?_
      repeat' first|(refine wo ?_;first|(refine ao ?_;first|refine aw ?_)|refine oa ?_)|refine rg ?_|refine xc ?_|refine nl ?_|refine xb ?_
      exact lpD ⟨i + 1,a1,Dm :: Ds⟩ ⟨hlt,h3⟩
     ·show TC env _ _ _ _ _ _
      refine TC.im (dfrl_push (D:=Dm) (Ds:=Ds) fitA) ?_
      repeat' first|refine rt ?_
      exact m0 (Ds:=Dm :: Ds) ⟨a1,rfl,.inr h3⟩
  ·obtain rfl:i = k - d - f:=by omega
   repeat' first|(refine wo ?_;first|(refine ao ?_;first|refine aw ?_|refine oa ?_)|refine oa ?_|refine ldl ?_)|(refine gc ?_;first|(refine ci (fun hB=>?_) (fun hB=>?_) <;> try (exfalso;omega)))|refine sq ?_|refine rg ?_|refine xc ?_|refine nl ?_|refine xe ?_
   exact m0e ⟨a,rfl,.inl ha⟩
end Go.Art
namespace Go.Art
open Go Go.Proofs Go.RowKit
structure NaG where
 i:Nat
 c:Nat
 o:Value
 ys:List Nat
attribute [local irreducible] Fit pt own ro vw mpc lpt vels rels mow lrc dfr
end Go.Art
namespace Go.Art
open Go Go.Proofs Go.RowKit
def Bt (n b:Nat):Prop:=n < 2 ^ b∧(b = 0∨2 ^ (b - 1) ≤ n)
attribute [local irreducible] Fit pt own ro vw mpc lpt vels rels mow lrc dfr
end Go.Art
