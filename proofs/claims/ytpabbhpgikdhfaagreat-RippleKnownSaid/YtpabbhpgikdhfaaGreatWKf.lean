/- Texts put together: Sr StopF StopG StopH StopI StopJ StopK StopN Ve Vf Mb Md Za Zb Zc Zd Ze Zf Zh Va Gc Rq Vb Vc Vg. Conditions: none. -/
import Derived.Test.YtpabbhpgikdhfaaGreatWKe
set_option linter.unusedSimpArgs false
set_option linter.unusedVariables false
namespace Go.Art
open Go Go.RowKit
def noDef (ops:Array Oper):Bool:=ops.all fun o=>match o.op with
 | .defer _=>false
 | _=>true
theorem noDef_spec {ops:Array Oper} (h:noDef ops = true) {j:Nat} {oj:Oper} (hj:ops[j]? = some oj):∀ c,oj.op ≠ .defer c:=fun c e=>by
 have:=(Array.all_eq_true.1 h) j (by
  rcases Nat.lt_or_ge j ops.size with h1 | h1
  ·exact h1
  ·rw [Array.getElem?_eq_none h1] at hj;cases hj)
 have h2:ops[j]'(by
  rcases Nat.lt_or_ge j ops.size with h1 | h1
  ·exact h1
  ·rw [Array.getElem?_eq_none h1] at hj;cases hj) = oj:=by
  have h3:=(Array.getElem?_eq_some_iff.1 hj).2
  exact h3
 rw [h2] at this
 simp only [e] at this
 cases this
section
variable {F:Fence} {m:Nat} {P:Program} {md:Region.Mode} {ops:Array Oper} {Q:Exit→Act→World→Prop} {S:World→Prop}
theorem upon_move {o:Oper} {a b:Act} {K K':Act→World→Prop} {r:Result Next} (h1:∀ u w,K (b.put o.dst u) w→K' (a.put o.dst u) w) (h2:∀ d w,K (({ b with defers:=d :: b.defers }:Act).put o.dst undef) w→K' (({ a with defers:=d :: a.defers }:Act).put o.dst undef) w)
  (h3:∀ c w,Q (.panic c) b w→Q (.panic c) a w) (h:o.uponIn F m P b K Q r):o.uponIn F m P a K' Q r:=by
 cases r with
 | ok x w'=>
  cases x with
  | value u=>exact h1 _ _ h
  | skip=>exact h1 _ _ h
  | defer d=>exact h2 _ _ h
  | enter f args=>exact ⟨h.1,CallsIn.mono h.2 fun e w'' he=>match e,he with
   | .returned u,he=>h1 _ _ he
   | .panicked c,he=>h3 _ _ he
   | .outgrown,he=>he⟩
  | row row args=>exact ⟨h.1,RowsIn.mono h.2 fun u w'' he=>h1 _ _ he⟩
  | round l f tmps assign body=>exact ⟨h.1,RoundIn.mono h.2 fun e w'' he=>match e,he with
   | .returned u,he=>h1 _ _ he
   | .panicked c,he=>h3 _ _ he
   | .outgrown,he=>he⟩
  | _=>exact h
 | halt x w'=>
  cases x with
  | panic v=>exact h3 _ _ h
  | _=>exact h
theorem upon_own {o:Oper} {a:Act} {K:Act→World→Prop} {r:Result Next} (h:o.uponIn F m P a K Q r):o.uponIn F m P a (fun a' w'=>(∃ u df,a' = ({ a with defers:=df }:Act).put o.dst u)∧K a' w') Q r:=
 upon_move (fun u w h=>⟨⟨u,a.defers,rfl⟩,h⟩) (fun d w h=>⟨⟨undef,d :: a.defers,rfl⟩,h⟩) (fun _ _ h=>h) h
theorem op_ownR {j:Nat} {oj:Oper} {K:Act→World→Prop} {a:Act} {w:World} (hj:ops[j]? = some oj) (h:wpOpIn F m P ops Q j K a w) :
  wpOpIn F m P ops Q j (fun a' w'=>(∃ u df,a' = ({ a with defers:=df }:Act).put oj.dst u)∧K a' w') a w:=by
 unfold wpOpIn at *
 simp only [hj] at *
 split
 ·rename_i hw
  rw [if_pos hw] at h
  exact ⟨h.1,upon_own h.2⟩
 ·rename_i hw
  rw [if_neg hw] at h
  exact ⟨h.1,⟨_,a.defers,rfl⟩,h.2⟩
theorem op_putR {j d:Nat} {oi oj:Oper} {v:Value} {K:Act→World→Prop} {a:Act} {w:World} (hnd:∀ c,oj.op ≠ .defer c) (hj:ops[j]? = some oj) (hdi:oi.dst = some d) (hap:oi.apart ops oj = true) (hsj:∀ cs b,oj.op ≠ .select cs b) (hQ:∀ c a w,¬ Q (.panic c) a w)
  (h:wpOpIn F m P ops Q j K (a.put oi.dst v) w):wpOpIn F m P ops Q j (fun a' w'=>K (a'.put oi.dst v) w') a w:=by
 obtain ⟨p1,p2,p3⟩:=Oper.apart_spec hap
 unfold wpOpIn at *
 simp only [hj] at *
 rw [wanted_put oj a oi.dst v p1,about_put oj w a oi.dst v p1] at h
 split
 ·rename_i hw
  rw [if_pos hw] at h
  have h1:=h.1
  have h2:=h.2
  rw [Oper.semAt_eq _ _ _ hnd,execOp_put oj hsj a oi.dst v p1] at h2
  rw [about_put oj w a oi.dst v p1] at h1
  refine ⟨h1,?_⟩
  rw [Oper.semAt_eq _ _ _ hnd]
  refine upon_move (fun u w hk=>?_) (fun dd w hk=>?_) (fun c w hk=>absurd hk (hQ c _ w)) h2
  ·rw [← Act.put_comm a v u p2];exact hk
  ·rw [← Act.put_comm _ v undef p2,← Act.put_defers];exact hk
 ·rename_i hw
  rw [if_neg hw] at h
  refine ⟨h.1,?_⟩
  rw [← Act.put_comm a v undef p2];exact h.2
theorem wpAnyS_takeR {i d:Nat} {o:Op} {ty:TypeId} {pos:String} {after:Array Edge} {v:Value} (hnd:noDef ops = true) (hi:ops[i]? = some ⟨some d,o,ty,pos,after,none⟩) (hs:Region.noSelect ops = true) (hQ:∀ c a w,¬ Q (.panic c) a w) :
  ∀ (fuel:Nat) (listed:Array Bool) (a:Act) (w:World),Region.free md ops listed i = true→(Region.ready md ops listed).contains i = true→YS P S ⟨some d,o,ty,pos,after,none⟩ v a→S w →
   wpAnyS F m P md ops Q S fuel (listed.setIfInBounds i true) (a.put (some d) v) w→wpAnyS F m P md ops Q S (fuel + 1) listed a w:=by
 have hsel:=fun j oj cs b (h:ops[j]? = some oj)=>Region.noSelect_spec hs j oj cs b h
 have now:∀ (K:Act→World→Prop) (a:Act) (w:World),YS P S ⟨some d,o,ty,pos,after,none⟩ v a→S w→K (a.put (some d) v) w→wpOpIn F m P ops Q i K a w:=fun K a w hy hS h=>by
  unfold wpOpIn
  have hn:∀ c,(⟨some d,o,ty,pos,after,none⟩ : Oper).op ≠ .defer c:=noDef_spec hnd hi
  simp only [hi,Region.wanted,if_true,Oper.wpIn]
  rw [Oper.semAt_eq _ _ _ hn,(hy w hS).1]
  exact ⟨fun f hf=>(by rw [(hy w hS).2] at hf;cases hf),h⟩
 have gen:∀ (fuel:Nat) (listed:Array Bool) (a:Act) (w:World),(∀ j oj,ops[j]? = some oj→j ≠ i→listed.getD j true = false→(∀ e ∈ oj.after,Region.binds md e = true→e.on ≠ i)→Oper.apart ops ⟨some d,o,ty,pos,after,none⟩ oj = true) →
   i ∈ Region.ready md ops listed→YS P S ⟨some d,o,ty,pos,after,none⟩ v a→S w→wpAnyS F m P md ops Q S fuel (listed.setIfInBounds i true) (a.put (some d) v) w→wpAnyS F m P md ops Q S (fuel + 1) listed a w:=by
  intro fuel
  induction fuel with
  | zero=>
   intro listed a w _ hr hy hS H
   refine ⟨fun h=>(by rw [h] at hr;cases hr),fun j hj=>?_⟩
   by_cases hji:j = i
   ·subst hji;exact now _ a w hy hS ⟨hS,H⟩
   ·have:=ready_mono hj hji
    rw [H.1] at this
    cases this
  | succ fuel ih=>
   intro listed a w hfree hr hy hS H
   refine ⟨fun h=>(by rw [h] at hr;cases hr),fun j hj=>?_⟩
   by_cases hji:j = i
   ·subst hji;exact now _ a w hy hS ⟨hS,H⟩
   ·obtain ⟨hjun,oj,hoj,hall⟩:=mem_ready.1 hj
    have hnot:∀ e ∈ oj.after,Region.binds md e = true→e.on ≠ i:=fun e he hb heq=>by
     have h1:=hall e he hb
     have h0:=(mem_ready.1 hr).1
     rw [heq] at h1
     rcases Nat.lt_or_ge i listed.size with h' | h'
     ·simp [h'] at h0 h1;rw [h0] at h1;cases h1
     ·simp [Array.getElem?_eq_none h'] at h1
    have hap:=hfree j oj hoj hji hjun hnot
    obtain ⟨p1,p2,p3⟩:=Oper.apart_spec hap
    have h2:=op_putR (oi:=⟨some d,o,ty,pos,after,none⟩) (noDef_spec hnd hoj) hoj rfl hap (fun cs b=>hsel j oj cs b hoj) hQ (H.2 j (ready_mono hj hji))
    have h3:=op_ownR hoj h2
    refine wpOpIn_mono (fun a' w' h4=>?_) h3
    obtain ⟨⟨u,df,rfl⟩,hS',h5⟩:=h4
    have hy':YS P S ⟨some d,o,ty,pos,after,none⟩ v (({ a with defers:=df }:Act).put oj.dst u):=fun w hw=>by
     rw [execOp_put _ (fun cs b=>hsel i _ cs b hi) ({ a with defers:=df }:Act) oj.dst u p3,about_put _ w ({ a with defers:=df }:Act) oj.dst u p3]
     exact hy w hw
    have hfree':∀ k ok,ops[k]? = some ok→k ≠ i→(listed.setIfInBounds j true).getD k true = false→(∀ e ∈ ok.after,Region.binds md e = true→e.on ≠ i)→Oper.apart ops ⟨some d,o,ty,pos,after,none⟩ ok = true:=fun k ok hk hki hun hno=>by
     refine hfree k ok hk hki ?_ hno
     by_cases hjk:j = k
     ·subst hjk;exact hjun
     ·rw [getD_set_ne true hjk] at hun;exact hun
    refine ⟨hS',ih (listed.setIfInBounds j true) _ w' hfree' (ready_mono hr (Ne.symm hji)) hy' hS' ?_⟩
    rw [Array.setIfInBounds_comm _ _ hji]
    exact h5
 intro fuel listed a w hf hr hy hS H
 exact gen fuel listed a w (Region.free_spec hi hf) (by simpa using hr) hy hS H
end
section
variable {P:Program} {E:Env P} {n:Sh} {X:Cx} {s:List K} {fr:Fr} {A A' B:List Ch} {ops:Array Oper} {d:Nat} {o:Op} {ty:TypeId} {pos:String} {after:Array Edge} {v:Value} {fuel:Nat} {listed:Array Bool} {S:World→Prop}
theorem kr (i:Nat) (hv:∀ w,S w→OpV P n fr o ty w v w) (k:TS E n X s S ops fuel (listed.setIfInBounds i true) ((d,v) :: fr) A) (hi:ops[i]? = some ⟨some d,o,ty,pos,after,none⟩:=by rfl) (hs:Region.noSelect ops = true:=by kernel_rfl) (hf:Region.free .any ops listed i = true:=by kernel_rfl)
  (hr:(Region.ready .any ops listed).contains i = true:=by kernel_rfl) (hnd:noDef ops = true:=by kernel_rfl) (hd:Nat.blt d n.n = true:=by rfl) (hab:∀ w ρ,(⟨some d,o,ty,pos,after,none⟩ : Oper).about P w ρ = none:=by exact fun _ _=>rfl):TS E n X s S ops (fuel + 1) listed fr A:=
 ⟨fun w hw hS a ha=>wpAnyS_takeR hnd hi hs (fun c a w h=>h.1 c rfl) fuel listed a w hf hr (fun w' hw'=>⟨(hv w' hw').run a ha _ _ _ _,hab _ _⟩) hS (k.run w hw hS _ (ha.put hd v))⟩
theorem kra (i:Nat) (k:TS E n X s S ops fuel (listed.setIfInBounds i true) ((d,v) :: fr) A) (hi:ops[i]? = some ⟨some d,o,ty,pos,after,none⟩:=by rfl) (hv:evOp E fr o = some v:=by rfl) (hs:Region.noSelect ops = true:=by kernel_rfl) (hf:Region.free .any ops listed i = true:=by kernel_rfl)
  (hr:(Region.ready .any ops listed).contains i = true:=by kernel_rfl) (hnd:noDef ops = true:=by kernel_rfl) (hd:Nat.blt d n.n = true:=by rfl) (hab:∀ w ρ,(⟨some d,o,ty,pos,after,none⟩ : Oper).about P w ρ = none:=by exact fun _ _=>rfl):TS E n X s S ops (fuel + 1) listed fr A:=
 kr i (fun _ _=>R_auto hv) k hi hs hf hr hnd hd hab
theorem krl (i:Nat) {t:TypeId} {x:Operand} {b j:Nat} {cs:List Value} {T:TypeId} {dt:TypeDesc} (hm:∀ w,S w→w.heap[b]? = some (.cells cs.toArray T (0,0))) (k:TS E n X s S ops fuel (listed.setIfInBounds i true) ((d,v) :: fr) A) (hi:ops[i]? = some ⟨some d,.load t x,ty,pos,after,none⟩:=by rfl) (hx:ev fr x = some (.pointer (some ⟨b,j,none⟩)):=by rfl)
  (hj:cs[j]? = some v:=by rfl) (ht:lk E.und t = some dt:=by rfl) (hg:aggB dt = false:=by rfl) (hs:Region.noSelect ops = true:=by kernel_rfl) (hf:Region.free .any ops listed i = true:=by kernel_rfl)
  (hr:(Region.ready .any ops listed).contains i = true:=by kernel_rfl) (hnd:noDef ops = true:=by kernel_rfl) (hd:Nat.blt d n.n = true:=by rfl):TS E n X s S ops (fuel + 1) listed fr A:=
 kr i (fun w hw=>R_load ht hg hx (blk_cell (hm w hw) (by simpa using hj))) k hi hs hf hr hnd hd
end
end Go.Art
set_option maxRecDepth 4000
namespace Go.Art
open Go Go.Proofs Go.RowKit
attribute [local irreducible] Fit pt own ro vw mpc lpt vels rels mow lrc dfr
def left (G:Int→Option Value) (x:Int):Bool:=(G x).isSome
def loneL (many:List Int) (G:Int→Option Value) (ls:List (List Int)) (i:Nat):List Int:=if many.getD i 0 = 1 then (ls.getD i []).filter (left G) else []
end Go.Art
set_option maxRecDepth 4000
namespace Go.Art
open Go Go.Proofs Go.RowKit
attribute [local irreducible] Fit pt own ro vw mpc lpt vels rels mow lrc dfr
def idx (ls:List (List Int)) (x:Int) (i:Nat):List Int:=((List.range i).filter fun j=>decide (x ∈ ls.getD j [])).map fun j:Nat=>(j:Int)
structure UInv (k:Int) (ls:List (List Int)) (G:Int→Option Value) (g:Int→List Int) (many q:List Int):Prop where
 dom:∀ x,left G x = true→0 ≤ x∧x < k
 sets:∀ x,left G x = true→g x = idx ls x ls.length
 gone:∀ x,0 ≤ x→x < k→left G x = false→Kn ls x
 len:many.length = ls.length
 que:∀ x ∈ q,0 ≤ x∧x < k∧Kn ls x
 size:q.length + cnt (left G) (belowI k) * (ls.length + 1) ≤ (k.toNat + 1) * (ls.length + 1)
def Fine1 (ls:List (List Int)) (G:Int→Option Value) (many q:List Int) (i:Nat):Prop:=
 many.getD i 0 = cnt (left G) (ls.getD i [])∧(cnt (left G) (ls.getD i []) = 1→∀ x ∈ ls.getD i [],left G x = true→x ∈ q)
structure VInv (k:Int) (ls:List (List Int)) (G:Int→Option Value) (g:Int→List Int) (x:Int) (W many q r:List Int) (j:Nat):Prop where
 inv:UInv k ls G g many q
 many:∀ i,i < ls.length→many.getD i 0 = cnt (left G) (ls.getD i []) + (if x ∈ ls.getD i []∧(i:Int) ∉ W.take j then 1 else 0)
 fine:∀ i,i < ls.length→(x ∉ ls.getD i []∨(i:Int) ∈ W.take j)→cnt (left G) (ls.getD i []) = 1→∀ y ∈ ls.getD i [],left G y = true→y ∈ q
 bud:q.length + cnt (left G) (belowI k) * (ls.length + 1) + (W.length - j) + 1 ≤ (k.toNat + 1) * (ls.length + 1)
 qlen:q.length ≤ r.length + j
end Go.Art
set_option maxRecDepth 4000
namespace Go.Art
open Go Go.Proofs Go.RowKit
attribute [local irreducible] Fit pt own ro vw mpc lpt vels rels mow lrc dfr
structure UG where
 G:Int→Option Value
 many:List Int
 q:List Int
 qv:Value
structure UF where
 i:Nat
 G:Int→Option Value
 g:Int→List Int
 many:List Int
abbrev TQ':TypeId:=207
abbrev TM':TypeId:=160
end Go.Art
set_option maxRecDepth 4000
namespace Go.Art
open Go Go.Proofs Go.RowKit
attribute [local irreducible] Fit pt own ro vw mpc lpt vels rels mow lrc dfr
noncomputable def knownR (k:Int) (ls:List (List Int)):List Int:=if stopE k ls = 0 then knownL k ls else []
end Go.Art
set_option maxRecDepth 4000
namespace Go.Art
open Go Go.Proofs Go.RowKit
attribute [local irreducible] Fit pt own ro vw mpc lpt vels rels mow lrc dfr
abbrev W64 (n:Int):Value:=.int .u64 n
def bitsL (k n:Int):List Int:=(belowI k).filter fun i=>decide (n / 2 ^ i.toNat % 2 = 1)
/-! ### Examples -/
def knb (ls:List (List Int)):Nat→Int→Bool
 | 0,_=>false
 | n + 1,s=>ls.any fun l=>l.contains s && l.all fun x=>x == s || knb ls n x
end Go.Art
set_option maxRecDepth 4000
namespace Go.Art
open Go Go.Proofs Go.RowKit
attribute [local irreducible] Fit pt own ro vw mpc lpt vels rels mow lrc dfr
abbrev Ws (l:List Int):List Value:=l.map W64
section
variable {P:Program} {E:Env P} {n:Sh} {X:Cx} {s:List K} {fr:Fr} {A A' B F:List Ch} {ops:Array Oper} {rest:List Oper} {d:Nat} {ty:TypeId} {pos:String} {after:Array Edge} {v:Value} {t t':TypeId} {x y:Operand} {c0:Code}
end
def setsL (k:Int) (zs:List Int):List (List Int):=(zs.map (bitsL k)).filter fun l=>decide (0 < l.length)
structure UnG where
 i:Nat
 o:Value
 hs:List Value
 ls:List (List Int)
end Go.Art
set_option maxRecDepth 4000
namespace Go.Art
open Go Go.Proofs Go.RowKit
attribute [local irreducible] Fit pt own ro vw mpc lpt vels rels mow lrc dfr
attribute [local irreducible] lmp lme mit
def KeysOf (f:Int→Option Value) (zs:List Int):Prop:=zs.Nodup∧∀ k,k ∈ zs ↔ (f k).isSome = true
noncomputable def largeR (k:Int) (ls:List (List Int)):List Int:=if stopE k ls = 0 then largeL k ls else []
end Go.Art
namespace Go.Art
open Go Go.Proofs Go.RowKit
abbrev irow (s:Value) (q:Rat) (h:Value × Value):List Value:=s :: rrow q h
def ics (ss:List Value) (qs:List Rat) (hs:List (Value × Value)):List Value:=(List.zipWith List.cons ss (List.zipWith rrow qs hs)).flatten
theorem dg_pow {D b n:Nat} (h:D < 18446744073709551616 ^ b):(dg (4096 * D ^ n)).length ≤ b * n + 1:=by
 refine (dg_len _ _).2 ?_
 have h1:D ^ n ≤ (18446744073709551616 ^ b) ^ n:=Nat.pow_le_pow_left (Nat.le_of_lt h) n
 rw [← Nat.pow_mul] at h1
 rw [Nat.pow_succ,Nat.mul_comm]
 have h2:0 < 18446744073709551616 ^ (b * n):=Nat.pow_pos (by decide)
 exact Nat.lt_of_le_of_lt (Nat.mul_le_mul_right 4096 h1) (Nat.mul_lt_mul_of_pos_left (by decide) h2)
section
variable {P:Program} {E:Env P} {n:Sh} {fr:Fr} {A A' D G:List Ch} {m:Nat}
end
abbrev TIm:TypeId:=125
abbrev TSm:TypeId:=110
attribute [local irreducible] Fit pt own ro vw mpc lpt vels rels mow lrc dfr
attribute [local irreducible] lmp lme mit velg relg bnd owl dfrl
end Go.Art
namespace Go.Art
open Go Go.Proofs Go.RowKit
def sumW (W:List (List Int)→Bool) (L:List (List Int × Nat)) (D n:Nat):Fr3 × Int:=
 if L.length ≤ 4096∧L.length ^ n ≤ 4096 then (rqf (mkRat ((natG W L n [] 1:Nat):Int) (D ^ n)),0) else (rqn,4)
abbrev fracs (L:List (List Int × Nat)) (D:Nat):List Rat:=L.map fun s=>mkRat ((s.2:Nat):Int) D
structure SmG where
 j:Nat
 vn:Value
 vd:Value
structure SnG where
 j:Nat
 sv:Value
 mv:Value
attribute [local irreducible] Fit pt own ro vw mpc lpt vels rels mow lrc dfr
attribute [local irreducible] lmp lme mit velg relg bnd owl dfrl accN natG tupN prdW
end Go.Art
namespace Go.Art
open Go Go.Proofs Go.RowKit
structure SeqO (P:Program) (f:FuncId) (cap:Array Value) (T:TypeId) (pre:List Ch) (L:List (List Int)):Prop where
 run:∀ {α:Type} (l:Nat) (J:α→Ch) (pl:α→Nat→Prop) (S:α→Prop) (a0:α),pl a0 0→(∀ a b,¬ (J a).bd b) →
  (∀ a i x,x.oneCell' = true→pl a i→i < L.length→Ty P l [x] [] [own T x (Is (L.getD i [])),J a] fun ok B=>∃ a',B = [J a']∧((ok = true∧pl a' (i + 1))∨(ok = false∧S a'))) →
  Tr P f (yv l :: cap.toList) pre [J a0] fun _ B=>∃ a,B = [J a]∧(pl a L.length∨S a)
 lent:∀ c ∈ pre,∀ b,¬ c.wr b∧¬ c.rd b
open Go Go.Proofs Go.RowKit
attribute [local irreducible] Fit pt own ro vw mpc lpt vels rels mow lrc dfr
attribute [local irreducible] lmp lme mit velg relg bnd owl dfrl
end Go.Art
namespace Go.Art
open Go Go.Proofs Go.RowKit
structure NaG where
 i:Nat
 c:Nat
 o:Value
 ys:List Nat
attribute [local irreducible] Fit pt own ro vw mpc lpt vels rels mow lrc dfr
end Go.Art
namespace Go.Art
open Go Go.Proofs Go.RowKit
def Bt (n b:Nat):Prop:=n < 2 ^ b∧(b = 0∨2 ^ (b - 1) ≤ n)
attribute [local irreducible] Fit pt own ro vw mpc lpt vels rels mow lrc dfr
end Go.Art
namespace Go.Art
open Go Go.Proofs Go.RowKit
attribute [local irreducible] Fit pt own ro vw mpc lpt vels rels mow lrc dfr
end Go.Art
namespace Go.Art
open Go Go.Proofs Go.RowKit
attribute [local irreducible] Fit pt own ro vw mpc lpt vels rels mow lrc dfr
end Go.Art
namespace Go.Art
open Go Go.Proofs Go.RowKit
structure DvG where
 j:Nat
 qs:List Nat
 rs:List Nat
 Q:Nat
section
variable {P:Program} {E:Env P} {n:Sh} {X:Cx} {s:List K} {fr:Fr} {A:List Ch} {ops:Array Oper} {rest:List Oper} {d:Nat} {ty t t':TypeId} {pos:String} {after:Array Edge} {x:Operand}
end
attribute [local irreducible] Fit pt own ro vw mpc lpt vels rels mow lrc dfr
end Go.Art
namespace Go.Art
open Go Go.Proofs Go.RowKit
attribute [local irreducible] Fit pt own ro vw mpc lpt vels rels mow lrc dfr
end Go.Art
namespace Go.Art
open Go Go.Proofs Go.RowKit
def pasc (n:Nat):List (List Int):=(List.range (n + 1)).map fun j=>Zs (dg (chs n j))
abbrev TNN:TypeId:=92
structure NxG where
 i:Nat
 o:Value
 hs:List Value
attribute [local irreducible] Fit pt own ro vw mpc lpt vels rels mow lrc dfr
attribute [local irreducible] lmp lme mit velg relg bnd owl
end Go.Art
namespace Go.Art
open Go Go.Proofs Go.RowKit
theorem chs_bnd:∀ n d,chs n d ≤ 2 ^ n
 | 0,0=>by simp [chs]
 | 0,d + 1=>by simp [chs]
 | n + 1,0=>by rw [show chs (n + 1) 0 = 1 from rfl];exact Nat.one_le_two_pow
 | n + 1,d + 1=>by
  rw [show chs (n + 1) (d + 1) = chs n d + chs n (d + 1) from rfl,Nat.pow_succ]
  have:=chs_bnd n d;have:=chs_bnd n (d + 1);omega
def risJ (d f k j:Nat):List (List Int):=(risR d (f + j + 1) k).map fun l=>((f + j:Nat):Int) :: l
structure RsG where
 i:Nat
 v:Value
 hs:List Value
attribute [local irreducible] Fit pt own ro vw mpc lpt vels rels mow lrc dfr
attribute [local irreducible] lmp lme mit velg relg bnd owl risJ
end Go.Art
namespace Go.Art
open Go Go.Proofs Go.RowKit
attribute [local irreducible] Fit pt own ro vw mpc lpt vels rels mow lrc dfr
end Go.Art
namespace Go.Art
open Go Go.Proofs Go.RowKit
structure RlG where
 i:Nat
 o:Value
 hs:List Value
attribute [local irreducible] Fit pt own ro vw mpc lpt vels rels mow lrc dfr
attribute [local irreducible] lmp lme mit velg relg bnd owl dfrl
def cntR (n S:Nat):Prop:=(n ≤ 4096→n = S)∧(4096 < n→4096 < S)∧n ≤ 8193
end Go.Art
namespace Go.Art
open Go Go.Proofs Go.RowKit
def szL (t:List Int) (k i:Nat):List (List Int):=if t.getD i 0 = 0 then [] else risR (i + 1) 0 k
theorem setP_zero (t:List Int) (k:Nat):setP t k 0 = []:=rfl
theorem setP_succ (t:List Int) (k n:Nat):setP t k (n + 1) = setP t k n ++ szL t k n:=fm_succ _ _
theorem solE_13 {t:List Int} {k:Int} (hz:¬ solE t k = 0):solE t k = 13:=by
 unfold solE at hz ⊢
 split
 ·rfl
 ·split
  ·rename_i a b;exact absurd (by rw [if_neg a,if_pos b]) hz
  ·rfl
attribute [local irreducible] Fit pt own ro vw mpc lpt vels rels mow lrc dfr
attribute [local irreducible] lmp lme mit velg relg bnd owl
structure SrG where
 i:Nat
 v:Value
 hs:List Value
attribute [local irreducible] setP szL solE
end Go.Art
namespace Go.Art
open Go Go.Proofs Go.RowKit
structure StG where
 i:Nat
 v:Value
 hs:List Value
 Ds:List Nat
attribute [local irreducible] Fit pt own ro vw mpc lpt vels rels mow lrc dfr
attribute [local irreducible] lmp lme mit velg relg bnd owl dfrl setP szL solE
end Go.Art
namespace Go.Art
open Go Go.Proofs Go.RowKit
def refE (t:List Int) (k n:Int):Int:=if solE t k = 0 then (if n < 0∨4096 < n then 3 else 0) else 13
def prodC (k:Nat):Nat→Nat
 | 0=>1
 | i + 1=>prodC k i * chs k (i + 1)
def prodX (k d:Nat):Nat→Nat
 | 0=>1
 | i + 1=>if i + 1 = d then prodX k d i else prodX k d i * chs k (i + 1)
theorem prodX_lt {k d:Nat}:∀ {n:Nat},n < d→prodX k d n = prodC k n
 | 0,_=>rfl
 | n + 1,h=>by unfold prodX prodC;rw [if_neg (by omega),prodX_lt (by omega)]
theorem prodX_mul {k d:Nat} (h1:1 ≤ d):∀ {n:Nat},d ≤ n→prodX k d n * chs k d = prodC k n
 | 0,h=>by omega
 | n + 1,h=>by
  unfold prodX prodC
  by_cases e:n + 1 = d
  ·rw [if_pos e,prodX_lt (by omega),e]
  ·rw [if_neg e,← prodX_mul h1 (by omega),Nat.mul_assoc,Nat.mul_comm (chs k (n + 1)),← Nat.mul_assoc]
theorem prodC_pos {k:Nat}:∀ {n:Nat},n ≤ k→prodC k n ≠ 0
 | 0,_=>Nat.one_ne_zero
 | n + 1,h=>by unfold prodC;exact Nat.mul_ne_zero (prodC_pos (by omega)) (chs_pos (by omega))
theorem prodC_le {k:Nat} (hk:k ≤ 40):∀ n,prodC k n ≤ 1099511627776 ^ n
 | 0=>by simp [prodC]
 | n + 1=>by
  unfold prodC
  rw [Nat.pow_succ]
  exact Nat.mul_le_mul (prodC_le hk n) (Nat.le_trans (chs_bnd k (n + 1)) (Nat.le_trans (Nat.pow_le_pow_right (by decide) hk) (by decide)))
theorem prodX_le {k d n:Nat} (h1:1 ≤ d) (h2:d ≤ n) (h3:n ≤ k):prodX k d n ≤ prodC k n:=by
 rw [← prodX_mul h1 h2]
 exact Nat.le_mul_of_pos_right _ (Nat.pos_of_ne_zero (chs_pos (by omega)))
def oneS (t:List Int) (k:Nat):Nat:=t.sum.toNat * prodC k t.length
def wS (t:List Int) (k d:Nat):Nat:=(t.getD (d - 1) 0).toNat * prodX k d t.length
def itemS (t:List Int) (k:Nat):List (List Int × Nat):=(setP t k t.length).map fun s=>(s,wS t k s.length)
theorem le_sum {t:List Int} (h:∀ w ∈ t,0 ≤ w):∀ w ∈ t,w ≤ t.sum:=by
 induction t with
 | nil=>intro w hw;cases hw
 | cons a r ih=>
  intro w hw
  have h1:0 ≤ r.sum:=by
   clear ih hw
   induction r with
   | nil=>simp
   | cons b s ih2=>
    have:=h b (by simp)
    have:=ih2 fun w hw=>h w (by rcases List.mem_cons.1 hw with rfl | hw;simp;simp [hw])
    simp only [List.sum_cons];omega
  rw [List.sum_cons]
  have ha:=h a (by simp)
  rcases List.mem_cons.1 hw with rfl | hw
  ·omega
  ·have:=ih (fun w hw=>h w (by simp [hw])) w hw;omega
theorem oneS_pos {t:List Int} {k:Nat} (hz:solE t k = 0):oneS t k ≠ 0:=by
 obtain ⟨z1,z2,z3,z4⟩:=solE_zero hz
 have:=sum_posT z3 z4
 exact Nat.mul_ne_zero (by omega) (prodC_pos (by omega))
theorem oneS_lt {t:List Int} {k:Nat} (hz:solE t k = 0) (hk:k ≤ 40) (hl:t.length ≤ 12):oneS t k < 18446744073709551616 ^ 10:=by
 obtain ⟨z1,z2,z3,z4⟩:=solE_zero hz
 have h1:=(sum_wOk z3).2
 have h2:t.sum.toNat ≤ 268435456:=by
  have:(16777215:Int) * t.length ≤ 16777215 * 12:=by omega
  omega
 have h3:=prodC_le hk t.length
 have h4:1099511627776 ^ t.length ≤ 1099511627776 ^ 12:=Nat.pow_le_pow_right (by decide) hl
 have h5:oneS t k ≤ 268435456 * 1099511627776 ^ 12:=Nat.mul_le_mul h2 (Nat.le_trans h3 h4)
 exact Nat.lt_of_le_of_lt h5 (by decide)
theorem wS_le {t:List Int} {k d:Nat} (hz:solE t k = 0) (h1:1 ≤ d) (h2:d ≤ t.length):wS t k d ≤ oneS t k:=by
 obtain ⟨z1,z2,z3,z4⟩:=solE_zero hz
 have hm:t.getD (d - 1) 0 ∈ t:=by rw [List.getD_eq_getElem?_getD,List.getElem?_eq_getElem (by omega)];exact List.getElem_mem (by omega)
 have:=le_sum (fun w hw=>(z3 w hw).1) _ hm
 exact Nat.mul_le_mul (by omega) (prodX_le h1 h2 (by omega))
theorem cha_eq {t:List Int} {k d:Nat} (hz:solE t k = 0) (h1:1 ≤ d) (h2:d ≤ t.length):mkRat (t.getD (d - 1) 0) (chs k d * t.sum.toNat) = mkRat ((wS t k d:Nat):Int) (oneS t k):=by
 obtain ⟨z1,z2,z3,z4⟩:=solE_zero hz
 have hs:=sum_posT z3 z4
 have hm:t.getD (d - 1) 0 ∈ t:=by rw [List.getD_eq_getElem?_getD,List.getElem?_eq_getElem (by omega)];exact List.getElem_mem (by omega)
 have h0:=(z3 _ hm).1
 have hx:prodX k d t.length ≠ 0:=fun e=>by
  have:=prodX_mul (k:=k) h1 h2
  rw [e,Nat.zero_mul] at this
  exact prodC_pos (k:=k) (n:=t.length) (by omega) this.symm
 have:=mk_scale (t.getD (d - 1) 0).toNat (chs k d * t.sum.toNat) (prodX k d t.length) (Nat.mul_ne_zero (chs_pos (by omega)) (by omega)) hx
 rw [Int.toNat_of_nonneg h0] at this
 rw [this]
 congr 1
 unfold oneS
 rw [← prodX_mul (k:=k) h1 h2]
 grind
def massW (W:List (List Int)→Bool) (t:List Int) (k n:Int):Fr3 × Int:=
 if refE t k n = 0 then (if (setsW t k).2 = 0 then sumW W (itemS t k.toNat) (oneS t k.toNat) n.toNat else (rqn,4)) else (rqn,refE t k n)
structure DrG where
 i:Nat
 v:Value
 hs:List (Value × Value)
attribute [local irreducible] Fit pt own ro vw mpc lpt vels rels mow lrc dfr
attribute [local irreducible] lmp lme mit velg relg bnd owl setP szL solE risR chaW oneS wS
abbrev itmC (v:Value) (ss:List Value) (hs:List (Value × Value)) (L:List (List Int × Nat)) (D:Nat):List Ch:=[oww TIm 4 v L.length (ics ss (fracs L D) hs),owl TLI I ss (L.map (·.1)),ofr hs (fracs L D)]
noncomputable abbrev failW (k:Int) (ls:List (List Int)):Bool:=decide (0 < (largeR k ls).length)
end Go.Art
