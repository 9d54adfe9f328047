/- Texts put together: Rv Ry Fr Sr K StopA StopB StopC StopD StopE StopF StopG StopH StopI StopJ StopK StopN Ve Vf Mb Md Zh Va Gc Rq Vb Vc Vg StopO Vi Da Db Dc. Conditions: none. -/
import Derived.Test.YtpabbhpgikdhfaaGreatWTd
set_option linter.unusedSimpArgs false
set_option linter.unusedVariables false
namespace Go.Art
open Go Go.Proofs Go.RowKit
attribute [local irreducible] Fit pt own ro vw mpc lpt vels rels mow lrc dfr
attribute [local irreducible] lmp lme mit velg relg bnd owl dfrl
end Go.Art
namespace Go.Art
open Go Go.Proofs Go.RowKit
theorem Tr.pre {P:Program} {f:FuncId} {args:List Value} {pre pre' A:List Ch} {R:Value→List Ch→Prop} (h:Tr P f args pre A R) (hp:∀ c ∈ pre,Has pre' c) (hl:∀ c ∈ pre',∀ b,¬ c.wr b∧¬ c.rd b):Tr P f args pre' A R:=
 ⟨fun w hw=>h.run w (lend (hw.perm List.perm_append_comm) hp),hl⟩
theorem FAdd2_tr (q r:Rat) (lv v1 v2 v3 v4:Value) (hq:FB q 8589934592) (hr:FB r 8589934592) :
  Tr Tryz.prog 32 [lv] [vwf lv 2 (rrow q (v1,v2) ++ rrow r (v3,v4)),vw v1 (Us (dg q.num.natAbs)),vw v2 (Us (dg q.den)),vw v3 (Us (dg r.num.natAbs)),vw v4 (Us (dg r.den))] [] (FQ2 (q + r) 0):=by
 have h:=FAdd_tr lv [q,r] [(v1,v2),(v3,v4)] rfl (fun i hi=>by
  match i,hi with
  | 0,_=>exact hq
  | 1,_=>exact hr) (fun i hi=>by
  match i,hi with
  | 0,_=>exact ⟨by rw [show (([q,r].take 0).foldl (· + ·) (0:Rat)).num.natAbs = 0 from rfl,dg_zero];exact Nat.zero_le _,by rw [show (([q,r].take 0).foldl (· + ·) (0:Rat)).den = 1 from rfl];exact Nat.le_trans (dg_len1 (by decide)) (by decide)⟩
  | 1,_=>
   show FB (0 + q) _
   rw [Rat.zero_add];exact hq)
 rw [show [q,r].foldl (· + ·) (0:Rat) = q + r by show 0 + q + r = q + r;rw [Rat.zero_add]] at h
 refine h.pre ?_ (by repeat (first | exact has00 | refine has01 ?_))
 refine has1 (has_vwf (List.Mem.head _)) (has1 (has_vfr_cons (has_vw (by simp)) (has_vw (by simp)) (has_vfr_cons (has_vw (by simp)) (has_vw (by simp)) has_vfr_nil)) has0)
structure WhG where
 i:Nat
 vn:Value
 vd:Value
attribute [local irreducible] Fit pt own ro vw mpc lpt vels rels mow lrc dfr
attribute [local irreducible] lmp lme mit velg relg bnd owl madeT
end Go.Art
namespace Go.Art
open Go Go.Proofs Go.RowKit
theorem Im.tail (c:Ch) (A:List Ch):Im (c :: A) A:=Im.trans (Im.perm (List.perm_append_comm (l₁:=[c]) (l₂:=A))) (Im.drop A [c])
theorem owl_set {e:TypeId} {g:Int→Value} {hs:List Value} {ls:List (List Int)} (hl:hs.length = ls.length) {i:Nat} (h:i < ls.length) (v:Value) (l:List Int) (F:List Ch):Im (own e v (l.map g) :: owl e g hs ls :: F) (owl e g (hs.set i v) (ls.set i l) :: F):=
 (Im.cons _ (owl_take hl h F)).trans ((Im.perm (List.Perm.swap _ _ _)).trans ((Im.tail _ _).trans (owl_put hl h v l F)))
theorem flat_set {sz:Nat}:∀ {rs:List (List Value)} {i:Nat} {r:List Value},(∀ r ∈ rs,r.length = sz)→i < rs.length→rs.flatten.take (sz * i) ++ r ++ rs.flatten.drop (sz * i + sz) = (rs.set i r).flatten
 | [],i,_,_,h=>absurd h (Nat.not_lt_zero _)
 | a :: rs,0,r,hl,_=>by
  have:=hl a (by simp)
  rw [List.flatten_cons,Nat.mul_zero,Nat.zero_add,List.take_zero,List.nil_append,List.drop_left' this,List.set_cons_zero,List.flatten_cons]
 | a :: rs,i + 1,r,hl,h=>by
  have ha:=hl a (by simp)
  have ih:=flat_set (rs:=rs) (i:=i) (r:=r) (fun r hr=>hl r (by simp [hr])) (by simpa using h)
  rw [List.set_cons_succ,List.flatten_cons,List.flatten_cons,← ih,show sz * (i + 1) = a.length + sz * i by rw [ha,Nat.mul_succ];omega,Nat.add_assoc,List.take_length_add_append,List.drop_length_add_append]
  simp [List.append_assoc]
theorem rows_len {qs:List Rat} {hs:List (Value × Value)}:∀ r ∈ List.zipWith rrow qs hs,r.length = 3:=fun r hr=>by
 obtain ⟨j,hj,rfl⟩:=List.mem_iff_getElem.1 hr
 rw [List.getElem_zipWith];rfl
theorem zip_set {qs:List Rat} {hs:List (Value × Value)} {q:Rat} {h:Value × Value}:∀ {i:Nat},(List.zipWith rrow qs hs).set i (rrow q h) = List.zipWith rrow (qs.set i q) (hs.set i h):=by
 induction qs generalizing hs with
 | nil=>intro i;simp
 | cons a r ih=>
  intro i
  cases hs with
  | nil=>simp
  | cons b s=>
   cases i with
   | zero=>simp
   | succ i=>simp [ih]
theorem rcs_set {qs:List Rat} {hs:List (Value × Value)} (hl:hs.length = qs.length) {i:Nat} (hi:i < qs.length) (q:Rat) (h:Value × Value):(rcs qs hs).take (3 * i) ++ rrow q h ++ (rcs qs hs).drop (3 * i + 3) = rcs (qs.set i q) (hs.set i h):=by
 unfold rcs
 rw [flat_set rows_len (by simp;omega),zip_set]
theorem rcs_len {qs:List Rat} {hs:List (Value × Value)} (hl:hs.length = qs.length):(rcs qs hs).length = qs.length * 3:=by
 induction qs generalizing hs with
 | nil=>simp [rcs]
 | cons q r ih=>
  cases hs with
  | nil=>simp at hl
  | cons h s=>
   have:=ih (hs:=s) (by simpa using hl)
   unfold rcs at *
   simp only [List.zipWith_cons_cons,List.flatten_cons,List.length_append,this,List.length_cons,List.length_nil]
   omega
theorem rcs_app {qs rs:List Rat} {hs gs:List (Value × Value)} (hl:hs.length = qs.length):rcs (qs ++ rs) (hs ++ gs) = rcs qs hs ++ rcs rs gs:=by
 unfold rcs
 rw [List.zipWith_append hl.symm,List.flatten_append]
theorem rcs_one (q:Rat) (h:Value × Value):rcs [q] [h] = rrow q h:=by simp [rcs]
theorem hp_len {hs:List (Value × Value)} {qs:List Rat} (hl:hs.length = qs.length):(hpc hs).length = (pcl qs).length:=by rw [hpc_len,pcl_len,hl]
theorem ofr_snoc {hs:List (Value × Value)} {qs:List Rat} (hl:hs.length = qs.length) (q:Rat) (v1 v2:Value) {A F:List Ch} (hf:Fit A [own T64 v1 (Us (dg q.num.natAbs)),own T64 v2 (Us (dg q.den)),ofr hs qs] F):Im A (ofr (hs ++ [(v1,v2)]) (qs ++ [q]) :: F):=by
 refine Im.trans hf ?_
 show Im (own T64 v1 (Us (dg q.num.natAbs)) :: own T64 v2 (Us (dg q.den)) :: owl T64 wU (hpc hs) (pcl qs) :: F) (owl T64 wU (hpc (hs ++ [(v1,v2)])) (pcl (qs ++ [q])) :: F)
 have h0:=hp_len hl
 rw [hpc_app,pcl_app,Us_eq,Us_eq]
 refine (Im.perm (List.Perm.swap _ _ _)).trans ((Im.cons _ (owl_snoc h0 v1 (Zs (dg q.num.natAbs)) F)).trans ?_)
 have:=owl_snoc (e:=T64) (g:=wU) (hs:=hpc hs ++ [v1]) (ls:=pcl qs ++ [Zs (dg q.num.natAbs)]) (by simp [h0]) v2 (Zs (dg q.den)) F
 rw [List.append_assoc,List.append_assoc] at this
 exact this
theorem has_ofr {F:List Ch} {hs:List (Value × Value)} {qs:List Rat} (hl:hs.length = qs.length) (h:ofr hs qs ∈ F):Has F (vfr hs qs):=has_owl (hp_len hl) h
def zrs (m:Nat):List Value:=(List.replicate m [Value.bool false,nS,nS]).flatten
theorem zrs_eq (m:Nat):(List.replicate m (Value.agg #[Value.bool false,Value.slice none 0 0,Value.slice none 0 0]).cells.toList).flatten = zrs m:=rfl
theorem zrs_zero:zrs 0 = []:=rfl
theorem zrs_step (m:Nat):(zrs (m + 1)).drop 3 = zrs m:=by unfold zrs;rw [List.replicate_succ,List.flatten_cons];exact List.drop_left' rfl
theorem rcs_fill {qs:List Rat} {hs:List (Value × Value)} (hl:hs.length = qs.length) (m:Nat) (q:Rat) (h:Value × Value):(rcs qs hs ++ zrs (m + 1)).take (3 * qs.length) ++ rrow q h ++ (rcs qs hs ++ zrs (m + 1)).drop (3 * qs.length + 3) = rcs (qs ++ [q]) (hs ++ [h]) ++ zrs m:=by
 have hL:(rcs qs hs).length = 3 * qs.length:=by rw [rcs_len hl];omega
 rw [List.take_left' hL,← hL,List.drop_length_add_append,zrs_step,rcs_app hl,rcs_one]
section
variable {P:Program} {E:Env P} {n:Sh} {X:Cx} {s:List K} {fr:Fr} {A A':List Ch} {ops:Array Oper} {rest:List Oper} {d m N sz by_:Nat} {ty t t' el:TypeId} {pos:String} {after:Array Edge} {v u z:Value} {x y:Operand} {xs vs:List Value} {dt:TypeDesc} {k1 k':IntKind} {w:World}
end
end Go.Art
namespace Go.Art
open Go Go.RowKit
def noDef (ops:Array Oper):Bool:=ops.all fun o=>match o.op with
 | .defer _=>false
 | _=>true
theorem noDef_spec {ops:Array Oper} (h:noDef ops = true) {j:Nat} {oj:Oper} (hj:ops[j]? = some oj):∀ c,oj.op ≠ .defer c:=fun c e=>by
 have:=(Array.all_eq_true.1 h) j (by
  rcases Nat.lt_or_ge j ops.size with h1 | h1
  ·exact h1
  ·rw [Array.getElem?_eq_none h1] at hj;cases hj)
 have h2:ops[j]'(by
  rcases Nat.lt_or_ge j ops.size with h1 | h1
  ·exact h1
  ·rw [Array.getElem?_eq_none h1] at hj;cases hj) = oj:=by
  have h3:=(Array.getElem?_eq_some_iff.1 hj).2
  exact h3
 rw [h2] at this
 simp only [e] at this
 cases this
section
variable {F:Fence} {m:Nat} {P:Program} {md:Region.Mode} {ops:Array Oper} {Q:Exit→Act→World→Prop} {S:World→Prop}
theorem upon_move {o:Oper} {a b:Act} {K K':Act→World→Prop} {r:Result Next} (h1:∀ u w,K (b.put o.dst u) w→K' (a.put o.dst u) w) (h2:∀ d w,K (({ b with defers:=d :: b.defers }:Act).put o.dst undef) w→K' (({ a with defers:=d :: a.defers }:Act).put o.dst undef) w)
  (h3:∀ c w,Q (.panic c) b w→Q (.panic c) a w) (h:o.uponIn F m P b K Q r):o.uponIn F m P a K' Q r:=by
 cases r with
 | ok x w'=>
  cases x with
  | value u=>exact h1 _ _ h
  | skip=>exact h1 _ _ h
  | defer d=>exact h2 _ _ h
  | enter f args=>exact ⟨h.1,CallsIn.mono h.2 fun e w'' he=>match e,he with
   | .returned u,he=>h1 _ _ he
   | .panicked c,he=>h3 _ _ he
   | .outgrown,he=>he⟩
  | row row args=>exact ⟨h.1,RowsIn.mono h.2 fun u w'' he=>h1 _ _ he⟩
  | round l f tmps assign body=>exact ⟨h.1,RoundIn.mono h.2 fun e w'' he=>match e,he with
   | .returned u,he=>h1 _ _ he
   | .panicked c,he=>h3 _ _ he
   | .outgrown,he=>he⟩
  | _=>exact h
 | halt x w'=>
  cases x with
  | panic v=>exact h3 _ _ h
  | _=>exact h
theorem upon_own {o:Oper} {a:Act} {K:Act→World→Prop} {r:Result Next} (h:o.uponIn F m P a K Q r):o.uponIn F m P a (fun a' w'=>(∃ u df,a' = ({ a with defers:=df }:Act).put o.dst u)∧K a' w') Q r:=
 upon_move (fun u w h=>⟨⟨u,a.defers,rfl⟩,h⟩) (fun d w h=>⟨⟨undef,d :: a.defers,rfl⟩,h⟩) (fun _ _ h=>h) h
theorem op_ownR {j:Nat} {oj:Oper} {K:Act→World→Prop} {a:Act} {w:World} (hj:ops[j]? = some oj) (h:wpOpIn F m P ops Q j K a w) :
  wpOpIn F m P ops Q j (fun a' w'=>(∃ u df,a' = ({ a with defers:=df }:Act).put oj.dst u)∧K a' w') a w:=by
 unfold wpOpIn at *
 simp only [hj] at *
 split
 ·rename_i hw
  rw [if_pos hw] at h
  exact ⟨h.1,upon_own h.2⟩
 ·rename_i hw
  rw [if_neg hw] at h
  exact ⟨h.1,⟨_,a.defers,rfl⟩,h.2⟩
theorem op_putR {j d:Nat} {oi oj:Oper} {v:Value} {K:Act→World→Prop} {a:Act} {w:World} (hnd:∀ c,oj.op ≠ .defer c) (hj:ops[j]? = some oj) (hdi:oi.dst = some d) (hap:oi.apart ops oj = true) (hsj:∀ cs b,oj.op ≠ .select cs b) (hQ:∀ c a w,¬ Q (.panic c) a w)
  (h:wpOpIn F m P ops Q j K (a.put oi.dst v) w):wpOpIn F m P ops Q j (fun a' w'=>K (a'.put oi.dst v) w') a w:=by
 obtain ⟨p1,p2,p3⟩:=Oper.apart_spec hap
 unfold wpOpIn at *
 simp only [hj] at *
 rw [wanted_put oj a oi.dst v p1,about_put oj w a oi.dst v p1] at h
 split
 ·rename_i hw
  rw [if_pos hw] at h
  have h1:=h.1
  have h2:=h.2
  rw [Oper.semAt_eq _ _ _ hnd,execOp_put oj hsj a oi.dst v p1] at h2
  rw [about_put oj w a oi.dst v p1] at h1
  refine ⟨h1,?_⟩
  rw [Oper.semAt_eq _ _ _ hnd]
  refine upon_move (fun u w hk=>?_) (fun dd w hk=>?_) (fun c w hk=>absurd hk (hQ c _ w)) h2
  ·rw [← Act.put_comm a v u p2];exact hk
  ·rw [← Act.put_comm _ v undef p2,← Act.put_defers];exact hk
 ·rename_i hw
  rw [if_neg hw] at h
  refine ⟨h.1,?_⟩
  rw [← Act.put_comm a v undef p2];exact h.2
theorem wpAnyS_takeR {i d:Nat} {o:Op} {ty:TypeId} {pos:String} {after:Array Edge} {v:Value} (hnd:noDef ops = true) (hi:ops[i]? = some ⟨some d,o,ty,pos,after,none⟩) (hs:Region.noSelect ops = true) (hQ:∀ c a w,¬ Q (.panic c) a w) :
  ∀ (fuel:Nat) (listed:Array Bool) (a:Act) (w:World),Region.free md ops listed i = true→(Region.ready md ops listed).contains i = true→YS P S ⟨some d,o,ty,pos,after,none⟩ v a→S w →
   wpAnyS F m P md ops Q S fuel (listed.setIfInBounds i true) (a.put (some d) v) w→wpAnyS F m P md ops Q S (fuel + 1) listed a w:=by
 have hsel:=fun j oj cs b (h:ops[j]? = some oj)=>Region.noSelect_spec hs j oj cs b h
 have now:∀ (K:Act→World→Prop) (a:Act) (w:World),YS P S ⟨some d,o,ty,pos,after,none⟩ v a→S w→K (a.put (some d) v) w→wpOpIn F m P ops Q i K a w:=fun K a w hy hS h=>by
  unfold wpOpIn
  have hn:∀ c,(⟨some d,o,ty,pos,after,none⟩ : Oper).op ≠ .defer c:=noDef_spec hnd hi
  simp only [hi,Region.wanted,if_true,Oper.wpIn]
  rw [Oper.semAt_eq _ _ _ hn,(hy w hS).1]
  exact ⟨fun f hf=>(by rw [(hy w hS).2] at hf;cases hf),h⟩
 have gen:∀ (fuel:Nat) (listed:Array Bool) (a:Act) (w:World),(∀ j oj,ops[j]? = some oj→j ≠ i→listed.getD j true = false→(∀ e ∈ oj.after,Region.binds md e = true→e.on ≠ i)→Oper.apart ops ⟨some d,o,ty,pos,after,none⟩ oj = true) →
   i ∈ Region.ready md ops listed→YS P S ⟨some d,o,ty,pos,after,none⟩ v a→S w→wpAnyS F m P md ops Q S fuel (listed.setIfInBounds i true) (a.put (some d) v) w→wpAnyS F m P md ops Q S (fuel + 1) listed a w:=by
  intro fuel
  induction fuel with
  | zero=>
   intro listed a w _ hr hy hS H
   refine ⟨fun h=>(by rw [h] at hr;cases hr),fun j hj=>?_⟩
   by_cases hji:j = i
   ·subst hji;exact now _ a w hy hS ⟨hS,H⟩
   ·have:=ready_mono hj hji
    rw [H.1] at this
    cases this
  | succ fuel ih=>
   intro listed a w hfree hr hy hS H
   refine ⟨fun h=>(by rw [h] at hr;cases hr),fun j hj=>?_⟩
   by_cases hji:j = i
   ·subst hji;exact now _ a w hy hS ⟨hS,H⟩
   ·obtain ⟨hjun,oj,hoj,hall⟩:=mem_ready.1 hj
    have hnot:∀ e ∈ oj.after,Region.binds md e = true→e.on ≠ i:=fun e he hb heq=>by
     have h1:=hall e he hb
     have h0:=(mem_ready.1 hr).1
     rw [heq] at h1
     rcases Nat.lt_or_ge i listed.size with h' | h'
     ·simp [h'] at h0 h1;rw [h0] at h1;cases h1
     ·simp [Array.getElem?_eq_none h'] at h1
    have hap:=hfree j oj hoj hji hjun hnot
    obtain ⟨p1,p2,p3⟩:=Oper.apart_spec hap
    have h2:=op_putR (oi:=⟨some d,o,ty,pos,after,none⟩) (noDef_spec hnd hoj) hoj rfl hap (fun cs b=>hsel j oj cs b hoj) hQ (H.2 j (ready_mono hj hji))
    have h3:=op_ownR hoj h2
    refine wpOpIn_mono (fun a' w' h4=>?_) h3
    obtain ⟨⟨u,df,rfl⟩,hS',h5⟩:=h4
    have hy':YS P S ⟨some d,o,ty,pos,after,none⟩ v (({ a with defers:=df }:Act).put oj.dst u):=fun w hw=>by
     rw [execOp_put _ (fun cs b=>hsel i _ cs b hi) ({ a with defers:=df }:Act) oj.dst u p3,about_put _ w ({ a with defers:=df }:Act) oj.dst u p3]
     exact hy w hw
    have hfree':∀ k ok,ops[k]? = some ok→k ≠ i→(listed.setIfInBounds j true).getD k true = false→(∀ e ∈ ok.after,Region.binds md e = true→e.on ≠ i)→Oper.apart ops ⟨some d,o,ty,pos,after,none⟩ ok = true:=fun k ok hk hki hun hno=>by
     refine hfree k ok hk hki ?_ hno
     by_cases hjk:j = k
     ·subst hjk;exact hjun
     ·rw [getD_set_ne true hjk] at hun;exact hun
    refine ⟨hS',ih (listed.setIfInBounds j true) _ w' hfree' (ready_mono hr (Ne.symm hji)) hy' hS' ?_⟩
    rw [Array.setIfInBounds_comm _ _ hji]
    exact h5
 intro fuel listed a w hf hr hy hS H
 exact gen fuel listed a w (Region.free_spec hi hf) (by simpa using hr) hy hS H
end
section
variable {P:Program} {E:Env P} {n:Sh} {X:Cx} {s:List K} {fr:Fr} {A A' B:List Ch} {ops:Array Oper} {d:Nat} {o:Op} {ty:TypeId} {pos:String} {after:Array Edge} {v:Value} {fuel:Nat} {listed:Array Bool} {S:World→Prop}
theorem kr (i:Nat) (hv:∀ w,S w→OpV P n fr o ty w v w) (k:TS E n X s S ops fuel (listed.setIfInBounds i true) ((d,v) :: fr) A) (hi:ops[i]? = some ⟨some d,o,ty,pos,after,none⟩:=by rfl) (hs:Region.noSelect ops = true:=by kernel_rfl) (hf:Region.free .any ops listed i = true:=by kernel_rfl)
  (hr:(Region.ready .any ops listed).contains i = true:=by kernel_rfl) (hnd:noDef ops = true:=by kernel_rfl) (hd:Nat.blt d n.n = true:=by rfl) (hab:∀ w ρ,(⟨some d,o,ty,pos,after,none⟩ : Oper).about P w ρ = none:=by exact fun _ _=>rfl):TS E n X s S ops (fuel + 1) listed fr A:=
 ⟨fun w hw hS a ha=>wpAnyS_takeR hnd hi hs (fun c a w h=>h.1 c rfl) fuel listed a w hf hr (fun w' hw'=>⟨(hv w' hw').run a ha _ _ _ _,hab _ _⟩) hS (k.run w hw hS _ (ha.put hd v))⟩
theorem kra (i:Nat) (k:TS E n X s S ops fuel (listed.setIfInBounds i true) ((d,v) :: fr) A) (hi:ops[i]? = some ⟨some d,o,ty,pos,after,none⟩:=by rfl) (hv:evOp E fr o = some v:=by rfl) (hs:Region.noSelect ops = true:=by kernel_rfl) (hf:Region.free .any ops listed i = true:=by kernel_rfl)
  (hr:(Region.ready .any ops listed).contains i = true:=by kernel_rfl) (hnd:noDef ops = true:=by kernel_rfl) (hd:Nat.blt d n.n = true:=by rfl) (hab:∀ w ρ,(⟨some d,o,ty,pos,after,none⟩ : Oper).about P w ρ = none:=by exact fun _ _=>rfl):TS E n X s S ops (fuel + 1) listed fr A:=
 kr i (fun _ _=>R_auto hv) k hi hs hf hr hnd hd hab
theorem krl (i:Nat) {t:TypeId} {x:Operand} {b j:Nat} {cs:List Value} {T:TypeId} {dt:TypeDesc} (hm:∀ w,S w→w.heap[b]? = some (.cells cs.toArray T (0,0))) (k:TS E n X s S ops fuel (listed.setIfInBounds i true) ((d,v) :: fr) A) (hi:ops[i]? = some ⟨some d,.load t x,ty,pos,after,none⟩:=by rfl) (hx:ev fr x = some (.pointer (some ⟨b,j,none⟩)):=by rfl)
  (hj:cs[j]? = some v:=by rfl) (ht:lk E.und t = some dt:=by rfl) (hg:aggB dt = false:=by rfl) (hs:Region.noSelect ops = true:=by kernel_rfl) (hf:Region.free .any ops listed i = true:=by kernel_rfl)
  (hr:(Region.ready .any ops listed).contains i = true:=by kernel_rfl) (hnd:noDef ops = true:=by kernel_rfl) (hd:Nat.blt d n.n = true:=by rfl):TS E n X s S ops (fuel + 1) listed fr A:=
 kr i (fun w hw=>R_load ht hg hx (blk_cell (hm w hw) (by simpa using hj))) k hi hs hf hr hnd hd
end
end Go.Art
namespace Go.Art
end Go.Art
set_option maxRecDepth 4000
namespace Go.Art
open Go Go.Proofs Go.RowKit
attribute [local irreducible] Fit pt own ro vw mpc lpt vels rels mow lrc dfr
def upFrom (k:Int):Int→List Int→Bool
 | _,[]=>true
 | last,x :: r=>decide (last < x) && (decide (x < k) && upFrom k x r)
def isSet (k:Int) (l:List Int):Bool:=upFrom k (-1) l && decide (0 < l.length)
end Go.Art
set_option maxRecDepth 4000
namespace Go.Art
open Go Go.Proofs Go.RowKit
attribute [local irreducible] Fit pt own ro vw mpc lpt vels rels mow lrc dfr
/-! ### Which of the lists is so -/
/-! ### In how many symbols two sets meet -/
def meetN (a b:List Int):Nat:=(a.filter fun x=>decide (x ∈ b)).length
end Go.Art
set_option maxRecDepth 4000
namespace Go.Art
open Go Go.Proofs Go.RowKit
attribute [local irreducible] Fit pt own ro vw mpc lpt vels rels mow lrc dfr
def stopE (k:Int) (ls:List (List Int)):Int:=if k < 1∨65536 < k then 3 else if ls.any (fun l=>!isSet k l) then 2 else 0
/-! ### Stopping sets -/
def isStop (ls:List (List Int)) (t:List Int):Bool:=!ls.any fun l=>decide ((meetN l t:Int) = 1)
def stopping (k:Int) (ls:List (List Int)) (t:List Int):Bool × Int:=if stopE k ls ≠ 0 then (false,stopE k ls) else if isSet k t = false then (false,2) else (isStop ls t,0)
end Go.Art
set_option maxRecDepth 4000
namespace Go.Art
open Go Go.Proofs Go.RowKit
attribute [local irreducible] Fit pt own ro vw mpc lpt vels rels mow lrc dfr
def meetC (l t:List Int):Nat:=(t.map fun x=>l.count x).sum
end Go.Art
set_option maxRecDepth 4000
namespace Go.Art
open Go
inductive Kn (ls:List (List Int)):Int→Prop
 | mk (l:List Int) (s:Int) (hl:l ∈ ls) (hs:s ∈ l) (h:∀ x ∈ l,x ≠ s→Kn ls x):Kn ls s
def cnt (p:Int→Bool) (l:List Int):Nat:=(l.filter p).length
theorem cnt_one_of {p:Int→Bool} {l:List Int} (hn:l.Nodup) {s:Int} (hs:s ∈ l) (hp:p s = true) (h:∀ x ∈ l,x ≠ s→p x = false):cnt p l = 1:=by
 have hm:∀ x,x ∈ l.filter p ↔ x = s:=fun x=>by
  rw [List.mem_filter]
  constructor
  ·rintro ⟨h1,h2⟩
   by_cases e:x = s
   ·exact e
   ·rw [h x h1 e] at h2;cases h2
  ·rintro rfl;exact ⟨hs,hp⟩
 have hnd:(l.filter p).Nodup:=hn.sublist List.filter_sublist
 unfold cnt
 cases hf:l.filter p with
 | nil=>have:=(hm s).2 rfl;rw [hf] at this;cases this
 | cons a r=>
  rw [hf] at hm hnd
  cases r with
  | nil=>rfl
  | cons b r=>
   have h1:=(hm a).1 (by simp)
   have h2:=(hm b).1 (by simp)
   simp [h1,h2] at hnd
theorem Kn.not {ls:List (List Int)} {p:Int→Bool} (hn:∀ l ∈ ls,l.Nodup) (h:∀ l ∈ ls,cnt p l ≠ 1) {s:Int} (hk:Kn ls s):p s = false:=by
 induction hk with
 | mk l s hl hs _ ih=>
  cases hp:p s with
  | false=>rfl
  | true=>exact absurd (cnt_one_of (hn l hl) hs hp ih) (h l hl)
theorem Kn.mono {ls ls':List (List Int)} (h:∀ l ∈ ls,l ∈ ls') {s:Int} (hk:Kn ls s):Kn ls' s:=by
 induction hk with
 | mk l s hl hs _ ih=>exact .mk l s (h l hl) hs ih
def belowI (k:Int):List Int:=(List.range k.toNat).map (fun i:Nat=>(i:Int))
theorem belowI_len (k:Int):(belowI k).length = k.toNat:=by simp [belowI]
theorem mem_belowI {k x:Int}:x ∈ belowI k ↔ 0 ≤ x∧x < k:=by
 simp only [belowI,List.mem_map,List.mem_range]
 constructor
 ·rintro ⟨i,h,rfl⟩;omega
 ·rintro ⟨h1,h2⟩;exact ⟨x.toNat,by omega,by omega⟩
theorem belowI_sorted (k:Int):(belowI k).Pairwise (· < ·):=by
 unfold belowI
 rw [List.pairwise_map]
 exact List.pairwise_lt_range.imp fun h=>by omega
open Classical in
noncomputable def knownL (k:Int) (ls:List (List Int)):List Int:=(belowI k).filter fun s=>decide (Kn ls s)
open Classical in
noncomputable def largeL (k:Int) (ls:List (List Int)):List Int:=(belowI k).filter fun s=>!decide (Kn ls s)
end Go.Art
set_option maxRecDepth 4000
namespace Go.Art
open Go Go.Proofs Go.RowKit
attribute [local irreducible] Fit pt own ro vw mpc lpt vels rels mow lrc dfr
def left (G:Int→Option Value) (x:Int):Bool:=(G x).isSome
def loneL (many:List Int) (G:Int→Option Value) (ls:List (List Int)) (i:Nat):List Int:=if many.getD i 0 = 1 then (ls.getD i []).filter (left G) else []
end Go.Art
set_option maxRecDepth 4000
namespace Go.Art
open Go Go.Proofs Go.RowKit
attribute [local irreducible] Fit pt own ro vw mpc lpt vels rels mow lrc dfr
def idx (ls:List (List Int)) (x:Int) (i:Nat):List Int:=((List.range i).filter fun j=>decide (x ∈ ls.getD j [])).map fun j:Nat=>(j:Int)
structure UInv (k:Int) (ls:List (List Int)) (G:Int→Option Value) (g:Int→List Int) (many q:List Int):Prop where
 dom:∀ x,left G x = true→0 ≤ x∧x < k
 sets:∀ x,left G x = true→g x = idx ls x ls.length
 gone:∀ x,0 ≤ x→x < k→left G x = false→Kn ls x
 len:many.length = ls.length
 que:∀ x ∈ q,0 ≤ x∧x < k∧Kn ls x
 size:q.length + cnt (left G) (belowI k) * (ls.length + 1) ≤ (k.toNat + 1) * (ls.length + 1)
def Fine1 (ls:List (List Int)) (G:Int→Option Value) (many q:List Int) (i:Nat):Prop:=
 many.getD i 0 = cnt (left G) (ls.getD i [])∧(cnt (left G) (ls.getD i []) = 1→∀ x ∈ ls.getD i [],left G x = true→x ∈ q)
structure VInv (k:Int) (ls:List (List Int)) (G:Int→Option Value) (g:Int→List Int) (x:Int) (W many q r:List Int) (j:Nat):Prop where
 inv:UInv k ls G g many q
 many:∀ i,i < ls.length→many.getD i 0 = cnt (left G) (ls.getD i []) + (if x ∈ ls.getD i []∧(i:Int) ∉ W.take j then 1 else 0)
 fine:∀ i,i < ls.length→(x ∉ ls.getD i []∨(i:Int) ∈ W.take j)→cnt (left G) (ls.getD i []) = 1→∀ y ∈ ls.getD i [],left G y = true→y ∈ q
 bud:q.length + cnt (left G) (belowI k) * (ls.length + 1) + (W.length - j) + 1 ≤ (k.toNat + 1) * (ls.length + 1)
 qlen:q.length ≤ r.length + j
end Go.Art
set_option maxRecDepth 4000
namespace Go.Art
open Go Go.Proofs Go.RowKit
attribute [local irreducible] Fit pt own ro vw mpc lpt vels rels mow lrc dfr
structure UG where
 G:Int→Option Value
 many:List Int
 q:List Int
 qv:Value
structure UF where
 i:Nat
 G:Int→Option Value
 g:Int→List Int
 many:List Int
abbrev TQ':TypeId:=207
abbrev TM':TypeId:=160
end Go.Art
set_option maxRecDepth 4000
namespace Go.Art
open Go Go.Proofs Go.RowKit
attribute [local irreducible] Fit pt own ro vw mpc lpt vels rels mow lrc dfr
noncomputable def knownR (k:Int) (ls:List (List Int)):List Int:=if stopE k ls = 0 then knownL k ls else []
end Go.Art
set_option maxRecDepth 4000
namespace Go.Art
open Go Go.Proofs Go.RowKit
attribute [local irreducible] Fit pt own ro vw mpc lpt vels rels mow lrc dfr
abbrev W64 (n:Int):Value:=.int .u64 n
def bitsL (k n:Int):List Int:=(belowI k).filter fun i=>decide (n / 2 ^ i.toNat % 2 = 1)
/-! ### Examples -/
def knb (ls:List (List Int)):Nat→Int→Bool
 | 0,_=>false
 | n + 1,s=>ls.any fun l=>l.contains s && l.all fun x=>x == s || knb ls n x
end Go.Art
set_option maxRecDepth 4000
namespace Go.Art
open Go Go.Proofs Go.RowKit
attribute [local irreducible] Fit pt own ro vw mpc lpt vels rels mow lrc dfr
abbrev Ws (l:List Int):List Value:=l.map W64
section
variable {P:Program} {E:Env P} {n:Sh} {X:Cx} {s:List K} {fr:Fr} {A A' B F:List Ch} {ops:Array Oper} {rest:List Oper} {d:Nat} {ty:TypeId} {pos:String} {after:Array Edge} {v:Value} {t t':TypeId} {x y:Operand} {c0:Code}
end
def setsL (k:Int) (zs:List Int):List (List Int):=(zs.map (bitsL k)).filter fun l=>decide (0 < l.length)
structure UnG where
 i:Nat
 o:Value
 hs:List Value
 ls:List (List Int)
end Go.Art
set_option maxRecDepth 4000
namespace Go.Art
open Go Go.Proofs Go.RowKit
attribute [local irreducible] Fit pt own ro vw mpc lpt vels rels mow lrc dfr
attribute [local irreducible] lmp lme mit
def KeysOf (f:Int→Option Value) (zs:List Int):Prop:=zs.Nodup∧∀ k,k ∈ zs ↔ (f k).isSome = true
noncomputable def largeR (k:Int) (ls:List (List Int)):List Int:=if stopE k ls = 0 then largeL k ls else []
end Go.Art
namespace Go.Art
open Go Go.Proofs Go.RowKit
abbrev irow (s:Value) (q:Rat) (h:Value × Value):List Value:=s :: rrow q h
def ics (ss:List Value) (qs:List Rat) (hs:List (Value × Value)):List Value:=(List.zipWith List.cons ss (List.zipWith rrow qs hs)).flatten
section
variable {P:Program} {E:Env P} {n:Sh} {fr:Fr} {A A' D G:List Ch} {m:Nat}
end
abbrev TIm:TypeId:=125
abbrev TSm:TypeId:=110
attribute [local irreducible] Fit pt own ro vw mpc lpt vels rels mow lrc dfr
attribute [local irreducible] lmp lme mit velg relg bnd owl dfrl
end Go.Art
namespace Go.Art
open Go Go.Proofs Go.RowKit
def sumW (W:List (List Int)→Bool) (L:List (List Int × Nat)) (D n:Nat):Fr3 × Int:=
 if L.length ≤ 4096∧L.length ^ n ≤ 4096 then (rqf (mkRat ((natG W L n [] 1:Nat):Int) (D ^ n)),0) else (rqn,4)
abbrev fracs (L:List (List Int × Nat)) (D:Nat):List Rat:=L.map fun s=>mkRat ((s.2:Nat):Int) D
structure SmG where
 j:Nat
 vn:Value
 vd:Value
structure SnG where
 j:Nat
 sv:Value
 mv:Value
attribute [local irreducible] Fit pt own ro vw mpc lpt vels rels mow lrc dfr
attribute [local irreducible] lmp lme mit velg relg bnd owl dfrl accN natG tupN prdW
end Go.Art
namespace Go.Art
open Go Go.Proofs Go.RowKit
structure SeqO (P:Program) (f:FuncId) (cap:Array Value) (T:TypeId) (pre:List Ch) (L:List (List Int)):Prop where
 run:∀ {α:Type} (l:Nat) (J:α→Ch) (pl:α→Nat→Prop) (S:α→Prop) (a0:α),pl a0 0→(∀ a b,¬ (J a).bd b) →
  (∀ a i x,x.oneCell' = true→pl a i→i < L.length→Ty P l [x] [] [own T x (Is (L.getD i [])),J a] fun ok B=>∃ a',B = [J a']∧((ok = true∧pl a' (i + 1))∨(ok = false∧S a'))) →
  Tr P f (yv l :: cap.toList) pre [J a0] fun _ B=>∃ a,B = [J a]∧(pl a L.length∨S a)
 lent:∀ c ∈ pre,∀ b,¬ c.wr b∧¬ c.rd b
open Go Go.Proofs Go.RowKit
attribute [local irreducible] Fit pt own ro vw mpc lpt vels rels mow lrc dfr
attribute [local irreducible] lmp lme mit velg relg bnd owl dfrl
end Go.Art
namespace Go.Art
open Go Go.Proofs Go.RowKit
def pasc (n:Nat):List (List Int):=(List.range (n + 1)).map fun j=>Zs (dg (chs n j))
theorem pasc_len (n:Nat):(pasc n).length = n + 1:=by simp [pasc]
theorem pasc_get (n j:Nat) (h:j ≤ n):(pasc n).getD j [] = Zs (dg (chs n j)):=by
 simp [pasc,List.getD_eq_getElem?_getD,List.getElem?_range (show j < n + 1 by omega)]
theorem pasc_take (n i:Nat) (h:i ≤ n):(pasc n).take (i + 1) = (pasc n).take i ++ [Zs (dg (chs n i))]:=by
 rw [take_succ' (by rw [pasc_len];omega) [],pasc_get n i h]
abbrev TNN:TypeId:=92
theorem owl_takeF {e:TypeId} {g:Int→Value} {hs:List Value} {ls:List (List Int)} {A F:List Ch} (hl:hs.length = ls.length) {i:Nat} (h:i < ls.length) (hf:Fit A [owl e g hs ls] F):Im A (own e (hs.getD i nS) ((ls.getD i []).map g) :: bnd ((owls e g hs ls).eraseIdx i) :: F):=Im.trans hf (owl_take hl h F)
structure NxG where
 i:Nat
 o:Value
 hs:List Value
attribute [local irreducible] Fit pt own ro vw mpc lpt vels rels mow lrc dfr
attribute [local irreducible] lmp lme mit velg relg bnd owl
theorem Rnext_tr (v:Value) (hs:List Value) (n:Nat) (hn:n ≤ 65536):Tr Tryz.prog 291 [v] [vw v hs,velg wU hs (pasc n)] [] fun u D=>∃ hs',u.oneCell' = true∧hs'.length = n + 2∧D = [own TN u hs',owl T64 wU hs' (pasc (n + 1))]:=by
 have hpl:=pasc_len n
 have hO:=ROf_tr 1 (by decide)
 have e1:dg 1 = dg (chs (n + 1) 0):=by rw [chs_zero]
 rw [e1,Us_eq] at hO
 refine Tr.enter env _ Tryz.func291 (by kernel_rfl) rfl Tryz.ntmps291 rfl (by repeat (first | exact has00 | refine has01 ?_)) fun w0=>?_
 refine TC.elg (g:=wU) (hs:=hs) (ls:=pasc n) (fun hll=>?_)
 repeat' first|(refine gca ?_;first|(refine ca hO ?_;rintro o1 _ ⟨ho1,rfl⟩))|(refine sli (vs:=[o1]) (fun q1=>?_) (h1:=one_cons ho1 one_nil);refine TO.one (v:=q1) (xs:=[o1]) fun hq1=>?_)|(refine wo ?_;first|refine oa ?_)|refine sq ?_|refine rg ?_|refine xc ?_|refine nl ?_|refine bk ?_
 refine TC.im (owl_nil (e:=T64) (g:=wU) _) ?_
 refine TC.im (owl_push (hs:=[]) (ls:=[]) (v:=o1) (l:=Zs (dg (chs (n + 1) 0))) rfl fitA) ?_
 refine TC.loop (ι:=NxG) (fun g=>[(4,I g.i),(3,g.o)]) (fun g=>[own TN g.o g.hs,owl T64 wU g.hs ((pasc (n + 1)).take g.i)]) (fun g=>(1 ≤ g.i∧g.i ≤ n + 1)∧g.hs.length = g.i∧g.o.oneCell' = true) (fun g=>n + 1 - g.i) ⟨1,q1,[o1]⟩ [0] ⟨⟨Nat.le_refl _,by dsimp only;omega⟩,rfl,hq1⟩ ?_ (hf:=by dsimp only;rw [show (pasc (n + 1)).take 1 = [] ++ [Zs (dg (chs (n + 1) 0))] from pasc_take (n + 1) 0 (Nat.zero_le _)];exact fitA)
 rintro ⟨i,o,hs2⟩ ⟨⟨hi1,hi2⟩,h2,ho⟩
 dsimp only at hi1 hi2 h2 ho ⊢
 by_cases hlt:i < n + 1
 ·have hH:∀ (F:List Ch) (j:Nat),j ≤ n→Has F (velg wU hs (pasc n))→Has F (vw (hs.getD j nS) (Us (dg (chs n j)))):=fun F j hj h=>by
   have:=has_elg h (i:=j) (by omega)
   rwa [pasc_get n j hj,← Us_eq] at this
  have hk:((i:Int) - 1).toNat = i - 1:=by omega
  have hA:=RAdd_tr (hs.getD ((i:Int) - 1).toNat nS) (hs.getD i nS) (dg (chs n (i - 1))) (dg (chs n i)) (Dg_dg _) (Dg_dg _) (by have:=chs_len n (i - 1);omega) (by have:=chs_len n i;omega)
  have hsum:chs n (i - 1) + chs n i = chs (n + 1) i:=by
   obtain ⟨k,rfl⟩ : ∃ k,i = k + 1:=⟨i - 1,by omega⟩
   rfl
  rw [nv_dg,nv_dg,hsum,Us_eq (dg (chs (n + 1) i))] at hA
  have hpt:=pasc_take (n + 1) i (by omega)
  have hll2:((pasc (n + 1)).take i).length = i:=by rw [List.length_take,pasc_len];omega
  have hg1:hs[((i:Int) - 1).toNat]? = some (hs.getD ((i:Int) - 1).toNat nS):=by rw [List.getD_eq_getElem?_getD,List.getElem?_eq_getElem (by omega)];rfl
  have hg2:hs[i]? = some (hs.getD i nS):=by rw [List.getD_eq_getElem?_getD,List.getElem?_eq_getElem (by omega)];rfl
  repeat' first|(refine wo ?_;first|(refine ao ?_;first|refine oa ?_)|refine oa ?_|refine ln ?_)|(refine gc ?_;first|(refine ci (fun hB=>?_) (fun hB=>?_) <;> try (exfalso;omega)))|refine sq ?_|refine rg ?_|refine xc ?_|refine nl ?_|refine sk ?_|refine bk ?_
  refine rs (fun w=>Sl w v hs) ?_ (fun w hw=>has_sl (xs:=hs) hw hasA)
  refine tka 0 ?_
  refine tka 1 ?_
  refine tka 2 ?_
  refine tkw 3 ((i:Int) - 1) ?_
  refine tk 4 (v:=.pointer (some (addrAt v ((i:Int) - 1).toNat))) (fun w h=>R_idx (E:=env) (i:=(i:Int) - 1) rfl rfl rfl rfl h ⟨by omega,by omega⟩) ?_
  refine tk 5 (v:=hs.getD ((i:Int) - 1).toNat nS) (fun w h=>R_load (E:=env) rfl rfl rfl (h.cell hg1)) ?_
  refine tka 6 ?_
  refine tka 7 ?_
  refine tk 8 (v:=.pointer (some (addrAt v i))) (fun w h=>R_idx (E:=env) (i:=(i:Int)) rfl rfl rfl rfl h ⟨by omega,by omega⟩) ?_
  refine tk 9 (v:=hs.getD i nS) (fun w h=>R_load (E:=env) rfl rfl rfl (h.cell hg2)) ?_
  refine t1 10 ?_
  refine ca hA ?_ (hp:=has1 (by rw [hk];exact hH _ _ (by omega) hasA) (has1 (hH _ _ (by omega) hasA) has0))
  rintro av _ ⟨hav,rfl⟩
  refine nl ?_
  refine te (fun w hw=>has_sl (xs:=hs) hw hasA) ?_
  refine t1 11 ?_
  refine sli (vs:=[av]) (fun q2=>?_) (h1:=one_cons hav one_nil)
  refine nl ?_
  refine te (fun w hw=>has_sl (xs:=hs) hw hasA) ?_
  refine t1 12 ?_
  refine ap (xs:=hs2) (news:=[av]) (fun o2=>?_) (h1:=one_cons hav one_nil)
  refine TO.one (v:=o2) (xs:=hs2 ++ [av]) fun ho2=>?_
  refine nl ?_
  refine te (fun w hw=>has_sl (xs:=hs) hw hasA) ?_
  refine tka 13 ?_
  refine t0 ?_
  refine TX.im (owl_push (l:=Zs (dg (chs (n + 1) i))) (by rw [h2,hll2]) fitA) ?_
  repeat' first|(refine wo ?_;first|(refine ao ?_;first|refine aw ?_)|refine oa ?_)|refine rg ?_|refine xc ?_|refine nl ?_|refine xb ?_
  exact lp ⟨i + 1,o2,hs2 ++ [av]⟩ ⟨⟨by dsimp only;omega,hlt⟩,by simp [h2],ho2⟩ (hf:=by dsimp only;rw [hpt];exact fitA)
 ·obtain rfl:i = n + 1:=by omega
  have hpt:=pasc_take (n + 1) (n + 1) (Nat.le_refl _)
  have hpa:(pasc (n + 1)).take (n + 1 + 1) = pasc (n + 1):=List.take_of_length_le (by rw [pasc_len];omega)
  have hO2:=ROf_tr 1 (by decide)
  have e2:dg 1 = dg (chs (n + 1) (n + 1)):=by rw [chs_self]
  rw [e2,Us_eq] at hO2
  have hll2:((pasc (n + 1)).take (n + 1)).length = n + 1:=by rw [List.length_take,pasc_len];omega
  repeat' first|(refine gca ?_;first|(refine ca hO2 ?_;rintro o3 _ ⟨ho3,rfl⟩))|(refine sli (vs:=[o3]) (fun q3=>?_) (h1:=one_cons ho3 one_nil))|(refine ap (xs:=hs2) (news:=[o3]) (fun o4=>?_) (h1:=one_cons ho3 one_nil);refine TO.one (v:=o4) (xs:=hs2 ++ [o3]) fun ho4=>?_)|(refine wo ?_;first|(refine ao ?_;first|refine oa ?_)|refine oa ?_|refine ln ?_)|(refine gc ?_;first|(refine ci (fun hB=>?_) (fun hB=>?_) <;> try (exfalso;omega)))|refine sq ?_|refine rg ?_|refine xc ?_|refine nl ?_|refine xe ?_|refine rt ?_
  refine TX.im (owl_push (l:=Zs (dg (chs (n + 1) (n + 1)))) (by rw [h2,hll2]) fitA) ?_
  rw [← hpt,hpa]
  exact r1 ⟨hs2 ++ [o3],ho4,by simp [h2],rfl⟩
theorem Rrow_tr (n:Nat) (hn:n ≤ 65536):Tr Tryz.prog 269 [I n] [] [] fun u D=>∃ hs,u.oneCell' = true∧hs.length = n + 1∧D = [own TN u hs,owl T64 wU hs (pasc n)]:=by
 have hO:=ROf_tr 1 (by decide)
 have e1:dg 1 = dg (chs 0 0):=rfl
 rw [e1,Us_eq] at hO
 refine Tr.enter env _ Tryz.func269 (by kernel_rfl) rfl Tryz.ntmps269 rfl (by repeat (first | exact has00 | refine has01 ?_)) fun w0=>?_
 repeat' first|(refine gca ?_;first|(refine ca hO ?_;rintro o1 _ ⟨ho1,rfl⟩))|(refine sli (vs:=[o1]) (fun q1=>?_) (h1:=one_cons ho1 one_nil);refine TO.one (v:=q1) (xs:=[o1]) fun hq1=>?_)|(refine wo ?_;first|refine oa ?_)|refine sq ?_|refine rg ?_|refine xc ?_|refine nl ?_|refine bk ?_
 refine TC.im (owl_nil (e:=T64) (g:=wU) _) ?_
 refine TC.im (owl_push (hs:=[]) (ls:=[]) (v:=o1) (l:=Zs (dg (chs 0 0))) rfl fitA) ?_
 refine TC.loop (ι:=NxG) (fun g=>[(4,I g.i),(3,g.o)]) (fun g=>[own TN g.o g.hs,owl T64 wU g.hs (pasc g.i)]) (fun g=>g.i ≤ n∧g.hs.length = g.i + 1∧g.o.oneCell' = true) (fun g=>n - g.i) ⟨0,q1,[o1]⟩ [0] ⟨Nat.zero_le _,rfl,hq1⟩ ?_ (hf:=by dsimp only;rw [show pasc 0 = [] ++ [Zs (dg (chs 0 0))] from rfl];exact fitA)
 rintro ⟨i,o,hs2⟩ ⟨hi,h2,ho⟩
 dsimp only at hi h2 ho ⊢
 by_cases hlt:i < n
 ·repeat' first|(refine gca ?_;first|(refine ca (Rnext_tr o hs2 i (by omega)) ?_ (hp:=has1 hasA (has1 (has_owl (by rw [h2,pasc_len]) memA) has0));rintro o2 _ ⟨hs3,ho2,hl3,rfl⟩))|(refine wo ?_;first|(refine ao ?_;first|refine aw ?_|refine oa ?_)|refine oa ?_)|(refine gc ?_;first|(refine ci (fun hB=>?_) (fun hB=>?_) <;> try (exfalso;omega)))|refine sq ?_|refine rg ?_|refine xc ?_|refine nl ?_|refine sk ?_|refine bk ?_|refine xb ?_
  exact lp ⟨i + 1,o2,hs3⟩ ⟨hlt,hl3,ho2⟩
 ·obtain rfl:i = n:=by omega
  repeat' first|(refine wo ?_;first|(refine ao ?_;first|refine oa ?_)|refine oa ?_)|(refine gc ?_;first|(refine ci (fun hB=>?_) (fun hB=>?_) <;> try (exfalso;omega)))|refine sq ?_|refine rg ?_|refine xc ?_|refine nl ?_|refine xe ?_|refine rt ?_
  exact r1 ⟨hs2,ho,h2,rfl⟩
theorem RChoose_tr (n k:Nat) (hn:n ≤ 65536) (hk:k ≤ n):Tr Tryz.prog 224 [I n,I k] [] [] fun u D=>eNat u D (chs n k) 0:=by
 have hpl:=pasc_len n
 refine Tr.enter env _ Tryz.func224 (by kernel_rfl) rfl Tryz.ntmps224 rfl (by repeat (first | exact has00 | refine has01 ?_)) fun w0=>?_
 repeat' first|(refine gca ?_;first|(refine ca (Rrow_tr n hn) ?_;rintro o _ ⟨hs,ho,hl,rfl⟩;have hg:hs[k]? = some (hs.getD k nS):=(by rw [List.getD_eq_getElem?_getD,List.getElem?_eq_getElem (by omega)];rfl)))|refine le (xs:=hs) ?_ (hj:=hg)|(refine wo ?_;first|(refine ao ?_;first|refine oa ?_)|refine oa ?_|refine ixn ?_|refine gy ?_)|(refine gc ?_;first|(refine ci (fun hB=>?_) (fun hB=>?_) <;> try (exfalso;omega)))|refine sq ?_|refine rg ?_|refine xc ?_|refine nl ?_|refine sk ?_|refine bk ?_|refine rt ?_|refine xb ?_
 refine TX.im (owl_takeF (e:=T64) (g:=wU) (hs:=hs) (ls:=pasc n) (by rw [hl,hpl]) (i:=k) (by omega) fitA) ?_
 rw [pasc_get n k hk,← Us_eq]
 refine TX.one (v:=hs.getD k nS) (xs:=Us (dg (chs n k))) fun ho2=>?_
 exact r2 ⟨hs.getD k nS,rfl,ho2,rfl⟩
end Go.Art
namespace Go.Art
open Go Go.Proofs Go.RowKit
theorem chs_bnd:∀ n d,chs n d ≤ 2 ^ n
 | 0,0=>by simp [chs]
 | 0,d + 1=>by simp [chs]
 | n + 1,0=>by rw [show chs (n + 1) 0 = 1 from rfl];exact Nat.one_le_two_pow
 | n + 1,d + 1=>by
  rw [show chs (n + 1) (d + 1) = chs n d + chs n (d + 1) from rfl,Nat.pow_succ]
  have:=chs_bnd n d;have:=chs_bnd n (d + 1);omega
def risJ (d f k j:Nat):List (List Int):=(risR d (f + j + 1) k).map fun l=>((f + j:Nat):Int) :: l
structure RsG where
 i:Nat
 v:Value
 hs:List Value
attribute [local irreducible] Fit pt own ro vw mpc lpt vels rels mow lrc dfr
attribute [local irreducible] lmp lme mit velg relg bnd owl risJ
end Go.Art
namespace Go.Art
open Go Go.Proofs Go.RowKit
attribute [local irreducible] Fit pt own ro vw mpc lpt vels rels mow lrc dfr
theorem RSoCheck_tr (s:Value) (t:List Int) (k:Int):Tr Tryz.prog 109 [s,I k] [vw s (Is t)] [] fun v D=>v = I (solE t k)∧D = []:=by
 by_cases hg:k < 1∨65536 < k∨t.length < 1∨k < t.length
 ·rw [show solE t k = 13 from if_pos hg]
  refine Tr.enter env _ Tryz.func109 (by kernel_rfl) rfl Tryz.ntmps109 rfl (by repeat (first | exact has00 | refine has01 ?_)) fun w0=>?_
  refine TC.leni (l:=t) fun htl=>?_
  repeat' first|(refine wo ?_;first|(refine ao ?_;first|refine oa ?_)|refine oa ?_|refine lnm ?_|refine gy ?_|refine gn ?_|(refine gsi (fun hB=>?_) (fun hB=>?_) <;> try (exfalso;omega)))|(refine gc ?_;first|refine ct ?_|(refine ci (fun hB=>?_) (fun hB=>?_) <;> try (exfalso;omega)))|refine sq ?_|refine rg ?_|refine xc ?_|refine nl ?_|refine rt ?_
  all_goals first | exact r1 ⟨rfl,rfl⟩ | (exfalso;omega)
 rw [show solE t k = if t.all wOk && t.any wPos then 0 else 13 from if_neg hg]
 refine Tr.enter env _ Tryz.func109 (by kernel_rfl) rfl Tryz.ntmps109 rfl (by repeat (first | exact has00 | refine has01 ?_)) fun w0=>?_
 refine TC.leni (l:=t) fun htl=>?_
 repeat' first|(refine wo ?_;first|(refine ao ?_;first|refine oa ?_)|refine oa ?_|refine lnm ?_|refine gy ?_|(refine gsi (fun hB=>?_) (fun hB=>?_) <;> try (exfalso;omega)))|(refine gc ?_;first|(refine ci (fun hB=>?_) (fun hB=>?_) <;> try (exfalso;omega)))|refine sq ?_|refine rg ?_|refine xc ?_|refine nl ?_|refine sk ?_|refine bk ?_
 refine TC.loop (ι:=Nat × Bool) (fun i=>[(6,I i.1),(5,.bool i.2)]) (fun _=>[]) (fun i=>i.1 ≤ t.length∧(t.take i.1).all wOk = true∧i.2 = (t.take i.1).any wPos) (fun i=>t.length - i.1) (0,false) [0,1] ⟨by simp,rfl,rfl⟩ ?_
 rintro ⟨i,so⟩ ⟨h1,h2,h3⟩
 dsimp only at h1 h2 h3 ⊢
 by_cases hi:i < t.length
 ·have ha:=take_all (p:=wOk) hi
  have hb:=take_any (p:=wPos) hi
  have hc:=all_of_take (p:=wOk) hi
  generalize hy:t.getD i 0 = y at *
  repeat' first|refine lie hy ?_|(refine wo ?_;first|(refine ao ?_;first|refine aw ?_|refine oa ?_)|refine oa ?_|refine lnm ?_|refine ixmn ?_|refine gy ?_|refine gn ?_|(refine gsi (fun hB=>?_) (fun hB=>?_) <;> try (exfalso;omega))|(refine gs (fun hB=>?_) (fun hB=>?_) <;> try (exfalso;omega)))|(refine gc ?_;first|refine ct ?_|(refine ci (fun hB=>?_) (fun hB=>?_) <;> try (exfalso;omega)))|refine sq ?_|refine rg ?_|refine xc ?_|refine nl ?_|refine sk ?_|refine bk ?_|refine rt ?_|refine xb ?_
  ·refine r1 ⟨?_,rfl⟩
   rw [hc (by simp [wOk];omega)];rfl
  ·refine r1 ⟨?_,rfl⟩
   rw [hc (by simp [wOk];omega)];rfl
  ·have hw:wOk y = true:=by simp [wOk];omega
   exact lp (i + 1,true) ⟨by dsimp only;omega,by dsimp only;rw [ha,h2,hw];rfl,by dsimp only;rw [hb,← h3,hB];rfl⟩
  ·have hw:wOk y = true:=by simp [wOk];omega
   exact lp (i + 1,decide (0 < y)) ⟨by dsimp only;omega,by dsimp only;rw [ha,h2,hw];rfl,by dsimp only;rw [hb,← h3,hB];rfl⟩
 ·obtain rfl:i = t.length:=by omega
  rw [List.take_length] at h2 h3
  repeat' first|(refine wo ?_;first|(refine ao ?_;first|refine oa ?_)|refine oa ?_|refine lnm ?_)|(refine gc ?_;first|(refine ci (fun hB=>?_) (fun hB=>?_) <;> try (exfalso;omega))|(refine cb (fun hB=>?_) (fun hB=>?_) <;> try (exfalso;omega)))|refine sq ?_|refine rg ?_|refine xc ?_|refine nl ?_|refine sk ?_|refine xe ?_|refine rt ?_
  ·refine r1 ⟨?_,rfl⟩
   rw [h2,← h3,show so = false by simpa using hB];rfl
  ·refine r1 ⟨?_,rfl⟩
   rw [h2,← h3,show so = true by simpa using hB];rfl
end Go.Art
namespace Go.Art
open Go Go.Proofs Go.RowKit
structure RlG where
 i:Nat
 o:Value
 hs:List Value
attribute [local irreducible] Fit pt own ro vw mpc lpt vels rels mow lrc dfr
attribute [local irreducible] lmp lme mit velg relg bnd owl dfrl
def cntR (n S:Nat):Prop:=(n ≤ 4096→n = S)∧(4096 < n→4096 < S)∧n ≤ 8193
end Go.Art
namespace Go.Art
open Go Go.Proofs Go.RowKit
def szL (t:List Int) (k i:Nat):List (List Int):=if t.getD i 0 = 0 then [] else risR (i + 1) 0 k
theorem setP_zero (t:List Int) (k:Nat):setP t k 0 = []:=rfl
theorem setP_succ (t:List Int) (k n:Nat):setP t k (n + 1) = setP t k n ++ szL t k n:=fm_succ _ _
theorem solE_13 {t:List Int} {k:Int} (hz:¬ solE t k = 0):solE t k = 13:=by
 unfold solE at hz ⊢
 split
 ·rfl
 ·split
  ·rename_i a b;exact absurd (by rw [if_neg a,if_pos b]) hz
  ·rfl
attribute [local irreducible] Fit pt own ro vw mpc lpt vels rels mow lrc dfr
attribute [local irreducible] lmp lme mit velg relg bnd owl
structure SrG where
 i:Nat
 v:Value
 hs:List Value
attribute [local irreducible] setP szL solE
end Go.Art
namespace Go.Art
open Go Go.Proofs Go.RowKit
structure StG where
 i:Nat
 v:Value
 hs:List Value
 Ds:List Nat
attribute [local irreducible] Fit pt own ro vw mpc lpt vels rels mow lrc dfr
attribute [local irreducible] lmp lme mit velg relg bnd owl dfrl setP szL solE
end Go.Art
namespace Go.Art
open Go Go.Proofs Go.RowKit
def refE (t:List Int) (k n:Int):Int:=if solE t k = 0 then (if n < 0∨4096 < n then 3 else 0) else 13
def prodC (k:Nat):Nat→Nat
 | 0=>1
 | i + 1=>prodC k i * chs k (i + 1)
def prodX (k d:Nat):Nat→Nat
 | 0=>1
 | i + 1=>if i + 1 = d then prodX k d i else prodX k d i * chs k (i + 1)
theorem prodX_lt {k d:Nat}:∀ {n:Nat},n < d→prodX k d n = prodC k n
 | 0,_=>rfl
 | n + 1,h=>by unfold prodX prodC;rw [if_neg (by omega),prodX_lt (by omega)]
theorem prodX_mul {k d:Nat} (h1:1 ≤ d):∀ {n:Nat},d ≤ n→prodX k d n * chs k d = prodC k n
 | 0,h=>by omega
 | n + 1,h=>by
  unfold prodX prodC
  by_cases e:n + 1 = d
  ·rw [if_pos e,prodX_lt (by omega),e]
  ·rw [if_neg e,← prodX_mul h1 (by omega),Nat.mul_assoc,Nat.mul_comm (chs k (n + 1)),← Nat.mul_assoc]
theorem prodC_pos {k:Nat}:∀ {n:Nat},n ≤ k→prodC k n ≠ 0
 | 0,_=>Nat.one_ne_zero
 | n + 1,h=>by unfold prodC;exact Nat.mul_ne_zero (prodC_pos (by omega)) (chs_pos (by omega))
theorem prodC_le {k:Nat} (hk:k ≤ 40):∀ n,prodC k n ≤ 1099511627776 ^ n
 | 0=>by simp [prodC]
 | n + 1=>by
  unfold prodC
  rw [Nat.pow_succ]
  exact Nat.mul_le_mul (prodC_le hk n) (Nat.le_trans (chs_bnd k (n + 1)) (Nat.le_trans (Nat.pow_le_pow_right (by decide) hk) (by decide)))
theorem prodX_le {k d n:Nat} (h1:1 ≤ d) (h2:d ≤ n) (h3:n ≤ k):prodX k d n ≤ prodC k n:=by
 rw [← prodX_mul h1 h2]
 exact Nat.le_mul_of_pos_right _ (Nat.pos_of_ne_zero (chs_pos (by omega)))
def oneS (t:List Int) (k:Nat):Nat:=t.sum.toNat * prodC k t.length
def wS (t:List Int) (k d:Nat):Nat:=(t.getD (d - 1) 0).toNat * prodX k d t.length
def itemS (t:List Int) (k:Nat):List (List Int × Nat):=(setP t k t.length).map fun s=>(s,wS t k s.length)
theorem le_sum {t:List Int} (h:∀ w ∈ t,0 ≤ w):∀ w ∈ t,w ≤ t.sum:=by
 induction t with
 | nil=>intro w hw;cases hw
 | cons a r ih=>
  intro w hw
  have h1:0 ≤ r.sum:=by
   clear ih hw
   induction r with
   | nil=>simp
   | cons b s ih2=>
    have:=h b (by simp)
    have:=ih2 fun w hw=>h w (by rcases List.mem_cons.1 hw with rfl | hw;simp;simp [hw])
    simp only [List.sum_cons];omega
  rw [List.sum_cons]
  have ha:=h a (by simp)
  rcases List.mem_cons.1 hw with rfl | hw
  ·omega
  ·have:=ih (fun w hw=>h w (by simp [hw])) w hw;omega
theorem oneS_pos {t:List Int} {k:Nat} (hz:solE t k = 0):oneS t k ≠ 0:=by
 obtain ⟨z1,z2,z3,z4⟩:=solE_zero hz
 have:=sum_posT z3 z4
 exact Nat.mul_ne_zero (by omega) (prodC_pos (by omega))
theorem oneS_lt {t:List Int} {k:Nat} (hz:solE t k = 0) (hk:k ≤ 40) (hl:t.length ≤ 12):oneS t k < 18446744073709551616 ^ 10:=by
 obtain ⟨z1,z2,z3,z4⟩:=solE_zero hz
 have h1:=(sum_wOk z3).2
 have h2:t.sum.toNat ≤ 268435456:=by
  have:(16777215:Int) * t.length ≤ 16777215 * 12:=by omega
  omega
 have h3:=prodC_le hk t.length
 have h4:1099511627776 ^ t.length ≤ 1099511627776 ^ 12:=Nat.pow_le_pow_right (by decide) hl
 have h5:oneS t k ≤ 268435456 * 1099511627776 ^ 12:=Nat.mul_le_mul h2 (Nat.le_trans h3 h4)
 exact Nat.lt_of_le_of_lt h5 (by decide)
theorem wS_le {t:List Int} {k d:Nat} (hz:solE t k = 0) (h1:1 ≤ d) (h2:d ≤ t.length):wS t k d ≤ oneS t k:=by
 obtain ⟨z1,z2,z3,z4⟩:=solE_zero hz
 have hm:t.getD (d - 1) 0 ∈ t:=by rw [List.getD_eq_getElem?_getD,List.getElem?_eq_getElem (by omega)];exact List.getElem_mem (by omega)
 have:=le_sum (fun w hw=>(z3 w hw).1) _ hm
 exact Nat.mul_le_mul (by omega) (prodX_le h1 h2 (by omega))
theorem cha_eq {t:List Int} {k d:Nat} (hz:solE t k = 0) (h1:1 ≤ d) (h2:d ≤ t.length):mkRat (t.getD (d - 1) 0) (chs k d * t.sum.toNat) = mkRat ((wS t k d:Nat):Int) (oneS t k):=by
 obtain ⟨z1,z2,z3,z4⟩:=solE_zero hz
 have hs:=sum_posT z3 z4
 have hm:t.getD (d - 1) 0 ∈ t:=by rw [List.getD_eq_getElem?_getD,List.getElem?_eq_getElem (by omega)];exact List.getElem_mem (by omega)
 have h0:=(z3 _ hm).1
 have hx:prodX k d t.length ≠ 0:=fun e=>by
  have:=prodX_mul (k:=k) h1 h2
  rw [e,Nat.zero_mul] at this
  exact prodC_pos (k:=k) (n:=t.length) (by omega) this.symm
 have:=mk_scale (t.getD (d - 1) 0).toNat (chs k d * t.sum.toNat) (prodX k d t.length) (Nat.mul_ne_zero (chs_pos (by omega)) (by omega)) hx
 rw [Int.toNat_of_nonneg h0] at this
 rw [this]
 congr 1
 unfold oneS
 rw [← prodX_mul (k:=k) h1 h2]
 grind
def massW (W:List (List Int)→Bool) (t:List Int) (k n:Int):Fr3 × Int:=
 if refE t k n = 0 then (if (setsW t k).2 = 0 then sumW W (itemS t k.toNat) (oneS t k.toNat) n.toNat else (rqn,4)) else (rqn,refE t k n)
structure DrG where
 i:Nat
 v:Value
 hs:List (Value × Value)
attribute [local irreducible] Fit pt own ro vw mpc lpt vels rels mow lrc dfr
attribute [local irreducible] lmp lme mit velg relg bnd owl setP szL solE risR chaW oneS wS
abbrev itmC (v:Value) (ss:List Value) (hs:List (Value × Value)) (L:List (List Int × Nat)) (D:Nat):List Ch:=[oww TIm 4 v L.length (ics ss (fracs L D) hs),owl TLI I ss (L.map (·.1)),ofr hs (fracs L D)]
noncomputable abbrev failW (k:Int) (ls:List (List Int)):Bool:=decide (0 < (largeR k ls).length)
end Go.Art
set_option maxRecDepth 4000
namespace Go.Art
open Go Go.Proofs Go.RowKit
attribute [local irreducible] Fit pt own ro vw mpc lpt vels rels mow lrc dfr
attribute [local irreducible] lmp lme mit
abbrev Bs (l:List Bool):List Value:=l.map .bool
section
variable {P:Program} {E:Env P} {n:Sh} {X:Cx} {s:List K} {fr:Fr} {A A':List Ch} {ops:Array Oper} {rest:List Oper} {d:Nat} {ty t el:TypeId} {pos:String} {after:Array Edge} {v z:Value} {x y:Operand} {by_:Nat}
end
def unk (kb:List Bool) (l:List Int):List Int:=l.filter fun x=>!kb.getD x.toNat false
def lastL (kb:List Bool) (l:List Int):Int:=match unk kb l with
 | [x]=>x
 | _=>-1
def falses (kb:List Bool):Nat:=kb.countP (fun b=>!b)
structure ClI (k:Int) (ls:List (List Int)) (kb:List Bool):Prop where
 len:kb.length = k.toNat
 kn:∀ x,0 ≤ x→x < k→kb.getD x.toNat false = true→Kn ls x
structure ClG where
 i:Nat
 kb:List Bool
 more:Bool
end Go.Art
namespace Go.Art
open Go Go.Proofs Go.RowKit
theorem dg_nv_le {l:List Nat} (h:Dg l):(dg (nv l)).length ≤ l.length:=(dg_len _ _).2 (nv_lt h)
theorem nv_drop {b:List Nat} {j:Nat} (h:j < b.length):nv (b.drop j) = b.getD j 0 + 18446744073709551616 * nv (b.drop (j + 1)):=by
 rw [List.drop_eq_getElem_cons h]
 simp [nv,List.getD_eq_getElem?_getD,h]
structure RuG2 where
 r:Nat
 o:Value
attribute [local irreducible] Fit pt own ro vw mpc lpt vels rels mow lrc dfr
attribute [local irreducible] lmp lme mit velg relg bnd owl
theorem RMul_tr (va vb:Value) (a b:List Nat) (ha:Dg a) (hb:Dg b) (hla:a.length ≤ 274877906944) (hlb:b.length ≤ 274877906944):Tr Tryz.prog 177 [va,vb] [vw va (Us a),vw vb (Us b)] [] fun u D=>u.oneCell' = true∧D = [own T64 u (Us (dg (nv a * nv b)))]:=by
 refine Tr.enter env _ Tryz.func177 (by kernel_rfl) rfl Tryz.ntmps177 rfl (by repeat (first | exact has00 | refine has01 ?_)) fun w0=>?_
 repeat' first|(refine wo ?_;first|(refine ao ?_;first|refine aw ?_)|refine oa ?_|refine lnm ?_)|refine sq ?_|refine rg ?_|refine xc ?_|refine nl ?_|refine bk ?_
 refine TC.im (own_nil T64 _) ?_
 refine TC.loop (ι:=RuG2) (fun g=>[(6,I ((b.length:Int) - 1 - g.r)),(5,g.o)]) (fun g=>[own T64 g.o (Us (dg (nv a * nv (b.drop (b.length - g.r)))))]) (fun g=>g.r ≤ b.length∧g.o.oneCell' = true) (fun g=>b.length - g.r) ⟨0,nS⟩ [0,1] ⟨Nat.zero_le _,rfl⟩ ?_ (hs:=by simp only [Int.natCast_zero,Int.sub_zero];(repeat (refine Sub.cons rfl (by first | rfl | go_num) ?_));exact Sub.nil) (hf:=by dsimp only;rw [Nat.sub_zero,List.drop_length,show nv [] = 0 from rfl,Nat.mul_zero,dg_zero];exact fitA)
 rintro ⟨r,o⟩ ⟨hr,ho⟩
 dsimp only at hr ho ⊢
 have hL:∀ j,(dg (nv a * nv (b.drop j))).length ≤ a.length + b.length:=fun j=>Nat.le_trans (dg_mul_len (dg_nv_le ha) (dg_nv_le (hb.drop j))) (by rw [List.length_drop];omega)
 by_cases hlt:r < b.length
 ·obtain ⟨j,hj⟩ : ∃ j,b.length - r = j + 1:=⟨b.length - r - 1,by omega⟩
  have hy:=hb.getD j
  have hyc:(Us b)[j]? = some (Un (b.getD j 0)):=Us_get b j (by omega)
  have hd:=nv_drop (b:=b) (j:=j) (by omega)
  have hl1:=hL (j + 1)
  have hG:=RGrow_tr va a (b.getD j 0) ha hy (by omega)
  have hgl:(dg (nv a * b.getD j 0)).length ≤ a.length + 1:=Nat.le_trans (dg_mul_len (dg_nv_le ha) (dg_len1 hy)) (Nat.le_refl _)
  have hA:=fun x y=>RAdd_tr x y ([0] ++ dg (nv a * nv (b.drop (j + 1)))) (dg (nv a * b.getD j 0)) (by
   intro z hz
   rcases List.mem_append.1 hz with hz | hz
   ·rw [List.mem_singleton.1 hz];exact Nat.pos_of_ne_zero (by decide)
   ·exact Dg_dg _ z hz) (Dg_dg _) (by rw [List.length_append,List.length_singleton];omega) (by omega)
  have e1:nv ([0] ++ dg (nv a * nv (b.drop (j + 1)))) + nv (dg (nv a * b.getD j 0)) = nv a * nv (b.drop j):=by
   rw [hd,nv_dg,show [0] ++ dg (nv a * nv (b.drop (j + 1))) = 0 :: dg (nv a * nv (b.drop (j + 1))) from rfl,show ∀ l:List Nat,nv (0 :: l) = 0 + 18446744073709551616 * nv l from fun l=>rfl,nv_dg,Nat.mul_add]
   rw [Nat.zero_add,Nat.add_comm,← Nat.mul_assoc,← Nat.mul_assoc,Nat.mul_comm 18446744073709551616 (nv a)]
  rw [e1] at hA
  rw [hj,show (b.length:Int) - 1 - (r:Int) = (j:Int) by omega]
  clear e1 hd hgl hL
  generalize dg (nv a * b.getD j 0) = gl at *
  generalize b.getD j 0 = y at *
  generalize dg (nv a * nv (b.drop (j + 1))) = l1 at *
  generalize hl2:dg (nv a * nv (b.drop j)) = l2 at *
  repeat' first|(refine wo ?_;first|(refine ao ?_;first|refine oa ?_)|refine oa ?_)|(refine gc ?_;first|refine ct ?_)|refine sq ?_|refine rg ?_|refine xc ?_|refine nl ?_|refine sk ?_|refine bk ?_
  refine rs (fun w=>Sl w vb (Us b)) ?_ (fun w hw=>has_sl (xs:=Us b) hw hasA)
  refine tka 1 ?_
  refine tka 3 ?_
  refine tka 4 ?_
  refine tka 5 ?_
  refine tk 6 (v:=.pointer (some (addrAt vb j))) (fun w h=>R_idx (E:=env) (i:=(j:Int)) rfl rfl rfl rfl h ⟨by omega,by rw [Us_len];omega⟩) ?_
  refine tk 7 (v:=Un y) (fun w h=>R_load (E:=env) rfl rfl rfl (h.cell hyc)) ?_
  refine t1 0 ?_
  refine slu [0] fun q0 hq0=>?_
  refine nl ?_
  refine te (fun w hw=>has_sl (xs:=Us b) hw hasA) ?_
  refine t1 2 ?_
  refine apu (v:=q0) (l:=[0]) (news:=l1) (fun o2=>?_)
  refine nl ?_
  refine te (fun w hw=>has_sl (xs:=Us b) hw hasA) ?_
  refine t1 8 ?_
  refine ca hG ?_
  rintro g _ ⟨hg,rfl⟩
  refine nl ?_
  refine te (fun w hw=>has_sl (xs:=Us b) hw hasA) ?_
  refine t1 9 ?_
  refine ca (hA o2 g) ?_
  rintro o3 _ ⟨ho3,rfl⟩
  refine nl ?_
  refine te (fun w hw=>has_sl (xs:=Us b) hw hasA) ?_
  refine tka 10 ?_
  refine t0 ?_
  skip
  repeat' first|(refine wo ?_;first|(refine ao ?_;first|refine aw ?_)|refine oa ?_)|refine rg ?_|refine xc ?_|refine nl ?_|refine xb ?_
  exact lp ⟨r + 1,o3⟩ ⟨hlt,ho3⟩ (hs:=by dsimp only;rw [show (b.length:Int) - 1 - ((r + 1:Nat):Int) = (j:Int) - 1 by omega];(repeat (refine Sub.cons rfl (by first | rfl | go_num) ?_));exact Sub.nil) (hf:=by dsimp only;rw [show b.length - (r + 1) = j by omega,hl2];exact fitA)
 ·obtain rfl:r = b.length:=by omega
  rw [Nat.sub_self,List.drop_zero,show (b.length:Int) - 1 - (b.length:Int) = -1 by omega]
  have hT:=RTrim_tr o (dg (nv a * nv b)) (Dg_dg _) (by have:=hL 0;rw [List.drop_zero] at this;omega)
  rw [nv_dg] at hT
  clear hL
  generalize dg (nv a * nv b) = l2 at *
  repeat' first|(refine gca ?_;first|(refine ca hT ?_;rintro o2 _ ⟨ho2,rfl⟩))|(refine wo ?_;first|(refine ao ?_;first|refine oa ?_)|refine oa ?_)|(refine gc ?_;first|refine cf ?_)|refine sq ?_|refine rg ?_|refine xc ?_|refine nl ?_|refine xe ?_|refine rt ?_
  exact r1 ⟨ho2,rfl⟩
end Go.Art
namespace Go.Art
open Go Go.Proofs Go.RowKit
attribute [local irreducible] Fit pt own ro vw mpc lpt vels rels mow lrc dfr
theorem RIMul_tr (b1 b2:Bool) (v1 v2:Value) (l1 l2:List Nat) (d1:Dg l1) (d2:Dg l2) (h1:l1.length ≤ 34359738368) (h2:l2.length ≤ 34359738368) :
  Tr Tryz.prog 164 [.agg #[.bool b1,v1],.agg #[.bool b2,v2]] [vw v1 (Us l1),vw v2 (Us l2)] [] (IR (sg (!(b1 == b2)) (nv l1 * nv l2))):=by
 have hM:=RMul_tr v1 v2 l1 l2 d1 d2 (by omega) (by omega)
 have hlen:(dg (nv l1 * nv l2)).length ≤ 1099511627776:=by
  have:=dg_mul_len (dg_len_le d1) (dg_len_le d2)
  omega
 have hI:=fun b o=>RIMake_tr b o (dg (nv l1 * nv l2)) (Dg_dg _) hlen
 rw [nv_dg] at hI
 unfold IR at hI ⊢
 obtain ⟨z,hz⟩ : ∃ z,z = sg (!(b1 == b2)) (nv l1 * nv l2):=⟨_,rfl⟩
 have hI2:=hI (!(b1 == b2))
 rw [← hz] at hI2 ⊢
 clear hI hz hlen
 generalize dg (nv l1 * nv l2) = pd at *
 refine Tr.enter env _ Tryz.func164 (by kernel_rfl) rfl Tryz.ntmps164 rfl (by repeat (first | exact has00 | refine has01 ?_)) fun w0=>?_
 repeat' first|refine bx fun q=>?_|refine al fun c=>?_|refine sq ?_|refine rg ?_|refine xc ?_|refine nl ?_
 rename_i q1
 refine rs (fun w=>w.heap[q1]? = some (.cells [.bool b1,v1].toArray TIt (0,0))∧w.heap[q]? = some (.cells [.bool b2,v2].toArray TIt (0,0))) ?_ (fun w hw=>⟨pt_at memA hw,pt_at memA hw⟩)
 refine tka 0 ?_
 refine tkl 1 (cs:=[.bool b1,v1]) (fun w h=>h.1) ?_
 refine tka 2 ?_
 refine tkl 3 (cs:=[.bool b2,v2]) (fun w h=>h.2) ?_
 refine tk 4 (v:=.bool (!(b1 == b2))) (fun _ _=>R_bne (E:=env) rfl rfl rfl) ?_
 refine tka 5 ?_
 refine tkl 6 (cs:=[.bool b1,v1]) (fun w h=>h.1) ?_
 refine tka 7 ?_
 refine tkl 8 (cs:=[.bool b2,v2]) (fun w h=>h.2) ?_
 refine t1 9 ?_
 refine ca hM ?_
 rintro o _ ⟨ho,rfl⟩
 refine nl ?_
 refine te (fun w hw=>⟨pt_at memA hw,pt_at memA hw⟩) ?_
 refine t1 10 ?_
 refine ca (hI2 o) ?_
 rintro _ _ ⟨o2,rfl,ho2,rfl⟩
 refine nl ?_
 refine te (fun w hw=>⟨pt_at memA hw,pt_at memA hw⟩) ?_
 refine t1 11 ?_
 refine srz ?_
 refine nl ?_
 refine te (fun w hw=>⟨pt_at memA hw,pt_at memA hw⟩) ?_
 refine t0 ?_
 repeat' first|refine xc ?_|refine rt ?_
 exact rca1 (cs:=[.bool (decide (z < 0)),o2]) (vs:=[.bool (decide (z < 0)),o2]) (T:=TIt) ⟨o2,rfl,ho2,rfl⟩
theorem RIAdd_tr (z1 z2:Int) (v1 v2:Value) (g1:v1.oneCell' = true) (g2:v2.oneCell' = true) (h1:(dz z1).length ≤ 549755813888) (h2:(dz z2).length ≤ 549755813888) :
  Tr Tryz.prog 180 [iv z1 v1,iv z2 v2] [vw v1 (Us (dz z1)),vw v2 (Us (dz z2))] [] (IR (z1 + z2)):=by
 by_cases hs:decide (z1 < 0) = decide (z2 < 0)
 ·have hA:=RAdd_tr v1 v2 (dz z1) (dz z2) (Dg_dg _) (Dg_dg _) (by omega) (by omega)
  have hlen:(dg (nv (dz z1) + nv (dz z2))).length ≤ 1099511627776:=by
   unfold dz at *
   rw [nv_dg,nv_dg]
   have:=dg_add_len (i:=549755813888) h1 h2
   omega
  have hI:=fun o=>RIMake_tr (decide (z1 < 0)) o (dg (nv (dz z1) + nv (dz z2))) (Dg_dg _) hlen
  have e:sg (decide (z1 < 0)) (nv (dz z1) + nv (dz z2)) = z1 + z2:=by
   unfold sg dz
   rw [nv_dg,nv_dg]
   by_cases h:z1 < 0
   ·have:=of_decide_eq_true (hs.symm.trans (decide_eq_true h))
    rw [if_pos (by simpa using h)];omega
   ·have:=of_decide_eq_false (hs.symm.trans (decide_eq_false h))
    rw [if_neg (by simpa using h)];omega
  rw [show nv (dg (nv (dz z1) + nv (dz z2))) = nv (dz z1) + nv (dz z2) from nv_dg _,e] at hI
  unfold IR at hI ⊢
  obtain ⟨z,hz⟩ : ∃ z,z = z1 + z2:=⟨_,rfl⟩
  rw [← hz] at hI ⊢
  clear hz hlen e
  generalize dg (nv (dz z1) + nv (dz z2)) = pd at *
  show Tr _ _ [.agg #[.bool (decide (z1 < 0)),v1],.agg #[.bool (decide (z2 < 0)),v2]] _ _ _
  rw [← hs]
  generalize decide (z1 < 0) = b1 at *
  generalize dz z1 = l1 at *
  generalize dz z2 = l2 at *
  have hb:(b1 == b1) = true:=by simp
  clear hs
  refine Tr.enter env _ Tryz.func180 (by kernel_rfl) rfl Tryz.ntmps180 rfl (by repeat (first | exact has00 | refine has01 ?_)) fun w0=>?_
  repeat' first|refine bx fun q=>?_|refine al fun c=>?_|(refine ibe ?_;rw [hb])|(refine wo ?_;first|refine oa ?_|refine ld ?_)|(refine gc ?_;first|refine ct ?_)|refine sq ?_|refine rg ?_|refine xc ?_|refine nl ?_
  rename_i q1
  refine rs (fun w=>w.heap[q1]? = some (.cells [.bool b1,v1].toArray TIt (0,0))∧w.heap[q]? = some (.cells [.bool b1,v2].toArray TIt (0,0))) ?_ (fun w hw=>⟨pt_at memA hw,pt_at memA hw⟩)
  refine tka 0 ?_
  refine tkl 1 (cs:=[.bool b1,v1]) (fun w h=>h.1) ?_
  refine tka 2 ?_
  refine tkl 3 (cs:=[.bool b1,v1]) (fun w h=>h.1) ?_
  refine tka 4 ?_
  refine tkl 5 (cs:=[.bool b1,v2]) (fun w h=>h.2) ?_
  refine t1 6 ?_
  refine ca hA ?_
  rintro o _ ⟨ho,rfl⟩
  refine nl ?_
  refine te (fun w hw=>⟨pt_at memA hw,pt_at memA hw⟩) ?_
  refine t1 7 ?_
  refine ca (hI o) ?_
  rintro _ _ ⟨o2,rfl,ho2,rfl⟩
  refine nl ?_
  refine te (fun w hw=>⟨pt_at memA hw,pt_at memA hw⟩) ?_
  refine t1 8 ?_
  refine srz ?_
  refine nl ?_
  refine te (fun w hw=>⟨pt_at memA hw,pt_at memA hw⟩) ?_
  refine t0 ?_
  repeat' first|refine xc ?_|refine rt ?_
  exact rca1 (cs:=[.bool (decide (z < 0)),o2]) (vs:=[.bool (decide (z < 0)),o2]) (T:=TIt) ⟨o2,rfl,ho2,rfl⟩
 ·have hnn:(z1 < 0∧¬ z2 < 0)∨(¬ z1 < 0∧z2 < 0):=by
   by_cases g1:z1 < 0
   ·by_cases g2:z2 < 0
    ·exact absurd (by rw [decide_eq_true g1,decide_eq_true g2]) hs
    ·exact .inl ⟨g1,g2⟩
   ·by_cases g2:z2 < 0
    ·exact .inr ⟨g1,g2⟩
    ·exact absurd (by rw [decide_eq_false g1,decide_eq_false g2]) hs
  have hC:=RCmp_tr v1 v2 (dz z1) (dz z2) (Dg_dg _) (Dg_dg _)
  have hcm:=cmpN_lt (a:=nv (dz z1)) (b:=nv (dz z2))
  have hb:(decide (z1 < 0) == decide (z2 < 0)) = false:=by simpa using hs
  by_cases hle:z2.natAbs ≤ z1.natAbs
  ·have hA:=RSub_tr v1 v2 (dz z1) (dz z2) (Dg_dg _) (Dg_dg _) (by omega) (by unfold dz;rw [nv_dg,nv_dg];exact hle)
   have hlen:(dg (nv (dz z1) - nv (dz z2))).length ≤ 1099511627776:=by
    unfold dz at *
    rw [nv_dg,nv_dg]
    exact Nat.le_trans (dg_mono (Nat.sub_le _ _)) (by omega)
   have hI:=fun o=>RIMake_tr (decide (z1 < 0)) o (dg (nv (dz z1) - nv (dz z2))) (Dg_dg _) hlen
   have e:sg (decide (z1 < 0)) (nv (dz z1) - nv (dz z2)) = z1 + z2:=by
    unfold sg dz
    rw [nv_dg,nv_dg]
    by_cases h:z1 < 0
    ·rw [if_pos (by simpa using h)];omega
    ·rw [if_neg (by simpa using h)];omega
   have hcn:¬ cmpN (nv (dz z1)) (nv (dz z2)) < 0:=by rw [hcm];unfold dz;rw [nv_dg,nv_dg];omega
   rw [show nv (dg (nv (dz z1) - nv (dz z2))) = nv (dz z1) - nv (dz z2) from nv_dg _,e] at hI
   unfold IR at hI ⊢
   obtain ⟨z,hz⟩ : ∃ z,z = z1 + z2:=⟨_,rfl⟩
   rw [← hz] at hI ⊢
   clear hz hlen e hs hnn hle hcm
   generalize cmpN (nv (dz z1)) (nv (dz z2)) = cm at *
   generalize dg (nv (dz z1) - nv (dz z2)) = pd at *
   show Tr _ _ [.agg #[.bool (decide (z1 < 0)),v1],.agg #[.bool (decide (z2 < 0)),v2]] _ _ _
   generalize decide (z1 < 0) = b1 at *
   generalize decide (z2 < 0) = b2 at *
   generalize dz z1 = l1 at *
   generalize dz z2 = l2 at *
   refine Tr.enter env _ Tryz.func180 (by kernel_rfl) rfl Tryz.ntmps180 rfl (by repeat (first | exact has00 | refine has01 ?_)) fun w0=>?_
   repeat' first|(refine gca ?_;first|(refine ca hC ?_;rintro _ _ ⟨rfl,rfl⟩)|(refine ca hA ?_;rintro _ _ ⟨o,rfl,ho,rfl⟩)|(refine ca (hI o) ?_;rintro _ _ ⟨o2,rfl,ho2,rfl⟩))|refine bx fun q=>?_|refine al fun c=>?_|(refine ibe ?_;rw [hb])|refine srz ?_|(refine wo ?_;first|(refine ao ?_;first|refine oa ?_)|refine oa ?_|refine ld ?_)|(refine gc ?_;first|refine cf ?_|(refine ci (fun hB=>?_) (fun hB=>?_) <;> try (exfalso;omega)))|refine sq ?_|refine rg ?_|refine xc ?_|refine nl ?_|refine sk ?_|refine rt ?_
   exact rca1 (cs:=[.bool (decide (z < 0)),o2]) (vs:=[.bool (decide (z < 0)),o2]) (T:=TIt) ⟨o2,rfl,ho2,rfl⟩
  ·have hA:=RSub_tr v2 v1 (dz z2) (dz z1) (Dg_dg _) (Dg_dg _) (by omega) (by unfold dz;rw [nv_dg,nv_dg];omega)
   have hlen:(dg (nv (dz z2) - nv (dz z1))).length ≤ 1099511627776:=by
    unfold dz at *
    rw [nv_dg,nv_dg]
    exact Nat.le_trans (dg_mono (Nat.sub_le _ _)) (by omega)
   have hI:=fun o=>RIMake_tr (decide (z2 < 0)) o (dg (nv (dz z2) - nv (dz z1))) (Dg_dg _) hlen
   have e:sg (decide (z2 < 0)) (nv (dz z2) - nv (dz z1)) = z1 + z2:=by
    unfold sg dz
    rw [nv_dg,nv_dg]
    by_cases h:z2 < 0
    ·rw [if_pos (by simpa using h)];omega
    ·rw [if_neg (by simpa using h)];omega
   have hcn:cmpN (nv (dz z1)) (nv (dz z2)) < 0:=by rw [hcm];unfold dz;rw [nv_dg,nv_dg];omega
   rw [show nv (dg (nv (dz z2) - nv (dz z1))) = nv (dz z2) - nv (dz z1) from nv_dg _,e] at hI
   unfold IR at hI ⊢
   obtain ⟨z,hz⟩ : ∃ z,z = z1 + z2:=⟨_,rfl⟩
   rw [← hz] at hI ⊢
   clear hz hlen e hs hnn hle hcm
   generalize cmpN (nv (dz z1)) (nv (dz z2)) = cm at *
   generalize dg (nv (dz z2) - nv (dz z1)) = pd at *
   show Tr _ _ [.agg #[.bool (decide (z1 < 0)),v1],.agg #[.bool (decide (z2 < 0)),v2]] _ _ _
   generalize decide (z1 < 0) = b1 at *
   generalize decide (z2 < 0) = b2 at *
   generalize dz z1 = l1 at *
   generalize dz z2 = l2 at *
   refine Tr.enter env _ Tryz.func180 (by kernel_rfl) rfl Tryz.ntmps180 rfl (by repeat (first | exact has00 | refine has01 ?_)) fun w0=>?_
   repeat' first|(refine gca ?_;first|(refine ca hC ?_;rintro _ _ ⟨rfl,rfl⟩)|(refine ca hA ?_;rintro _ _ ⟨o,rfl,ho,rfl⟩)|(refine ca (hI o) ?_;rintro _ _ ⟨o2,rfl,ho2,rfl⟩))|refine bx fun q=>?_|refine al fun c=>?_|(refine ibe ?_;rw [hb])|refine lda ?_|refine srz ?_|refine srz ?_ (hj:=Nat.le_of_ble_eq_true rfl)|(refine wo ?_;first|(refine ao ?_;first|refine oa ?_)|refine oa ?_|refine ld ?_)|(refine gc ?_;first|refine cf ?_|(refine ci (fun hB=>?_) (fun hB=>?_) <;> try (exfalso;omega)))|refine sq ?_|refine rg ?_|refine xc ?_|refine nl ?_|refine sk ?_|refine rt ?_
   exact rca1 (cs:=[.bool (decide (z < 0)),o2]) (vs:=[.bool (decide (z < 0)),o2]) (T:=TIt) ⟨o2,rfl,ho2,rfl⟩
theorem RINeg_tr (z:Int) (v:Value) (h:(dz z).length ≤ 549755813888):Tr Tryz.prog 261 [iv z v] [vw v (Us (dz z))] [] (IR (-z)):=by
 have hI:=RIMake_tr (!(decide (z < 0))) v (dz z) (Dg_dg _) (by omega)
 have e:sg (!(decide (z < 0))) (nv (dz z)) = -z:=by
  unfold sg dz
  rw [nv_dg]
  by_cases h:z < 0
  ·rw [if_neg (by simpa using h)];omega
  ·rw [if_pos (by simpa using h)];omega
 rw [e] at hI
 unfold IR at hI ⊢
 generalize -z = y at *
 show Tr _ _ [.agg #[.bool (decide (z < 0)),v]] _ _ _
 generalize decide (z < 0) = b at *
 generalize dz z = l at *
 clear e
 refine Tr.enter env _ Tryz.func261 (by kernel_rfl) rfl Tryz.ntmps261 rfl (by repeat (first | exact has00 | refine has01 ?_)) fun w0=>?_
 repeat' first|(refine gca ?_;first|(refine ca hI ?_;rintro _ _ ⟨o2,rfl,ho2,rfl⟩))|refine bx fun q=>?_|refine al fun c=>?_|refine srz ?_|(refine wo ?_;first|refine oa ?_|refine ld ?_)|refine sq ?_|refine rg ?_|refine xc ?_|refine nl ?_|refine rt ?_
 exact rca1 (cs:=[.bool (decide (y < 0)),o2]) (vs:=[.bool (decide (y < 0)),o2]) (T:=TIt) ⟨o2,rfl,ho2,rfl⟩
theorem RISub_tr (z1 z2:Int) (v1 v2:Value) (g1:v1.oneCell' = true) (g2:v2.oneCell' = true) (h1:(dz z1).length ≤ 549755813888) (h2:(dz z2).length ≤ 549755813888) :
  Tr Tryz.prog 211 [iv z1 v1,iv z2 v2] [vw v1 (Us (dz z1)),vw v2 (Us (dz z2))] [] (IR (z1 - z2)):=by
 have hN:=RINeg_tr z2 v2 h2
 have hA:=fun o go=>RIAdd_tr z1 (-z2) v1 o g1 go h1 (by unfold dz;rw [Int.natAbs_neg];exact h2)
 rw [← Int.sub_eq_add_neg] at hA
 unfold IR at hN hA ⊢
 unfold iv dz at *
 obtain ⟨z,hz⟩ : ∃ z,z = z1 - z2:=⟨_,rfl⟩
 rw [← hz] at hA ⊢
 clear hz h1 h2
 generalize -z2 = y at *
 refine Tr.enter env _ Tryz.func211 (by kernel_rfl) rfl Tryz.ntmps211 rfl (by repeat (first | exact has00 | refine has01 ?_)) fun w0=>?_
 repeat' first|refine bx fun q=>?_|refine al fun c=>?_|refine sq ?_|refine rg ?_|refine xc ?_|refine nl ?_
 rename_i q1
 refine rs (fun w=>w.heap[q1]? = some (.cells [.bool (decide (z1 < 0)),v1].toArray TIt (0,0))∧w.heap[q]? = some (.cells [.bool (decide (z2 < 0)),v2].toArray TIt (0,0))) ?_ (fun w hw=>⟨pt_at memA hw,pt_at memA hw⟩)
 refine tk 0 (v:=.agg #[.bool (decide (z1 < 0)),v1]) (fun w h=>R_loadA (E:=env) (vs:=[.bool (decide (z1 < 0)),v1]) rfl rfl rfl rfl h.1 rfl rfl) ?_
 refine tk 1 (v:=.agg #[.bool (decide (z2 < 0)),v2]) (fun w h=>R_loadA (E:=env) (vs:=[.bool (decide (z2 < 0)),v2]) rfl rfl rfl rfl h.2 rfl rfl) ?_
 refine t1 2 ?_
 refine ca hN ?_
 rintro _ _ ⟨o,rfl,ho,rfl⟩
 refine nl ?_
 refine te (fun w hw=>⟨pt_at memA hw,pt_at memA hw⟩) ?_
 refine t1 3 ?_
 refine ca (hA o ho) ?_
 rintro _ _ ⟨o2,rfl,ho2,rfl⟩
 refine nl ?_
 refine te (fun w hw=>⟨pt_at memA hw,pt_at memA hw⟩) ?_
 refine t1 4 ?_
 refine srz ?_
 refine nl ?_
 refine te (fun w hw=>⟨pt_at memA hw,pt_at memA hw⟩) ?_
 refine t0 ?_
 repeat' first|refine xc ?_|refine rt ?_
 exact rca1 (cs:=[.bool (decide (z < 0)),o2]) (vs:=[.bool (decide (z < 0)),o2]) (T:=TIt) ⟨o2,rfl,ho2,rfl⟩
theorem RISign_tr (z:Int) (o:Value) (hz:(dg z.natAbs).length ≤ 1099511627776):Tr Tryz.prog 210 [iv z o] [vw o (Us (dg z.natAbs))] [] fun u D=>u = I z.sign∧D = []:=by
 have hM:=RIMake_tr (decide (z < 0)) o (dg z.natAbs) (Dg_dg _) hz
 have e:sg (decide (z < 0)) (nv (dg z.natAbs)) = z:=by
  unfold sg
  rw [nv_dg]
  by_cases h:z < 0
  ·rw [if_pos (by simpa using h)];omega
  ·rw [if_neg (by simpa using h)];omega
 rw [e] at hM
 clear e
 unfold IR at hM
 have hlp:0 < (dg z.natAbs).length ↔ z ≠ 0:=⟨fun h e=>by rw [e,Int.natAbs_zero,dg_zero] at h;simp at h,fun h=>dg_len_pos (by omega)⟩
 have h1:z < 0→z.sign = -1:=Int.sign_eq_neg_one_of_neg
 have h2:0 < z→z.sign = 1:=Int.sign_eq_one_of_pos
 have h3:z = 0→z.sign = 0:=fun h=>by rw [h];rfl
 generalize dg z.natAbs = l at *
 generalize z.sign = s at *
 show Tr _ _ [.agg #[.bool (decide (z < 0)),o]] _ _ _
 have h4:decide (z < 0) = true ↔ z < 0:=decide_eq_true_iff
 generalize decide (z < 0) = b at *
 cases b with
 | true=>
  have h5:=h1 (h4.1 rfl)
  refine Tr.enter env _ Tryz.func210 (by kernel_rfl) rfl Tryz.ntmps210 rfl (by repeat (first | exact has00 | refine has01 ?_)) fun w0=>?_
  repeat' first|(refine gca ?_;first|(refine ca hM ?_;rintro _ _ ⟨o2,rfl,ho2,rfl⟩))|refine bx fun q=>?_|refine lda ?_|refine srz ?_ (hj:=Nat.le_of_ble_eq_true rfl)|(refine wo ?_;first|refine oa ?_|refine ld ?_)|(refine gc ?_;first|refine ct ?_)|refine sq ?_|refine rg ?_|refine xc ?_|refine nl ?_|refine bk ?_|refine rt ?_
  all_goals exact r1 ⟨by rw [h5],rfl⟩
 | false=>
  have h5:¬ z < 0:=fun h=>by have:=h4.2 h;cases this
  by_cases h6:z = 0
  ·have h7:¬ 0 < l.length:=fun h=>hlp.1 h h6
   have h8:=h3 h6
   refine Tr.enter env _ Tryz.func210 (by kernel_rfl) rfl Tryz.ntmps210 rfl (by repeat (first | exact has00 | refine has01 ?_)) fun w0=>?_
   repeat' first|(refine gca ?_;first|(refine ca hM ?_;rintro _ _ ⟨o2,rfl,ho2,rfl⟩))|refine bx fun q=>?_|refine lda ?_|refine srz ?_ (hj:=Nat.le_of_ble_eq_true rfl)|(refine wo ?_;first|(refine ao ?_;first|refine oa ?_)|refine oa ?_|refine ld ?_|refine lnm ?_)|(refine gc ?_;first|refine cf ?_|(refine ci (fun hB=>?_) (fun hB=>?_) <;> try (exfalso;omega)))|refine sq ?_|refine rg ?_|refine xc ?_|refine nl ?_|refine bk ?_|refine rt ?_
   all_goals exact r1 ⟨by rw [h8],rfl⟩
  ·have h7:=hlp.2 h6
   have h8:=h2 (by omega)
   refine Tr.enter env _ Tryz.func210 (by kernel_rfl) rfl Tryz.ntmps210 rfl (by repeat (first | exact has00 | refine has01 ?_)) fun w0=>?_
   repeat' first|(refine gca ?_;first|(refine ca hM ?_;rintro _ _ ⟨o2,rfl,ho2,rfl⟩))|refine bx fun q=>?_|refine lda ?_|refine srz ?_ (hj:=Nat.le_of_ble_eq_true rfl)|(refine wo ?_;first|(refine ao ?_;first|refine oa ?_)|refine oa ?_|refine ld ?_|refine lnm ?_)|(refine gc ?_;first|refine cf ?_|(refine ci (fun hB=>?_) (fun hB=>?_) <;> try (exfalso;omega)))|refine sq ?_|refine rg ?_|refine xc ?_|refine nl ?_|refine sk ?_|refine bk ?_|refine rt ?_|refine xb ?_
   all_goals exact r1 ⟨by rw [h8],rfl⟩
theorem RICmp_tr (z1 z2:Int) (v1 v2:Value) (g1:v1.oneCell' = true) (g2:v2.oneCell' = true) (h1:(dz z1).length ≤ 34359738368) (h2:(dz z2).length ≤ 34359738368) :
  Tr Tryz.prog 163 [iv z1 v1,iv z2 v2] [vw v1 (Us (dz z1)),vw v2 (Us (dz z2))] [] fun u D=>u = I (z1 - z2).sign∧D = []:=by
 have hS:=RISub_tr z1 z2 v1 v2 g1 g2 (by omega) (by omega)
 have hG:=fun o=>RISign_tr (z1 - z2) o (by
  have:=Nat.le_trans (dg_mono (Int.natAbs_sub_le z1 z2)) (dg_add_len h1 h2)
  omega)
 unfold IR at hS
 unfold iv dz at *
 generalize z1 - z2 = z at *
 clear h1 h2
 refine Tr.enter env _ Tryz.func163 (by kernel_rfl) rfl Tryz.ntmps163 rfl (by repeat (first | exact has00 | refine has01 ?_)) fun w0=>?_
 repeat' first|(refine gca ?_;first|(refine ca hS ?_;rintro _ _ ⟨o2,rfl,ho2,rfl⟩)|(refine ca (hG o2) ?_;rintro _ _ ⟨rfl,rfl⟩))|refine bx fun q=>?_|refine lda ?_|(refine wo ?_;first|refine oa ?_)|refine sq ?_|refine rg ?_|refine xc ?_|refine nl ?_|refine rt ?_
 exact r1 ⟨rfl,rfl⟩
end Go.Art
namespace Go.Art
open Go Go.Proofs Go.RowKit
theorem rat_mulN (q r:Rat):mkRat (q.num * r.num) (q.den * r.den) = q * r:=(Rat.mul_def' q r).symm
theorem rat_divN {q r:Rat} (h:0 < r.num):mkRat (q.num * r.den) (q.den * r.num.natAbs) = q / r:=by
 rw [Rat.mkRat_eq_div]
 have e1:(q.num:Rat) / (q.den:Rat) = q:=by rw [← Rat.mkRat_eq_div,Rat.mkRat_self]
 have e2:(r.num:Rat) / (r.den:Rat) = r:=by rw [← Rat.mkRat_eq_div,Rat.mkRat_self]
 have e3:((r.num.natAbs:Nat):Rat) = (r.num:Rat):=by
  rw [← Rat.intCast_natCast,Int.natAbs_of_nonneg (Int.le_of_lt h)]
 have n1:(q.den:Rat) ≠ 0:=fun e=>q.den_nz (by have:(q.den:Rat) = ((0:Nat):Rat):=e;exact Rat.natCast_inj.1 this)
 have n2:(r.den:Rat) ≠ 0:=fun e=>r.den_nz (by have:(r.den:Rat) = ((0:Nat):Rat):=e;exact Rat.natCast_inj.1 this)
 have n3:(r.num:Rat) ≠ 0:=fun e=>by
  have:(r.num:Rat) = ((0:Int):Rat):=e
  have:=Rat.intCast_inj.1 this
  omega
 rw [Rat.natCast_mul,Rat.intCast_mul,e3,Rat.intCast_natCast]
 generalize (q.num:Rat) = a at *
 generalize (q.den:Rat) = b at *
 generalize (r.num:Rat) = c at *
 generalize (r.den:Rat) = d at *
 rw [← e1,← e2]
 grind
structure RfG where
 i:Nat
 vn:Value
 vd:Value
attribute [local irreducible] Fit pt own ro vw mpc lpt vels rels mow lrc dfr
attribute [local irreducible] lmp lme mit velg relg bnd owl
theorem Rwh5_tr (v:Value) (n:Nat) (hl:(dg n).length ≤ 1099511627776):Tr Tryz.prog 165 [v] [vw v (Us (dg n))] [] fun u D=>∃ o,u = .agg #[.bool false,o]∧o.oneCell' = true∧D = [own T64 o (Us (dg n))]:=by
 have hI:=RIMake_tr false v (dg n) (Dg_dg _) hl
 rw [nv_dg,show sg false n = (n:Int) from rfl] at hI
 unfold IR at hI
 rw [Int.natAbs_natCast,show decide ((n:Int) < 0) = false by simp] at hI
 refine Tr.enter env _ Tryz.func165 (by kernel_rfl) rfl Tryz.ntmps165 rfl (by repeat (first | exact has00 | refine has01 ?_)) fun w0=>?_
 repeat' first|(refine gca ?_;first|(refine ca hI ?_;rintro _ _ ⟨o,rfl,ho,rfl⟩))|refine al fun c=>?_|refine srz ?_|(refine wo ?_;first|refine oa ?_)|refine sq ?_|refine rg ?_|refine xc ?_|refine nl ?_|refine rt ?_
 exact rca1 (cs:=[.bool false,o]) (vs:=[.bool false,o]) (T:=TIt) ⟨o,rfl,ho,rfl⟩
theorem Rone5_tr:Tr Tryz.prog 117 [] [] [] fun u D=>u.oneCell' = true∧D = [own T64 u (Us [1])]:=by
 refine Tr.enter env _ Tryz.func117 (by kernel_rfl) rfl Tryz.ntmps117 rfl (by repeat (first | exact has00 | refine has01 ?_)) fun w0=>?_
 repeat' first|(refine slu [1] fun q hq=>?_)|(refine wo ?_;first|refine oa ?_)|refine sq ?_|refine rg ?_|refine xc ?_|refine nl ?_|refine rt ?_
 exact r1 ⟨hq,rfl⟩
theorem RFSum_tr (q r:Rat) (v1 v2 v3 v4:Value) (h1:v1.oneCell' = true) (h2:v2.oneCell' = true) (h3:v3.oneCell' = true) (h4:v4.oneCell' = true) (hq:FB q 100000) (hr:FB r 100000) :
  Tr Tryz.prog 118 [rv q v1 v2,rv r v3 v4] [vw v1 (Us (dg q.num.natAbs)),vw v2 (Us (dg q.den)),vw v3 (Us (dg r.num.natAbs)),vw v4 (Us (dg r.den))] [] (FQ (q + r)):=by
 have hW4:=Rwh5_tr v4 r.den (by have:=hr.2;omega)
 have hW2:=Rwh5_tr v2 q.den (by have:=hq.2;omega)
 have hM1:=fun o=>RIMul_tr (decide (q.num < 0)) false v1 o (dg q.num.natAbs) (dg r.den) (Dg_dg _) (Dg_dg _) (by have:=hq.1;omega) (by have:=hr.2;omega)
 have hM2:=fun o=>RIMul_tr (decide (r.num < 0)) false v3 o (dg r.num.natAbs) (dg q.den) (Dg_dg _) (Dg_dg _) (by have:=hr.1;omega) (by have:=hq.2;omega)
 have hM3:=RMul_tr v2 v4 (dg q.den) (dg r.den) (Dg_dg _) (Dg_dg _) (by have:=hq.2;omega) (by have:=hr.2;omega)
 simp only [nv_dg] at hM1 hM2 hM3
 simp only [sg_mulN] at hM1 hM2
 have l1:(dz (q.num * r.den)).length ≤ 200000:=dz_mul hq.1 (by unfold dz;rw [Int.natAbs_natCast];exact hr.2)
 have l2:(dz (r.num * q.den)).length ≤ 200000:=dz_mul hr.1 (by unfold dz;rw [Int.natAbs_natCast];exact hq.2)
 have l3:(dg (q.den * r.den)).length ≤ 200000:=dg_mul_len hq.2 hr.2
 have l4:(dz (q.num * r.den + r.num * q.den)).length ≤ 200001:=by
  unfold dz at *
  exact Nat.le_trans (dg_mono (Int.natAbs_add_le _ _)) (dg_add_len l1 l2)
 have hA:=fun o1 o2 g1 g2=>RIAdd_tr (q.num * r.den) (r.num * q.den) o1 o2 g1 g2 (by omega) (by omega)
 have hL:=fun o d=>Rlowest_tr (decide (q.num * r.den + r.num * q.den < 0)) o d (dz (q.num * r.den + r.num * q.den)) (dg (q.den * r.den)) (Dg_dg _) (Dg_dg _) (by omega) (by omega) (by rw [nv_dg];exact Nat.mul_ne_zero q.den_nz r.den_nz)
 rw [sg_dz,nv_dg,← Rat.add_def'] at hL
 obtain ⟨s,hs⟩ : ∃ s,s = q + r:=⟨_,rfl⟩
 rw [← hs] at hL ⊢
 clear hs l1 l2 l3 l4 hq hr
 unfold IR at hM1 hM2 hA
 unfold FQ at hL
 show Tr _ _ [.agg #[.bool (decide (q.num < 0)),v1,v2],.agg #[.bool (decide (r.num < 0)),v3,v4]] _ _ _
 generalize q.num * r.den + r.num * q.den = z3 at *
 generalize q.num * r.den = z1 at *
 generalize r.num * q.den = z2 at *
 generalize dg (q.den * r.den) = l3 at *
 generalize dg q.num.natAbs = lq at *
 generalize dg q.den = lqd at *
 generalize dg r.num.natAbs = lr at *
 generalize dg r.den = lrd at *
 generalize decide (q.num < 0) = b1 at *
 generalize decide (r.num < 0) = b2 at *
 refine Tr.enter env _ Tryz.func118 (by kernel_rfl) rfl Tryz.ntmps118 rfl (by repeat (first | exact has00 | refine has01 ?_)) fun w0=>?_
 repeat' first|refine bx fun q=>?_|refine al fun c=>?_|refine sq ?_|refine rg ?_|refine xc ?_|refine nl ?_
 rename_i q1
 refine cutY (ι:=Nat × Value) (fun g=>g.2.oneCell' = true) (fun g=>[(2,ptr q1),(3,ptr q),(4,ptr c),(5,ptr g.1)]) (fun g=>[pt q1 [.bool b1,v1,v2] TRt,pt q [.bool b2,v3,v4] TRt,pt c [.bool false,nS,nS] TRt,pt g.1 [.bool (decide (z3 < 0)),g.2] TIt,own T64 g.2 (Us (dz z3)),vw v1 (Us lq),vw v2 (Us lqd),vw v3 (Us lr),vw v4 (Us lrd)]) ?_ ?_
 ·rintro ⟨c2,o3⟩ ho3
  dsimp only at ho3 ⊢
  repeat' first|refine sq ?_
  refine rs (fun w=>w.heap[q1]? = some (.cells [.bool b1,v1,v2].toArray TRt (0,0))∧w.heap[q]? = some (.cells [.bool b2,v3,v4].toArray TRt (0,0))∧w.heap[c2]? = some (.cells [.bool (decide (z3 < 0)),o3].toArray TIt (0,0))) ?_ (fun w hw=>⟨pt_at memA hw,pt_at memA hw,pt_at memA hw⟩)
  refine tk 0 (v:=.agg #[.bool (decide (z3 < 0)),o3]) (fun w h=>R_loadA (E:=env) (vs:=[.bool (decide (z3 < 0)),o3]) rfl rfl rfl rfl h.2.2 rfl rfl) ?_
  refine tka 1 ?_
  refine tkl 2 (cs:=[.bool b1,v1,v2]) (fun w h=>h.1) ?_
  refine tka 3 ?_
  refine tkl 4 (cs:=[.bool b2,v3,v4]) (fun w h=>h.2.1) ?_
  refine t1 5 ?_
  refine ca hM3 ?_
  rintro d3 _ ⟨hd3,rfl⟩
  refine nl ?_
  refine te (fun w hw=>⟨pt_at memA hw,pt_at memA hw,pt_at memA hw⟩) ?_
  refine t1 6 ?_
  refine ca (hL o3 d3) ?_
  rintro _ _ ⟨vn,vd,rfl,hvn,hvd,rfl⟩
  refine nl ?_
  refine te (fun w hw=>⟨pt_at memA hw,pt_at memA hw,pt_at memA hw⟩) ?_
  refine t1 7 ?_
  refine srz ?_
  refine nl ?_
  refine te (fun w hw=>⟨pt_at memA hw,pt_at memA hw,pt_at memA hw⟩) ?_
  refine t0 ?_
  repeat' first|refine xc ?_|refine rt ?_
  exact rca1 (cs:=[.bool (decide (s.num < 0)),vn,vd]) (vs:=[.bool (decide (s.num < 0)),vn,vd]) (T:=TRt) ⟨vn,vd,rfl,hvn,hvd,rfl⟩
 ·intro b' kb
  refine rs (fun w=>w.heap[q1]? = some (.cells [.bool b1,v1,v2].toArray TRt (0,0))∧w.heap[q]? = some (.cells [.bool b2,v3,v4].toArray TRt (0,0))) ?_ (fun w hw=>⟨pt_at memA hw,pt_at memA hw⟩)
  refine tka 0 ?_
  refine tk 1 (v:=.agg #[.bool b1,v1]) (fun w h=>R_loadA (E:=env) (vs:=[.bool b1,v1]) rfl rfl rfl rfl h.1 rfl rfl) ?_
  refine tka 2 ?_
  refine tkl 3 (cs:=[.bool b2,v3,v4]) (fun w h=>h.2) ?_
  refine tka 6 ?_
  refine tk 7 (v:=.agg #[.bool b2,v3]) (fun w h=>R_loadA (E:=env) (vs:=[.bool b2,v3]) rfl rfl rfl rfl h.2 rfl rfl) ?_
  refine tka 8 ?_
  refine tkl 9 (cs:=[.bool b1,v1,v2]) (fun w h=>h.1) ?_
  refine t2 4 13 ?_ ?_
  ·refine ca hW4 ?_
   rintro _ _ ⟨w4,rfl,hw4,rfl⟩
   refine nl ?_
   refine te (fun w hw=>⟨pt_at memA hw,pt_at memA hw⟩) ?_
   refine t2 5 13 ?_ ?_
   ·refine ca (hM1 w4) ?_
    rintro _ _ ⟨o1,rfl,ho1,rfl⟩
    refine nl ?_
    refine te (fun w hw=>⟨pt_at memA hw,pt_at memA hw⟩) ?_
    refine t2 10 13 ?_ ?_
    ·refine ca hW2 ?_
     rintro _ _ ⟨w2,rfl,hw2,rfl⟩
     refine nl ?_
     refine te (fun w hw=>⟨pt_at memA hw,pt_at memA hw⟩) ?_
     refine t2 11 13 ?_ ?_
     ·refine ca (hM2 w2) ?_
      rintro _ _ ⟨o2,rfl,ho2,rfl⟩
      refine nl ?_
      refine te (fun w hw=>⟨pt_at memA hw,pt_at memA hw⟩) ?_
      refine t2 12 13 ?_ ?_
      ·refine ca (hA o1 o2 ho1 ho2) ?_
       rintro _ _ ⟨o3,rfl,ho3,rfl⟩
       refine nl ?_
       refine te (fun w hw=>⟨pt_at memA hw,pt_at memA hw⟩) ?_
       refine t1 13 ?_
       refine al fun c2=>?_
       refine nl ?_
       refine te (fun w hw=>⟨pt_at memA hw,pt_at memA hw⟩) ?_
       refine t1 14 ?_
       refine srz ?_
       refine nl ?_
       refine te (fun w hw=>⟨pt_at memA hw,pt_at memA hw⟩) ?_
       refine t0 ?_
       repeat' first|refine xc ?_
       exact kb (c2,o3) ho3 _ _ (by (repeat (refine Sub.cons rfl (by first | rfl | go_num) ?_));exact Sub.nil) fitA
      ·refine al fun c2=>?_
       refine nl ?_
       refine te (fun w hw=>⟨pt_at memA hw,pt_at memA hw⟩) ?_
       refine t1 12 ?_
       refine ca (hA o1 o2 ho1 ho2) ?_
       rintro _ _ ⟨o3,rfl,ho3,rfl⟩
       refine nl ?_
       refine te (fun w hw=>⟨pt_at memA hw,pt_at memA hw⟩) ?_
       refine t1 14 ?_
       refine srz ?_
       refine nl ?_
       refine te (fun w hw=>⟨pt_at memA hw,pt_at memA hw⟩) ?_
       refine t0 ?_
       repeat' first|refine xc ?_
       exact kb (c2,o3) ho3 _ _ (by (repeat (refine Sub.cons rfl (by first | rfl | go_num) ?_));exact Sub.nil) fitA
     ·refine al fun c2=>?_
      refine nl ?_
      refine te (fun w hw=>⟨pt_at memA hw,pt_at memA hw⟩) ?_
      refine t1 11 ?_
      refine ca (hM2 w2) ?_
      rintro _ _ ⟨o2,rfl,ho2,rfl⟩
      refine nl ?_
      refine te (fun w hw=>⟨pt_at memA hw,pt_at memA hw⟩) ?_
      refine t1 12 ?_
      refine ca (hA o1 o2 ho1 ho2) ?_
      rintro _ _ ⟨o3,rfl,ho3,rfl⟩
      refine nl ?_
      refine te (fun w hw=>⟨pt_at memA hw,pt_at memA hw⟩) ?_
      refine t1 14 ?_
      refine srz ?_
      refine nl ?_
      refine te (fun w hw=>⟨pt_at memA hw,pt_at memA hw⟩) ?_
      refine t0 ?_
      repeat' first|refine xc ?_
      exact kb (c2,o3) ho3 _ _ (by (repeat (refine Sub.cons rfl (by first | rfl | go_num) ?_));exact Sub.nil) fitA
    ·refine al fun c2=>?_
     refine nl ?_
     refine te (fun w hw=>⟨pt_at memA hw,pt_at memA hw⟩) ?_
     refine t1 10 ?_
     refine ca hW2 ?_
     rintro _ _ ⟨w2,rfl,hw2,rfl⟩
     refine nl ?_
     refine te (fun w hw=>⟨pt_at memA hw,pt_at memA hw⟩) ?_
     refine t1 11 ?_
     refine ca (hM2 w2) ?_
     rintro _ _ ⟨o2,rfl,ho2,rfl⟩
     refine nl ?_
     refine te (fun w hw=>⟨pt_at memA hw,pt_at memA hw⟩) ?_
     refine t1 12 ?_
     refine ca (hA o1 o2 ho1 ho2) ?_
     rintro _ _ ⟨o3,rfl,ho3,rfl⟩
     refine nl ?_
     refine te (fun w hw=>⟨pt_at memA hw,pt_at memA hw⟩) ?_
     refine t1 14 ?_
     refine srz ?_
     refine nl ?_
     refine te (fun w hw=>⟨pt_at memA hw,pt_at memA hw⟩) ?_
     refine t0 ?_
     repeat' first|refine xc ?_
     exact kb (c2,o3) ho3 _ _ (by (repeat (refine Sub.cons rfl (by first | rfl | go_num) ?_));exact Sub.nil) fitA
   ·refine al fun c2=>?_
    refine nl ?_
    refine te (fun w hw=>⟨pt_at memA hw,pt_at memA hw⟩) ?_
    refine t1 5 ?_
    refine ca (hM1 w4) ?_
    rintro _ _ ⟨o1,rfl,ho1,rfl⟩
    refine nl ?_
    refine te (fun w hw=>⟨pt_at memA hw,pt_at memA hw⟩) ?_
    refine t1 10 ?_
    refine ca hW2 ?_
    rintro _ _ ⟨w2,rfl,hw2,rfl⟩
    refine nl ?_
    refine te (fun w hw=>⟨pt_at memA hw,pt_at memA hw⟩) ?_
    refine t1 11 ?_
    refine ca (hM2 w2) ?_
    rintro _ _ ⟨o2,rfl,ho2,rfl⟩
    refine nl ?_
    refine te (fun w hw=>⟨pt_at memA hw,pt_at memA hw⟩) ?_
    refine t1 12 ?_
    refine ca (hA o1 o2 ho1 ho2) ?_
    rintro _ _ ⟨o3,rfl,ho3,rfl⟩
    refine nl ?_
    refine te (fun w hw=>⟨pt_at memA hw,pt_at memA hw⟩) ?_
    refine t1 14 ?_
    refine srz ?_
    refine nl ?_
    refine te (fun w hw=>⟨pt_at memA hw,pt_at memA hw⟩) ?_
    refine t0 ?_
    repeat' first|refine xc ?_
    exact kb (c2,o3) ho3 _ _ (by (repeat (refine Sub.cons rfl (by first | rfl | go_num) ?_));exact Sub.nil) fitA
  ·refine al fun c2=>?_
   refine nl ?_
   refine te (fun w hw=>⟨pt_at memA hw,pt_at memA hw⟩) ?_
   refine t1 4 ?_
   refine ca hW4 ?_
   rintro _ _ ⟨w4,rfl,hw4,rfl⟩
   refine nl ?_
   refine te (fun w hw=>⟨pt_at memA hw,pt_at memA hw⟩) ?_
   refine t1 5 ?_
   refine ca (hM1 w4) ?_
   rintro _ _ ⟨o1,rfl,ho1,rfl⟩
   refine nl ?_
   refine te (fun w hw=>⟨pt_at memA hw,pt_at memA hw⟩) ?_
   refine t1 10 ?_
   refine ca hW2 ?_
   rintro _ _ ⟨w2,rfl,hw2,rfl⟩
   refine nl ?_
   refine te (fun w hw=>⟨pt_at memA hw,pt_at memA hw⟩) ?_
   refine t1 11 ?_
   refine ca (hM2 w2) ?_
   rintro _ _ ⟨o2,rfl,ho2,rfl⟩
   refine nl ?_
   refine te (fun w hw=>⟨pt_at memA hw,pt_at memA hw⟩) ?_
   refine t1 12 ?_
   refine ca (hA o1 o2 ho1 ho2) ?_
   rintro _ _ ⟨o3,rfl,ho3,rfl⟩
   refine nl ?_
   refine te (fun w hw=>⟨pt_at memA hw,pt_at memA hw⟩) ?_
   refine t1 14 ?_
   refine srz ?_
   refine nl ?_
   refine te (fun w hw=>⟨pt_at memA hw,pt_at memA hw⟩) ?_
   refine t0 ?_
   repeat' first|refine xc ?_
   exact kb (c2,o3) ho3 _ _ (by (repeat (refine Sub.cons rfl (by first | rfl | go_num) ?_));exact Sub.nil) fitA
theorem RFProd_tr (b1 b2:Bool) (v1 v2 v3 v4:Value) (l1 l2 l3 l4:List Nat) (d1:Dg l1) (d2:Dg l2) (d3:Dg l3) (d4:Dg l4) (h1:l1.length ≤ 100000) (h2:l2.length ≤ 100000) (h3:l3.length ≤ 100000) (h4:l4.length ≤ 100000) (h20:nv l2 ≠ 0) (h40:nv l4 ≠ 0) :
  Tr Tryz.prog 268 [.agg #[.bool b1,v1,v2],.agg #[.bool b2,v3,v4]] [vw v1 (Us l1),vw v2 (Us l2),vw v3 (Us l3),vw v4 (Us l4)] [] (FQ (mkRat (sg (!(b1 == b2)) (nv l1 * nv l3)) (nv l2 * nv l4))):=by
 have hM1:=RIMul_tr b1 b2 v1 v3 l1 l3 d1 d3 (by omega) (by omega)
 have hM2:=RMul_tr v2 v4 l2 l4 d2 d4 (by omega) (by omega)
 have hl1:=dg_mul_len (dg_len_le d1) (dg_len_le d3)
 have hl2:=dg_mul_len (dg_len_le d2) (dg_len_le d4)
 obtain ⟨z,hz⟩ : ∃ z,z = sg (!(b1 == b2)) (nv l1 * nv l3):=⟨_,rfl⟩
 have hza:z.natAbs = nv l1 * nv l3:=by rw [hz,sg_abs]
 rw [← hz] at hM1 ⊢
 have hL:=fun o d=>Rlowest_tr (decide (z < 0)) o d (dz z) (dg (nv l2 * nv l4)) (Dg_dg _) (Dg_dg _) (by unfold dz;rw [hza];omega) (by omega) (by rw [nv_dg];exact Nat.mul_ne_zero h20 h40)
 rw [sg_dz,nv_dg] at hL
 obtain ⟨s,hs⟩ : ∃ s,s = mkRat z (nv l2 * nv l4):=⟨_,rfl⟩
 rw [← hs] at hL ⊢
 clear hs hza hz hl1 hl2
 unfold IR at hM1
 unfold FQ at hL
 unfold dz at hL
 generalize dg (nv l2 * nv l4) = l5 at *
 refine Tr.enter env _ Tryz.func268 (by kernel_rfl) rfl Tryz.ntmps268 rfl (by repeat (first | exact has00 | refine has01 ?_)) fun w0=>?_
 repeat' first|refine bx fun q=>?_|refine al fun c=>?_|refine sq ?_|refine rg ?_|refine xc ?_|refine nl ?_
 rename_i q1
 refine rs (fun w=>w.heap[q1]? = some (.cells [.bool b1,v1,v2].toArray TRt (0,0))∧w.heap[q]? = some (.cells [.bool b2,v3,v4].toArray TRt (0,0))) ?_ (fun w hw=>⟨pt_at memA hw,pt_at memA hw⟩)
 refine tka 0 ?_
 refine tk 1 (v:=.agg #[.bool b1,v1]) (fun w h=>R_loadA (E:=env) (vs:=[.bool b1,v1]) rfl rfl rfl rfl h.1 rfl rfl) ?_
 refine tka 2 ?_
 refine tk 3 (v:=.agg #[.bool b2,v3]) (fun w h=>R_loadA (E:=env) (vs:=[.bool b2,v3]) rfl rfl rfl rfl h.2 rfl rfl) ?_
 refine tka 5 ?_
 refine tkl 6 (cs:=[.bool b1,v1,v2]) (fun w h=>h.1) ?_
 refine tka 7 ?_
 refine tkl 8 (cs:=[.bool b2,v3,v4]) (fun w h=>h.2) ?_
 refine t1 4 ?_
 refine ca hM1 ?_
 rintro _ _ ⟨o1,rfl,ho1,rfl⟩
 refine nl ?_
 refine te (fun w hw=>⟨pt_at memA hw,pt_at memA hw⟩) ?_
 refine t1 9 ?_
 refine ca hM2 ?_
 rintro d3 _ ⟨hd3,rfl⟩
 refine nl ?_
 refine te (fun w hw=>⟨pt_at memA hw,pt_at memA hw⟩) ?_
 refine t1 10 ?_
 refine ca (hL o1 d3) ?_
 rintro _ _ ⟨vn,vd,rfl,hvn,hvd,rfl⟩
 refine nl ?_
 refine te (fun w hw=>⟨pt_at memA hw,pt_at memA hw⟩) ?_
 refine t1 11 ?_
 refine srz ?_
 refine nl ?_
 refine te (fun w hw=>⟨pt_at memA hw,pt_at memA hw⟩) ?_
 refine t0 ?_
 repeat' first|refine xc ?_|refine rt ?_
 exact rca1 (cs:=[.bool (decide (s.num < 0)),vn,vd]) (vs:=[.bool (decide (s.num < 0)),vn,vd]) (T:=TRt) ⟨vn,vd,rfl,hvn,hvd,rfl⟩
theorem RFMulP_tr (q r:Rat) (v1 v2 v3 v4:Value) (hq:FB q 100000) (hr:FB r 100000) :
  Tr Tryz.prog 268 [rv q v1 v2,rv r v3 v4] [vw v1 (Us (dg q.num.natAbs)),vw v2 (Us (dg q.den)),vw v3 (Us (dg r.num.natAbs)),vw v4 (Us (dg r.den))] [] (FQ (q * r)):=by
 have h:=RFProd_tr (decide (q.num < 0)) (decide (r.num < 0)) v1 v2 v3 v4 _ _ _ _ (Dg_dg q.num.natAbs) (Dg_dg q.den) (Dg_dg r.num.natAbs) (Dg_dg r.den) hq.1 hq.2 hr.1 hr.2 (by rw [nv_dg];exact q.den_nz) (by rw [nv_dg];exact r.den_nz)
 simp only [nv_dg] at h
 rwa [sg_mul,rat_mulN] at h
theorem RFCheck_tr (q:Rat) (vn vd:Value) (hB:FB q 100000):Tr Tryz.prog 95 [rv q vn vd] [vw vn (Us (dg q.num.natAbs)),vw vd (Us (dg q.den))] [] fun u D=>u = I 0∧D = []:=by
 have hC:=RICheck_tr q.num vn
 have hK:=RNCheck_tr vd (dg q.den)
 rw [if_neg (by
  intro h
  exact Tm_top (Tm_dg q.den) h)] at hK
 have hl:=dg_len_pos q.den_nz
 have hG:=RGcd_tr vn vd (dg q.num.natAbs) (dg q.den) (Dg_dg _) (Dg_dg _) (Nat.le_trans hB.1 (by decide)) (Nat.le_trans hB.2 (by decide))
 rw [nv_dg,nv_dg,show Nat.gcd q.num.natAbs q.den = 1 from q.reduced] at hG
 have hM:=fun v1 v2=>RCmp_tr v1 v2 (dg 1) [1] (Dg_dg _) (Dg.one (by decide))
 rw [nv_dg,show nv [1] = 1 from rfl,show cmpN 1 1 = 0 by decide] at hM
 obtain ⟨b,hb⟩ : ∃ b,b = decide (q.num < 0):=⟨_,rfl⟩
 show Tr _ _ [.agg #[.bool (decide (q.num < 0)),vn,vd]] _ _ _
 unfold iv at hC
 rw [← hb] at hC ⊢
 unfold dz at hC
 generalize dg q.num.natAbs = l1 at *
 generalize dg q.den = l2 at *
 clear hB hb
 refine Tr.enter env _ Tryz.func95 (by kernel_rfl) rfl Tryz.ntmps95 rfl (by repeat (first | exact has00 | refine has01 ?_)) fun w0=>?_
 repeat' first|(refine gca ?_;first|(refine ca hC ?_;rintro _ _ ⟨rfl,rfl⟩)|(refine ca hK ?_;rintro _ _ ⟨rfl,rfl⟩)|(refine ca hG ?_;rintro g _ ⟨hg,rfl⟩)|(refine ca Rone5_tr ?_;rintro o _ ⟨ho,rfl⟩)|(refine ca (hM g o) ?_;rintro _ _ ⟨rfl,rfl⟩))|refine bx fun q=>?_|refine lda ?_|(refine wo ?_;first|(refine ao ?_;first|refine oa ?_)|refine oa ?_|refine ld ?_|refine lnm ?_|refine gy ?_|(refine gsi (fun hB=>?_) (fun hB=>?_) <;> try (exfalso;omega)))|(refine gc ?_;first|refine cf ?_)|refine sq ?_|refine rg ?_|refine xc ?_|refine nl ?_|refine sk ?_|refine rt ?_
 exact r1 ⟨rfl,rfl⟩
theorem Rfine_tr (lv:Value) (qs:List Rat) (hs:List (Value × Value)) (hl:hs.length = qs.length) (hn:qs.length ≤ 4096) (hFB:∀ i,i < qs.length→FB (qs.getD i 0) 100000):Tr Tryz.prog 116 [lv] [vwf lv qs.length (rcs qs hs),vfr hs qs] [] fun u D=>u = .bool true∧D = []:=by
 refine Tr.enter env _ Tryz.func116 (by kernel_rfl) rfl Tryz.ntmps116 rfl (by repeat (first | exact has00 | refine has01 ?_)) fun w0=>?_
 repeat' first|refine lnw (N:=qs.length) (xs:=rcs qs hs) ?_|(refine wo ?_;first|refine oa ?_)|refine sq ?_|refine rg ?_|refine xc ?_|refine nl ?_|refine bk ?_
 refine TC.loop (ι:=Nat) (fun i=>[(3,I i)]) (fun _=>[]) (fun i=>i ≤ qs.length) (fun i=>qs.length - i) 0 [0] (Nat.zero_le _) ?_
 rintro i hi
 by_cases hlt:i < qs.length
 ·have hrow:=rcs_row hl hlt
  have hK:=RFCheck_tr (qs.getD i 0) (hs.getD i nS2).1 (hs.getD i nS2).2 (hFB i hlt)
  clear hFB
  repeat' first|(refine gca ?_;first|(refine ca hK ?_ (hp:=has1 (has_fr hasA hl hlt).1 (has1 (has_fr hasA hl hlt).2 has0));rintro _ _ ⟨rfl,rfl⟩))|refine lnw (N:=qs.length) (xs:=rcs qs hs) ?_|refine ixws (i:=(i:Int)) (N:=qs.length) (xs:=rcs qs hs) ?_|refine ldaw (N:=qs.length) (xs:=rcs qs hs) (m:=3 * i) hrow ?_|(refine wo ?_;first|(refine ao ?_;first|refine aw ?_|refine oa ?_)|refine oa ?_)|(refine gc ?_;first|refine cf ?_|(refine ci (fun hB=>?_) (fun hB=>?_) <;> try (exfalso;omega)))|refine sq ?_|refine rg ?_|refine xc ?_|refine nl ?_|refine sk ?_|refine bk ?_|refine xb ?_
  exact lp (i + 1) hlt
 ·obtain rfl:i = qs.length:=by omega
  repeat' first|refine lnw (N:=qs.length) (xs:=rcs qs hs) ?_|(refine wo ?_;first|(refine ao ?_;first|refine oa ?_)|refine oa ?_)|(refine gc ?_;first|(refine ci (fun hB=>?_) (fun hB=>?_) <;> try (exfalso;omega)))|refine sq ?_|refine rg ?_|refine xc ?_|refine nl ?_|refine xe ?_|refine rt ?_
  exact r1 ⟨rfl,rfl⟩
end Go.Art
namespace Go.Art
open Go Go.Proofs Go.RowKit
theorem mk_sgnZ (z:Int) {m:Nat} (hm:m ≠ 0):(mkRat z m).num.sign = z.sign:=by
 rcases Int.lt_trichotomy z 0 with h | h | h
 ·rw [Int.sign_eq_neg_one_of_neg h,Int.sign_eq_neg_one_of_neg ((mk_neg z hm).2 h)]
 ·subst h;simp
 ·have h1:¬ (mkRat z m).num < 0:=fun g=>by have:=(mk_neg z hm).1 g;omega
  have h2:(mkRat z m).num ≠ 0:=fun g=>by
   have h3:=mk_abs z hm
   rw [g,Int.natAbs_zero] at h3
   have h4:Nat.gcd z.natAbs m ≤ z.natAbs:=Nat.gcd_le_left _ (by omega)
   have h5:0 < Nat.gcd z.natAbs m:=Nat.gcd_pos_of_pos_left _ (by omega)
   have h6:=Nat.div_pos h4 h5
   omega
  rw [Int.sign_eq_one_of_pos h,Int.sign_eq_one_of_pos (by omega)]
theorem dg_1:dg 1 = [1]:=dg_one (by decide) (by decide)
theorem z_num:dg (0:Rat).num.natAbs = []:=by rw [show (0:Rat).num.natAbs = 0 from rfl,dg_zero]
theorem z_den:dg (0:Rat).den = [1]:=by rw [show (0:Rat).den = 1 from rfl,dg_1]
theorem o_num:dg (1:Rat).num.natAbs = [1]:=by rw [show (1:Rat).num.natAbs = 1 from rfl,dg_1]
theorem o_den:dg (1:Rat).den = [1]:=by rw [show (1:Rat).den = 1 from rfl,dg_1]
attribute [local irreducible] Fit pt own ro vw mpc lpt vels rels mow lrc dfr
attribute [local irreducible] lmp lme mit velg relg bnd owl
theorem RFAdd_tr (lv:Value) (qs:List Rat) (hs:List (Value × Value)) (hl:hs.length = qs.length) (hn:qs.length ≤ 4096) (hFB:∀ i,i < qs.length→FB (qs.getD i 0) 100000) (hP:∀ i,i < qs.length→FB ((qs.take i).foldl (· + ·) 0) 100000) :
  Tr Tryz.prog 64 [lv] [vwf lv qs.length (rcs qs hs),vfr hs qs] [] (FQ2 (qs.foldl (· + ·) 0) 0):=by
 have hF:=Rfine_tr lv qs hs hl hn hFB
 obtain ⟨acc,hacc⟩ : ∃ acc:Nat→Rat,acc = fun i=>(qs.take i).foldl (· + ·) 0:=⟨_,rfl⟩
 have ha0:acc 0 = 0:=by rw [hacc];rfl
 have haN:acc qs.length = qs.foldl (· + ·) 0:=by rw [hacc];simp
 have hst:∀ i,i < qs.length→acc i + qs.getD i 0 = acc (i + 1):=fun i hi=>by rw [hacc];exact (foldl_take (· + ·) 0 hi 0).symm
 have hPa:∀ i,i < qs.length→FB (acc i) 100000:=fun i hi=>by rw [hacc];exact hP i hi
 rw [← haN]
 clear hacc haN hP
 have hO1:=Rone5_tr
 unfold FQ2
 refine Tr.enter env _ Tryz.func64 (by kernel_rfl) rfl Tryz.ntmps64 rfl (by repeat (first | exact has00 | refine has01 ?_)) fun w0=>?_
 repeat' first|(refine gca ?_;first|(refine ca hF ?_;rintro _ _ ⟨rfl,rfl⟩)|(refine ca hO1 ?_;rintro o1 _ ⟨ho1,rfl⟩))|refine al fun c=>?_|refine bdm ?_|refine bdz ?_|refine srz ?_|refine lnw (N:=qs.length) (xs:=rcs qs hs) ?_|(refine wo ?_;first|refine oa ?_)|(refine gc ?_;first|refine cf ?_)|refine sq ?_|refine rg ?_|refine xc ?_|refine nl ?_|refine sk ?_|refine bk ?_
 rename_i c2
 refine TC.im (own_nil T64 _) ?_
 refine TC.loop (ι:=RfG) (fun g=>[(5,I g.i)]) (fun g=>[pt c (rrow (acc g.i) (g.vn,g.vd)) TRt,own T64 g.vn (Us (dg (acc g.i).num.natAbs)),own T64 g.vd (Us (dg (acc g.i).den))]) (fun g=>g.i ≤ qs.length∧g.vn.oneCell' = true∧g.vd.oneCell' = true) (fun g=>qs.length - g.i) ⟨0,nS,o1⟩ [0,2,4] ⟨Nat.zero_le _,rfl,ho1⟩ ?_ (hf:=by dsimp only;rw [ha0,z_num,z_den];exact fitA)
 rintro ⟨i,vn,vd⟩ ⟨hi,hvn,hvd⟩
 dsimp only at hi hvn hvd ⊢
 by_cases hlt:i < qs.length
 ·refine TC.fact (fun w hw=>fr_one (hs:=hs) (qs:=qs) hasA hl hlt w hw) fun ho=>?_
  obtain ⟨ho1,ho2⟩:=ho
  have hrow:=rcs_row hl hlt
  have hO:=RFSum_tr (acc i) (qs.getD i 0) vn vd (hs.getD i nS2).1 (hs.getD i nS2).2 hvn hvd ho1 ho2 (hPa i hlt) (hFB i hlt)
  rw [hst i hlt] at hO
  have hH:=fun (F:List Ch) (h:Has F (vfr hs qs))=>has_fr h hl hlt
  clear hFB hPa hst
  generalize hp2:acc (i + 1) = p2 at *
  generalize acc i = p at *
  generalize qs.getD i 0 = y at *
  generalize hs.getD i nS2 = hh at *
  unfold FQ at hO
  repeat' first|refine lnw (N:=qs.length) (xs:=rcs qs hs) ?_|(refine wo ?_;first|(refine ao ?_;first|refine oa ?_)|refine oa ?_)|(refine gc ?_;first|(refine ci (fun hB=>?_) (fun hB=>?_) <;> try (exfalso;omega)))|refine sq ?_|refine rg ?_|refine xc ?_|refine nl ?_|refine sk ?_|refine bk ?_
  refine rs (fun w=>SlW w lv qs.length (rcs qs hs)) ?_ (fun w hw=>(show Has _ (vwf lv qs.length (rcs qs hs)) from by exact hasA).P w hw)
  refine tka 1 ?_
  refine tka 2 ?_
  refine tk 3 (v:=.pointer (some (adr lv (3 * i)))) (fun w h=>R_idxW (E:=env) (i:=(i:Int)) rfl rfl rfl rfl h ⟨by omega,by omega⟩) ?_
  refine tk 4 (v:=.agg (rrow y hh).toArray) (fun w h=>R_loadW (E:=env) rfl rfl rfl rfl h hrow rfl) ?_
  refine t1 0 ?_
  refine lda (cs:=rrow p (vn,vd)) ?_
  refine nl ?_
  refine te (fun w hw=>(show Has _ (vwf lv qs.length (rcs qs hs)) from by exact hasA).P w hw) ?_
  refine t1 5 ?_
  refine ca hO ?_ (hp:=has1 hasA (has1 hasA (has1 (hH _ hasA).1 (has1 (hH _ hasA).2 has0))))
  rintro _ _ ⟨sn,sd,rfl,hsn,hsd,rfl⟩
  refine nl ?_
  refine te (fun w hw=>(show Has _ (vwf lv qs.length (rcs qs hs)) from by exact hasA).P w hw) ?_
  refine t1 6 ?_
  refine srz ?_ (hj:=Nat.le_of_ble_eq_true rfl)
  refine nl ?_
  refine te (fun w hw=>(show Has _ (vwf lv qs.length (rcs qs hs)) from by exact hasA).P w hw) ?_
  refine t0 ?_
  repeat' first|(refine wo ?_;first|(refine ao ?_;first|refine aw ?_)|refine oa ?_)|refine rg ?_|refine xc ?_|refine nl ?_|refine xb ?_
  exact lp ⟨i + 1,sn,sd⟩ ⟨hlt,hsn,hsd⟩ (hf:=by dsimp only;rw [hp2];exact fitA)
 ·obtain rfl:i = qs.length:=by omega
  generalize acc qs.length = p at *
  repeat' first|refine lnw (N:=qs.length) (xs:=rcs qs hs) ?_|refine lda (cs:=rrow p (vn,vd)) ?_|refine srz ?_|refine srz ?_ (hj:=Nat.le_of_ble_eq_true rfl)|(refine wo ?_;first|(refine ao ?_;first|refine oa ?_)|refine oa ?_)|(refine gc ?_;first|(refine ci (fun hB=>?_) (fun hB=>?_) <;> try (exfalso;omega)))|refine sq ?_|refine rg ?_|refine xc ?_|refine nl ?_|refine xe ?_|refine rt ?_
  exact rca (cs:=rrow p (vn,vd)) (vs:=rrow p (vn,vd)) (T:=TRt) ⟨vn,vd,rfl,hvn,hvd,rfl⟩
theorem RFMul_tr (lv:Value) (qs:List Rat) (hs:List (Value × Value)) (hl:hs.length = qs.length) (hn:qs.length ≤ 4096) (hFB:∀ i,i < qs.length→FB (qs.getD i 0) 100000) (hP:∀ i,i < qs.length→FB ((qs.take i).foldl (· * ·) 1) 100000) :
  Tr Tryz.prog 222 [lv] [vwf lv qs.length (rcs qs hs),vfr hs qs] [] (FQ2 (qs.foldl (· * ·) 1) 0):=by
 have hF:=Rfine_tr lv qs hs hl hn hFB
 obtain ⟨acc,hacc⟩ : ∃ acc:Nat→Rat,acc = fun i=>(qs.take i).foldl (· * ·) 1:=⟨_,rfl⟩
 have ha0:acc 0 = 1:=by rw [hacc];rfl
 have haN:acc qs.length = qs.foldl (· * ·) 1:=by rw [hacc];simp
 have hst:∀ i,i < qs.length→acc i * qs.getD i 0 = acc (i + 1):=fun i hi=>by rw [hacc];exact (foldl_take (· * ·) 1 hi 0).symm
 have hPa:∀ i,i < qs.length→FB (acc i) 100000:=fun i hi=>by rw [hacc];exact hP i hi
 rw [← haN]
 clear hacc haN hP
 have hO1:=Rone5_tr
 have hW:=fun v=>Rwh5_tr v 1 (by rw [dg_1];decide)
 rw [dg_1] at hW
 unfold FQ2
 refine Tr.enter env _ Tryz.func222 (by kernel_rfl) rfl Tryz.ntmps222 rfl (by repeat (first | exact has00 | refine has01 ?_)) fun w0=>?_
 repeat' first|(refine gca ?_;first|(refine ca hF ?_;rintro _ _ ⟨rfl,rfl⟩)|(refine ca hO1 ?_;rintro o1 _ ⟨ho1,rfl⟩)|(refine ca (hW o1) ?_;rintro _ _ ⟨w1,rfl,hw1,rfl⟩))|refine al fun c=>?_|refine bdm ?_|refine bdz ?_|refine srz ?_|refine lnw (N:=qs.length) (xs:=rcs qs hs) ?_|(refine wo ?_;first|refine oa ?_)|(refine gc ?_;first|refine cf ?_)|refine sq ?_|refine rg ?_|refine xc ?_|refine nl ?_|refine sk ?_|refine bk ?_
 rename_i c2
 refine TC.loop (ι:=RfG) (fun g=>[(5,I g.i)]) (fun g=>[pt c (rrow (acc g.i) (g.vn,g.vd)) TRt,own T64 g.vn (Us (dg (acc g.i).num.natAbs)),own T64 g.vd (Us (dg (acc g.i).den))]) (fun g=>g.i ≤ qs.length∧g.vn.oneCell' = true∧g.vd.oneCell' = true) (fun g=>qs.length - g.i) ⟨0,w1,o1⟩ [0,2,4] ⟨Nat.zero_le _,hw1,ho1⟩ ?_ (hf:=by dsimp only;rw [ha0,o_num,o_den];exact fitA)
 rintro ⟨i,vn,vd⟩ ⟨hi,hvn,hvd⟩
 dsimp only at hi hvn hvd ⊢
 by_cases hlt:i < qs.length
 ·refine TC.fact (fun w hw=>fr_one (hs:=hs) (qs:=qs) hasA hl hlt w hw) fun ho=>?_
  obtain ⟨ho1,ho2⟩:=ho
  have hrow:=rcs_row hl hlt
  have hO:=RFMulP_tr (acc i) (qs.getD i 0) vn vd (hs.getD i nS2).1 (hs.getD i nS2).2 (hPa i hlt) (hFB i hlt)
  rw [hst i hlt] at hO
  have hH:=fun (F:List Ch) (h:Has F (vfr hs qs))=>has_fr h hl hlt
  clear hFB hPa hst
  generalize hp2:acc (i + 1) = p2 at *
  generalize acc i = p at *
  generalize qs.getD i 0 = y at *
  generalize hs.getD i nS2 = hh at *
  unfold FQ at hO
  repeat' first|refine lnw (N:=qs.length) (xs:=rcs qs hs) ?_|(refine wo ?_;first|(refine ao ?_;first|refine oa ?_)|refine oa ?_)|(refine gc ?_;first|(refine ci (fun hB=>?_) (fun hB=>?_) <;> try (exfalso;omega)))|refine sq ?_|refine rg ?_|refine xc ?_|refine nl ?_|refine sk ?_|refine bk ?_
  refine rs (fun w=>SlW w lv qs.length (rcs qs hs)) ?_ (fun w hw=>(show Has _ (vwf lv qs.length (rcs qs hs)) from by exact hasA).P w hw)
  refine tka 1 ?_
  refine tka 2 ?_
  refine tk 3 (v:=.pointer (some (adr lv (3 * i)))) (fun w h=>R_idxW (E:=env) (i:=(i:Int)) rfl rfl rfl rfl h ⟨by omega,by omega⟩) ?_
  refine tk 4 (v:=.agg (rrow y hh).toArray) (fun w h=>R_loadW (E:=env) rfl rfl rfl rfl h hrow rfl) ?_
  refine t1 0 ?_
  refine lda (cs:=rrow p (vn,vd)) ?_
  refine nl ?_
  refine te (fun w hw=>(show Has _ (vwf lv qs.length (rcs qs hs)) from by exact hasA).P w hw) ?_
  refine t1 5 ?_
  refine ca hO ?_ (hp:=has1 hasA (has1 hasA (has1 (hH _ hasA).1 (has1 (hH _ hasA).2 has0))))
  rintro _ _ ⟨sn,sd,rfl,hsn,hsd,rfl⟩
  refine nl ?_
  refine te (fun w hw=>(show Has _ (vwf lv qs.length (rcs qs hs)) from by exact hasA).P w hw) ?_
  refine t1 6 ?_
  refine srz ?_ (hj:=Nat.le_of_ble_eq_true rfl)
  refine nl ?_
  refine te (fun w hw=>(show Has _ (vwf lv qs.length (rcs qs hs)) from by exact hasA).P w hw) ?_
  refine t0 ?_
  repeat' first|(refine wo ?_;first|(refine ao ?_;first|refine aw ?_)|refine oa ?_)|refine rg ?_|refine xc ?_|refine nl ?_|refine xb ?_
  exact lp ⟨i + 1,sn,sd⟩ ⟨hlt,hsn,hsd⟩ (hf:=by dsimp only;rw [hp2];exact fitA)
 ·obtain rfl:i = qs.length:=by omega
  generalize acc qs.length = p at *
  repeat' first|refine lnw (N:=qs.length) (xs:=rcs qs hs) ?_|refine lda (cs:=rrow p (vn,vd)) ?_|refine srz ?_|refine srz ?_ (hj:=Nat.le_of_ble_eq_true rfl)|(refine wo ?_;first|(refine ao ?_;first|refine oa ?_)|refine oa ?_)|(refine gc ?_;first|(refine ci (fun hB=>?_) (fun hB=>?_) <;> try (exfalso;omega)))|refine sq ?_|refine rg ?_|refine xc ?_|refine nl ?_|refine xe ?_|refine rt ?_
  exact rca (cs:=rrow p (vn,vd)) (vs:=rrow p (vn,vd)) (T:=TRt) ⟨vn,vd,rfl,hvn,hvd,rfl⟩
theorem Rturned_tr (r:Rat) (v1 v2:Value) (hv1:v1.oneCell' = true) (h:0 < r.num) (hr:FB r 100000):Tr Tryz.prog 271 [rv r v1 v2] [vw v1 (Us (dg r.num.natAbs)),vw v2 (Us (dg r.den))] [] fun u D=>∃ o,u = .agg #[.bool false,o,v1]∧o.oneCell' = true∧D = [own T64 o (Us (dg r.den))]:=by
 have hI:=RIMake_tr false v2 (dg r.den) (Dg_dg _) (by have:=hr.2;omega)
 rw [nv_dg,show sg false r.den = (r.den:Int) from rfl] at hI
 unfold IR at hI
 rw [Int.natAbs_natCast,show decide ((r.den:Int) < 0) = false by simp] at hI
 rw [show rv r v1 v2 = .agg #[.bool false,v1,v2] by unfold rv;rw [decide_eq_false (by omega)]]
 generalize dg r.num.natAbs = l1 at *
 generalize dg r.den = l2 at *
 refine Tr.enter env _ Tryz.func271 (by kernel_rfl) rfl Tryz.ntmps271 rfl (by repeat (first | exact has00 | refine has01 ?_)) fun w0=>?_
 repeat' first|refine bx fun q=>?_|refine al fun c=>?_|refine sq ?_|refine rg ?_|refine xc ?_|refine nl ?_
 refine rs (fun w=>w.heap[q]? = some (.cells [.bool false,v1,v2].toArray TRt (0,0))) ?_ (fun w hw=>pt_at memA hw)
 refine tka 0 ?_
 refine tka 1 ?_
 refine tkl 2 (cs:=[.bool false,v1,v2]) (fun w h=>h) ?_
 refine tka 3 ?_
 refine tkl 4 (cs:=[.bool false,v1,v2]) (fun w h=>h) ?_
 refine tka 6 ?_
 refine tka 7 ?_
 refine tkl 8 (cs:=[.bool false,v1,v2]) (fun w h=>h) ?_
 refine t1 5 ?_
 refine ca hI ?_
 rintro _ _ ⟨o,rfl,ho,rfl⟩
 refine nl ?_
 refine te (fun w hw=>pt_at memA hw) ?_
 refine t1 9 ?_
 refine bdm ?_
 refine nl ?_
 refine te (fun w hw=>pt_at memA hw) ?_
 refine t1 10 ?_
 refine srz ?_
 refine nl ?_
 refine te (fun w hw=>pt_at memA hw) ?_
 refine t0 ?_
 repeat' first|refine xc ?_|refine rt ?_
 exact rca1 (cs:=[.bool false,o,v1]) (vs:=[.bool false,o,v1]) (T:=TRt) ⟨o,rfl,ho,rfl⟩
theorem Tr.two {P:Program} {f:FuncId} {R:Value→List Ch→Prop} {q r:Rat} {lv v1 v2 v3 v4:Value} (h:Tr P f [lv] [vwf lv [q,r].length (rcs [q,r] [(v1,v2),(v3,v4)]),vfr [(v1,v2),(v3,v4)] [q,r]] [] R) :
  Tr P f [lv] [vwf lv 2 (rrow q (v1,v2) ++ rrow r (v3,v4)),vw v1 (Us (dg q.num.natAbs)),vw v2 (Us (dg q.den)),vw v3 (Us (dg r.num.natAbs)),vw v4 (Us (dg r.den))] [] R:=by
 refine h.pre ?_ (by repeat (first | exact has00 | refine has01 ?_))
 exact has1 (has_vwf (List.Mem.head _)) (has1 (has_vfr_cons (has_vw (by simp)) (has_vw (by simp)) (has_vfr_cons (has_vw (by simp)) (has_vw (by simp)) has_vfr_nil)) has0)
theorem two_FB {q r:Rat} {B:Nat} (hq:FB q B) (hr:FB r B):∀ i,i < [q,r].length→FB ([q,r].getD i 0) B:=fun i hi=>by
 match i,hi with
 | 0,_=>exact hq
 | 1,_=>exact hr
theorem Rfine2_tr (q r:Rat) (lv v1 v2 v3 v4:Value) (hq:FB q 100000) (hr:FB r 100000):Tr Tryz.prog 116 [lv] [vwf lv 2 (rrow q (v1,v2) ++ rrow r (v3,v4)),vw v1 (Us (dg q.num.natAbs)),vw v2 (Us (dg q.den)),vw v3 (Us (dg r.num.natAbs)),vw v4 (Us (dg r.den))] [] fun u D=>u = .bool true∧D = []:=
 (Rfine_tr lv [q,r] [(v1,v2),(v3,v4)] rfl (by simp) (two_FB hq hr)).two
theorem RFAdd2_tr (q r:Rat) (lv v1 v2 v3 v4:Value) (hq:FB q 100000) (hr:FB r 100000):Tr Tryz.prog 64 [lv] [vwf lv 2 (rrow q (v1,v2) ++ rrow r (v3,v4)),vw v1 (Us (dg q.num.natAbs)),vw v2 (Us (dg q.den)),vw v3 (Us (dg r.num.natAbs)),vw v4 (Us (dg r.den))] [] (FQ2 (q + r) 0):=by
 have h:=(RFAdd_tr lv [q,r] [(v1,v2),(v3,v4)] rfl (by simp) (two_FB hq hr) (fun i hi=>by
  match i,hi with
  | 0,_=>exact ⟨by rw [show (([q,r].take 0).foldl (· + ·) (0:Rat)) = 0 from rfl,z_num];exact Nat.zero_le _,by rw [show (([q,r].take 0).foldl (· + ·) (0:Rat)) = 0 from rfl,z_den];decide⟩
  | 1,_=>
   show FB (0 + q) _
   rw [Rat.zero_add];exact hq)).two
 rwa [show [q,r].foldl (· + ·) (0:Rat) = q + r by show 0 + q + r = q + r;rw [Rat.zero_add]] at h
theorem RFMul2_tr (q r:Rat) (lv v1 v2 v3 v4:Value) (hq:FB q 100000) (hr:FB r 100000):Tr Tryz.prog 222 [lv] [vwf lv 2 (rrow q (v1,v2) ++ rrow r (v3,v4)),vw v1 (Us (dg q.num.natAbs)),vw v2 (Us (dg q.den)),vw v3 (Us (dg r.num.natAbs)),vw v4 (Us (dg r.den))] [] (FQ2 (q * r) 0):=by
 have h:=(RFMul_tr lv [q,r] [(v1,v2),(v3,v4)] rfl (by simp) (two_FB hq hr) (fun i hi=>by
  match i,hi with
  | 0,_=>exact ⟨by rw [show (([q,r].take 0).foldl (· * ·) (1:Rat)) = 1 from rfl,o_num];decide,by rw [show (([q,r].take 0).foldl (· * ·) (1:Rat)) = 1 from rfl,o_den];decide⟩
  | 1,_=>
   show FB (1 * q) _
   rw [Rat.one_mul];exact hq)).two
 rwa [show [q,r].foldl (· * ·) (1:Rat) = q * r by show 1 * q * r = q * r;rw [Rat.one_mul]] at h
theorem RFDiv_tr (q r:Rat) (v1 v2 v3 v4:Value) (h1:v1.oneCell' = true) (h2:v2.oneCell' = true) (h3:v3.oneCell' = true) (h4:v4.oneCell' = true) (h:0 < r.num) (hq:FB q 100000) (hr:FB r 100000) :
  Tr Tryz.prog 227 [rv q v1 v2,rv r v3 v4] [vw v1 (Us (dg q.num.natAbs)),vw v2 (Us (dg q.den)),vw v3 (Us (dg r.num.natAbs)),vw v4 (Us (dg r.den))] [] (FQ2 (q / r) 0):=by
 have hF:=fun lv=>Rfine2_tr q r lv v1 v2 v3 v4 hq hr
 have hT:=Rturned_tr r v3 v4 h3 h hr
 have hl:=dg_len_pos (n:=r.num.natAbs) (by omega)
 have hP:=fun o=>RFProd_tr (decide (q.num < 0)) false v1 v2 o v3 _ _ _ _ (Dg_dg q.num.natAbs) (Dg_dg q.den) (Dg_dg r.den) (Dg_dg r.num.natAbs) hq.1 hq.2 hr.2 hr.1 (by rw [nv_dg];exact q.den_nz) (by rw [nv_dg];omega)
 simp only [nv_dg] at hP
 simp only [sg_mulN,rat_divN h] at hP
 obtain ⟨s,hs⟩ : ∃ s,s = q / r:=⟨_,rfl⟩
 rw [← hs] at hP ⊢
 clear hs hq hr
 unfold FQ at hP
 unfold rv at hT
 have hb:decide (r.num < 0) = false:=decide_eq_false (by omega)
 unfold rrow at hF
 rw [hb] at hF hT
 show Tr _ _ [.agg #[.bool (decide (q.num < 0)),v1,v2],.agg #[.bool (decide (r.num < 0)),v3,v4]] _ _ _
 rw [hb]
 generalize decide (q.num < 0) = b at *
 generalize dg q.num.natAbs = lq1 at *
 generalize dg q.den = lq2 at *
 generalize dg r.num.natAbs = lr1 at *
 generalize dg r.den = lr2 at *
 refine Tr.enter env _ Tryz.func227 (by kernel_rfl) rfl Tryz.ntmps227 rfl (by repeat (first | exact has00 | refine has01 ?_)) fun w0=>?_
 repeat' first|(refine gca ?_;first|(refine ca (hF _) ?_ (hp:=has1 (has_oww memA) (has1 hasA (has1 hasA (has1 hasA (has1 hasA has0)))));rintro _ _ ⟨rfl,rfl⟩))|refine bx fun q=>?_|refine al fun c=>?_|refine lda ?_|refine slws (sz:=3) (xs:=[.bool b,v1,v2] ++ [.bool false,v3,v4]) fun g2=>?_|(refine wo ?_;first|(refine ao ?_;first|refine oa ?_)|refine oa ?_|refine ld ?_|refine lnm ?_)|(refine gc ?_;first|refine cf ?_|(refine ci (fun hB=>?_) (fun hB=>?_) <;> try (exfalso;omega)))|refine sq ?_|refine rg ?_|refine xc ?_|refine nl ?_|refine sk ?_|refine bk ?_|refine xb ?_
 rename_i q1
 refine rs (fun w=>w.heap[q1]? = some (.cells [.bool b,v1,v2].toArray TRt (0,0))∧w.heap[q]? = some (.cells [.bool false,v3,v4].toArray TRt (0,0))) ?_ (fun w hw=>⟨pt_at memA hw,pt_at memA hw⟩)
 refine tk 0 (v:=.agg #[.bool b,v1,v2]) (fun w h=>R_loadA (E:=env) (vs:=[.bool b,v1,v2]) rfl rfl rfl rfl h.1 rfl rfl) ?_
 refine tk 1 (v:=.agg #[.bool false,v3,v4]) (fun w h=>R_loadA (E:=env) (vs:=[.bool false,v3,v4]) rfl rfl rfl rfl h.2 rfl rfl) ?_
 refine t1 2 ?_
 refine ca hT ?_
 rintro _ _ ⟨o,rfl,ho,rfl⟩
 refine nl ?_
 refine te (fun w hw=>⟨pt_at memA hw,pt_at memA hw⟩) ?_
 refine t1 3 ?_
 refine ca (hP o) ?_
 rintro _ _ ⟨vn,vd,rfl,hvn,hvd,rfl⟩
 refine nl ?_
 refine te (fun w hw=>⟨pt_at memA hw,pt_at memA hw⟩) ?_
 refine t1 4 ?_
 refine srz ?_
 refine nl ?_
 refine te (fun w hw=>⟨pt_at memA hw,pt_at memA hw⟩) ?_
 refine tka 5 ?_
 refine t0 ?_
 repeat' first|refine xc ?_|refine rt ?_
 exact rca (cs:=[.bool (decide (s.num < 0)),vn,vd]) (vs:=[.bool (decide (s.num < 0)),vn,vd]) (T:=TRt) ⟨vn,vd,rfl,hvn,hvd,rfl⟩
theorem RFPair_tr (x y:Nat) (hx:x < 9223372036854775808) (hy:y < 9223372036854775808) (hy0:y ≠ 0):Tr Tryz.prog 96 [I x,I y] [] [] (FQ2 (mkRat x y) 0):=by
 have hOx:=RIOf_tr x hx
 have hOy:=RIOf_tr y hy
 have hM:=fun o=>RIMake_tr false o (dg x) (Dg_dg _) (by have:=dg_len1 (n:=x) (by omega);omega)
 have hL:=fun o d=>Rlowest_tr false o d (dg x) (dg y) (Dg_dg _) (Dg_dg _) (by have:=dg_len1 (n:=x) (by omega);omega) (by have:=dg_len1 (n:=y) (by omega);omega) (by rw [nv_dg];exact hy0)
 simp only [nv_dg,show ∀ n:Nat,sg false n = (n:Int) from fun n=>rfl] at hM hL
 unfold IR at hOx hOy hM
 simp only [Int.natAbs_natCast,show ∀ n:Nat,decide ((n:Int) < 0) = false from fun n=>by simp] at hOx hOy hM
 unfold FQ at hL
 generalize mkRat (x:Int) y = s at *
 generalize dg x = lx at *
 generalize dg y = ly at *
 have hb:(!(false == false)) = false:=rfl
 refine Tr.enter env _ Tryz.func96 (by kernel_rfl) rfl Tryz.ntmps96 rfl (by repeat (first | exact has00 | refine has01 ?_)) fun w0=>?_
 repeat' first|(refine gca ?_;first|(refine ca hOy ?_;rintro _ _ ⟨oy,rfl,hoy,rfl⟩)|(refine ca hOx ?_;rintro _ _ ⟨ox,rfl,hox,rfl⟩))|refine al fun c=>?_|refine srz ?_|(refine wo ?_;first|(refine ao ?_;first|refine oa ?_)|refine oa ?_)|(refine gc ?_;first|(refine ci (fun hB=>?_) (fun hB=>?_) <;> try (exfalso;omega)))|refine sq ?_|refine rg ?_|refine xc ?_|refine nl ?_|refine sk ?_
 rename_i c4 c6
 refine rs (fun w=>w.heap[c]? = some (.cells [.bool false,ox].toArray TIt (0,0))∧w.heap[c6]? = some (.cells [.bool false,oy].toArray TIt (0,0))) ?_ (fun w hw=>⟨pt_at memA hw,pt_at memA hw⟩)
 refine tka 0 ?_
 refine tkl 1 (cs:=[.bool false,ox]) (fun w h=>h.1) ?_
 refine tka 2 ?_
 refine tkl 3 (cs:=[.bool false,oy]) (fun w h=>h.2) ?_
 refine tk 4 (v:=.bool (!(false == false))) (fun _ _=>R_bne (E:=env) (b1:=false) (b2:=false) rfl rfl rfl) ?_
 refine tka 5 ?_
 refine tkl 6 (cs:=[.bool false,ox]) (fun w h=>h.1) ?_
 refine tka 8 ?_
 refine tkl 9 (cs:=[.bool false,oy]) (fun w h=>h.2) ?_
 refine t1 7 ?_
 refine ca (hM ox) ?_
 rintro _ _ ⟨o2,rfl,ho2,rfl⟩
 refine nl ?_
 refine te (fun w hw=>⟨pt_at memA hw,pt_at memA hw⟩) ?_
 refine t1 10 ?_
 refine ca (hL o2 oy) ?_
 rintro _ _ ⟨vn,vd,rfl,hvn,hvd,rfl⟩
 refine nl ?_
 refine te (fun w hw=>⟨pt_at memA hw,pt_at memA hw⟩) ?_
 refine t1 11 ?_
 refine srz ?_
 refine nl ?_
 refine te (fun w hw=>⟨pt_at memA hw,pt_at memA hw⟩) ?_
 refine tka 12 ?_
 refine t0 ?_
 repeat' first|refine xc ?_|refine rt ?_
 exact rca (cs:=[.bool (decide (s.num < 0)),vn,vd]) (vs:=[.bool (decide (s.num < 0)),vn,vd]) (T:=TRt) ⟨vn,vd,rfl,hvn,hvd,rfl⟩
theorem RFCmp_tr (q r:Rat) (v1 v2 v3 v4:Value) (h1:v1.oneCell' = true) (h2:v2.oneCell' = true) (h3:v3.oneCell' = true) (h4:v4.oneCell' = true) (hq:FB q 100000) (hr:FB r 100000) :
  Tr Tryz.prog 97 [rv q v1 v2,rv r v3 v4] [vw v1 (Us (dg q.num.natAbs)),vw v2 (Us (dg q.den)),vw v3 (Us (dg r.num.natAbs)),vw v4 (Us (dg r.den))] [] fun u D=>u = tup2 (I (q - r).num.sign) (I 0)∧D = []:=by
 have hF:=fun lv=>Rfine2_tr q r lv v1 v2 v3 v4 hq hr
 have hW4:=Rwh5_tr v4 r.den (by have:=hr.2;omega)
 have hW2:=Rwh5_tr v2 q.den (by have:=hq.2;omega)
 have hM1:=fun o=>RIMul_tr (decide (q.num < 0)) false v1 o (dg q.num.natAbs) (dg r.den) (Dg_dg _) (Dg_dg _) (by have:=hq.1;omega) (by have:=hr.2;omega)
 have hM2:=fun o=>RIMul_tr (decide (r.num < 0)) false v3 o (dg r.num.natAbs) (dg q.den) (Dg_dg _) (Dg_dg _) (by have:=hr.1;omega) (by have:=hq.2;omega)
 simp only [nv_dg] at hM1 hM2
 simp only [sg_mulN] at hM1 hM2
 have l1:(dz (q.num * r.den)).length ≤ 200000:=dz_mul hq.1 (by unfold dz;rw [Int.natAbs_natCast];exact hr.2)
 have l2:(dz (r.num * q.den)).length ≤ 200000:=dz_mul hr.1 (by unfold dz;rw [Int.natAbs_natCast];exact hq.2)
 have hC:=fun o1 o2 g1 g2=>RICmp_tr (q.num * r.den) (r.num * q.den) o1 o2 g1 g2 (by omega) (by omega)
 have hsg:(q.num * r.den - r.num * q.den).sign = (q - r).num.sign:=by
  rw [Rat.sub_def',mk_sgnZ _ (Nat.mul_ne_zero q.den_nz r.den_nz)]
 rw [hsg] at hC
 clear hsg l1 l2 hq hr
 unfold IR at hM1 hM2
 generalize (q - r).num.sign = s at *
 show Tr _ _ [.agg #[.bool (decide (q.num < 0)),v1,v2],.agg #[.bool (decide (r.num < 0)),v3,v4]] _ _ _
 unfold rrow at hF
 generalize q.num * r.den = z1 at *
 generalize r.num * q.den = z2 at *
 generalize dg q.num.natAbs = lq at *
 generalize dg q.den = lqd at *
 generalize dg r.num.natAbs = lr at *
 generalize dg r.den = lrd at *
 generalize decide (q.num < 0) = b1 at *
 generalize decide (r.num < 0) = b2 at *
 refine Tr.enter env _ Tryz.func97 (by kernel_rfl) rfl Tryz.ntmps97 rfl (by repeat (first | exact has00 | refine has01 ?_)) fun w0=>?_
 repeat' first|(refine gca ?_;first|(refine ca (hF _) ?_ (hp:=has1 (has_oww memA) (has1 hasA (has1 hasA (has1 hasA (has1 hasA has0)))));rintro _ _ ⟨rfl,rfl⟩))|refine bx fun q=>?_|refine lda ?_|refine slws (sz:=3) (xs:=[.bool b1,v1,v2] ++ [.bool b2,v3,v4]) fun g2=>?_|(refine wo ?_;first|refine oa ?_)|(refine gc ?_;first|refine cf ?_)|refine sq ?_|refine rg ?_|refine xc ?_|refine nl ?_|refine sk ?_
 rename_i q1
 refine rs (fun w=>w.heap[q1]? = some (.cells [.bool b1,v1,v2].toArray TRt (0,0))∧w.heap[q]? = some (.cells [.bool b2,v3,v4].toArray TRt (0,0))) ?_ (fun w hw=>⟨pt_at memA hw,pt_at memA hw⟩)
 refine tka 0 ?_
 refine tk 1 (v:=.agg #[.bool b1,v1]) (fun w h=>R_loadA (E:=env) (vs:=[.bool b1,v1]) rfl rfl rfl rfl h.1 rfl rfl) ?_
 refine tka 2 ?_
 refine tkl 3 (cs:=[.bool b2,v3,v4]) (fun w h=>h.2) ?_
 refine tka 6 ?_
 refine tk 7 (v:=.agg #[.bool b2,v3]) (fun w h=>R_loadA (E:=env) (vs:=[.bool b2,v3]) rfl rfl rfl rfl h.2 rfl rfl) ?_
 refine tka 8 ?_
 refine tkl 9 (cs:=[.bool b1,v1,v2]) (fun w h=>h.1) ?_
 refine t1 4 ?_
 refine ca hW4 ?_
 rintro _ _ ⟨w4,rfl,hw4,rfl⟩
 refine nl ?_
 refine te (fun w hw=>⟨pt_at memA hw,pt_at memA hw⟩) ?_
 refine t1 5 ?_
 refine ca (hM1 w4) ?_
 rintro _ _ ⟨o1,rfl,ho1,rfl⟩
 refine nl ?_
 refine te (fun w hw=>⟨pt_at memA hw,pt_at memA hw⟩) ?_
 refine t1 10 ?_
 refine ca hW2 ?_
 rintro _ _ ⟨w2,rfl,hw2,rfl⟩
 refine nl ?_
 refine te (fun w hw=>⟨pt_at memA hw,pt_at memA hw⟩) ?_
 refine t1 11 ?_
 refine ca (hM2 w2) ?_
 rintro _ _ ⟨o2,rfl,ho2,rfl⟩
 refine nl ?_
 refine te (fun w hw=>⟨pt_at memA hw,pt_at memA hw⟩) ?_
 refine t1 12 ?_
 refine ca (hC o1 o2 ho1 ho2) ?_
 rintro _ _ ⟨rfl,rfl⟩
 refine nl ?_
 refine te (fun w hw=>⟨pt_at memA hw,pt_at memA hw⟩) ?_
 refine tka 13 ?_
 refine tka 14 ?_
 refine t0 ?_
 repeat' first|refine xc ?_|refine rt ?_
 exact r2 ⟨rfl,rfl⟩
end Go.Art
