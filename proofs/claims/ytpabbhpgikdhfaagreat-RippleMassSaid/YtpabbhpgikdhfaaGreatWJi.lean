/- Texts put together: Yy Ib Ic Id Ie StopO Vi Vj Vk Gp Ga Vl Rr Zj Vn Vp Vq Vs If. Conditions: none. -/
import Derived.Test.YtpabbhpgikdhfaaGreatWJh
set_option linter.unusedSimpArgs false
set_option linter.unusedVariables false
namespace Go.Art
open Go Go.Proofs Go.RowKit
abbrev lvD (t:List Int) (k n j:Nat):Nat:=lvE (oneS t k) (fun u=>(fT t k u).den) n k j
theorem lvT_facts {t:List Int} {k n:Nat} (hz:solE t k = 0) (hk:k ≤ 40) (hl:t.length ≤ 12) (hn:n ≤ 12) {B:Nat} (hB:B = 20000) {j:Nat} (hj:j ≤ k) :
  Lv n (lvD t k n j) (lvT t k n j)∧tot n (lvT t k n j) ≤ 1∧lvD t k n j ≠ 0∧lvD t k n j < 18446744073709551616 ^ B:=by
 have hf:∀ u,1 ≤ u→u ≤ k→Ch01 (fT t k u).den (fT t k u):=fun u h1 h2=>(fT_ch hz h1 h2).1
 obtain ⟨h1,h2⟩:=lv_ok (n:=n) (pT_ch hz) hf j hj
 refine ⟨h1,h2,lvE_pos (oneS_pos hz) (fun u h1 h2=>(hf u h1 h2).nz) j hj,?_⟩
 have h3:=lvE_le (n:=n) (B:=18446744073709551616 ^ 11) (F:=fun u=>(fT t k u).den) (D:=oneS t k) (k:=k) (fun u h1 h2=>Nat.le_of_lt (fT_lt hz hk hl h1 h2)) (Nat.le_trans hk (by decide)) (Nat.le_of_lt (Nat.lt_trans (oneS_lt hz hk hl) (by decide))) (by decide) j hj
 rw [← Nat.pow_mul] at h3
 refine Nat.lt_of_le_of_lt h3 (Nat.pow_lt_pow_right (by decide) ?_)
 have h4:2 * n * j ≤ 24 * 40:=Nat.mul_le_mul (by omega) (by omega)
 omega
theorem lvT_succ (t:List Int) (k n j:Nat):lvT t k n (j + 1) = nextR (fT t k (k - j)) (1 / ((k - j:Nat):Rat)) n (lvT t k n j):=rfl
theorem lvD_succ (t:List Int) (k n j:Nat):lvD t k n (j + 1) = lvD t k n j * ((fT t k (k - j)).den ^ n * (k - j) ^ n):=rfl
theorem has_bndC {F C:List Ch} {d:Ch} (h:bnd C ∈ F) (k:Has C d):Has F d:=⟨fun w hw=>k.P w (hw.h _ h),k.wr,k.rd,fun b hb=>⟨_,h,bnd_ft.2 (k.ft b hb)⟩⟩
structure LvG (α:Type) where
 j:Nat
 v:Value
 es:List (Option HV)
 z:HV
 a:α
attribute [local irreducible] Fit pt own ro vw mpc lpt vels rels mow lrc dfr
def grB (n:Nat) (v:Value) (qs:List Rat) (es:List (Option HV)) (z:HV):Ch:=bnd (gP n v qs es z)
instance (n:Nat) (v:Value) (qs:List Rat) (es:List (Option HV)) (z:HV):NoB (grB n v qs es z):=⟨bnd_nob (by repeat (first | exact nb0 | refine nb1 ?_))⟩
abbrev GRB (n:Nat) (qs:List Rat) (u:Value) (D:List Ch):Prop:=∃ v es z,u = gV n v∧v.oneCell' = true∧(z.1.oneCell' = true∧z.2.oneCell' = true)∧Grd n es qs∧D = [grB n v qs es z]
theorem Tr.grb {P:Program} {f:FuncId} {args:List Value} {pre A:List Ch} {n:Nat} {qs:List Rat} (h:Tr P f args pre A (GR n qs)):Tr P f args pre A (GRB n qs):=by
 refine h.post ?_
 rintro u D ⟨v,es,z,hu,h1,h2,h3,rfl⟩
 refine ⟨_,⟨v,es,z,hu,h1,h2,h3,rfl⟩,?_,nb1 nb0⟩
 have:=im_bnd (gP n v qs es z) []
 rwa [List.append_nil] at this
theorem has_grB {F:List Ch} {n:Nat} {v:Value} {qs:List Rat} {es:List (Option HV)} {z:HV} (hg:Grd n es qs) (h:grB n v qs es z ∈ F):Has F (vwf v ((n + 1) * (n + 1)) (rcs qs (hsE z es)))∧Has F (vfr (hsE z es) qs):=
 ⟨has_bndC h (has_oww (List.Mem.head _)),has_bndC h (has_gvfr hg (List.Mem.tail _ (List.Mem.head _)) (has_own (List.Mem.tail _ (List.Mem.tail _ (List.Mem.head _)))) (has_own (List.Mem.tail _ (List.Mem.tail _ (List.Mem.tail _ (List.Mem.head _))))))⟩
structure SeqW (P:Program) (f:FuncId) (cap:Array Value) (U:Ch) (n k:Nat) (L:Nat→List Rat):Prop where
 run:∀ {α:Type} (V:Ch) [Lent V] (l:Nat) (J:α→Ch) (pl:α→Nat→Prop) (S:α→Prop) (a0:α),pl a0 0→(∀ a b,¬ (J a).bd b) →
  (∀ a j v es z,v.oneCell' = true→(z.1.oneCell' = true∧z.2.oneCell' = true)→Grd n es (L j)→pl a j→j ≤ k→Ty P l [I ((k - j:Nat):Int),gV n v] [V] [grB n v (L j) es z,J a] fun ok B=>(ok = true∧∃ a',B = [grB n v (L j) es z,J a']∧pl a' (j + 1))∨(ok = false∧∃ a',B = [J a']∧S a')) →
  Tr P f (yv l :: cap.toList) [V,U] [J a0] fun _ B=>∃ a,B = [J a]∧(pl a (k + 1)∨S a)
attribute [local irreducible] lmp lme mit velg relg bnd owl dfrl gow shB grB
theorem levels_tr (tv:Value) (htv:tv.oneCell' = true) (k n:Int):Tr Tryz.prog 57 [tv,I k,I n] [] [] fun u D=>∃ p1 p2 p3,u = .func (.func 105) #[] #[ptr p1,ptr p2,ptr p3]∧D = [pt p3 [I n] TLI,pt p2 [I k] TLI,pt p1 [tv] TLs]:=by
 refine Tr.enter env _ Tryz.func57 (by kernel_rfl) rfl Tryz.ntmps57 rfl (by repeat (first | exact has00 | refine has01 ?_)) fun w0=>?_
 repeat' first|refine bx1 fun b=>?_|(refine wo ?_;first|refine oa ?_)|refine sq ?_|refine rg ?_|refine xc ?_|refine nl ?_|refine rt ?_
 exact r1 ⟨_,_,_,rfl,rfl⟩
theorem nxtT_tr (tv gv:Value) (htv:tv.oneCell' = true) (hgv:gv.oneCell' = true) (t:List Int) (k n j:Nat) (hs:List HV) (hz:solE t k = 0) (hk:k ≤ 40) (hl:t.length ≤ 12) (hn:n ≤ 12) (hj:j < k) (hlen:hs.length = (lvT t k n j).length) :
  Tr Tryz.prog 107 [gV n gv,tv,I k,I ((k - j:Nat):Int)] [vw tv (Is t),vwf gv ((n + 1) * (n + 1)) (rcs (lvT t k n j) hs),vfr hs (lvT t k n j)] [] (GRB n (lvT t k n (j + 1))):=by
 obtain ⟨B,hB⟩ : ∃ B,B = 20000:=⟨_,rfl⟩
 obtain ⟨b1,b2,b3,b4⟩:=lvT_facts hz hk hl hn hB (j:=j) (by omega)
 obtain ⟨_,_,_,c4⟩:=lvT_facts hz hk hl hn hB (j:=j + 1) (by omega)
 rw [lvD_succ] at c4
 rw [lvT_succ]
 exact (nxt_tr tv gv htv hgv t k (k - j) n (lvD t k n j) B (lvT t k n j) hs hz hk hl hn (by omega) (by omega) hlen (supp_lv _ _ _ _ j) b1 b2 b3 c4 (by omega)).grb
theorem levels1_seq (p1 p2 p3:Nat) (tv:Value) (htv:tv.oneCell' = true) (t:List Int) (k n:Nat) (hz:solE t k = 0) (hk:k ≤ 40) (hl:t.length ≤ 12) (hn:n ≤ 12) :
  SeqW Tryz.prog 105 #[ptr p1,ptr p2,ptr p3] (lbd [lpt p1 [tv] TLs,lpt p2 [I k] TLI,lpt p3 [I n] TLI,vw tv (Is t)]) n k (lvT t k n):=by
 refine ⟨fun {α} V hV l J pl S a0 h0 hnb hy=>?_⟩
 haveI:=hV
 haveI:∀ a,NoB (J a):=fun a=>⟨hnb a⟩
 refine Tr.pre (pre:=[V,lpt p1 [tv] TLs,lpt p2 [I k] TLI,lpt p3 [I n] TLI,vw tv (Is t)]) ?_ (has1 (has_mem (by simp)) (has_lbds (C:=[lpt p1 [tv] TLs,lpt p2 [I k] TLI,lpt p3 [I n] TLI,vw tv (Is t)]) (by simp) _ (by repeat (first | exact has00 | refine has01 ?_)) fun c hc=>hc)) (by repeat (first | exact has00 | refine has01 ?_))
 have hF:=(first_tr tv htv t k n hz hk hl hn).grb
 have hN:=fun j (hj:j < k) gv hgv hs hlen=>nxtT_tr tv gv htv hgv t k n j hs hz hk hl hn hj hlen
 clear hz
 generalize lvT t k n = L at *
 refine Tr.enter env _ Tryz.func105 (by kernel_rfl) rfl Tryz.ntmps105 rfl (by repeat (first | exact has00 | refine has01 ?_)) fun w0=>?_
 repeat' first|(refine gca ?_;first|(refine ca hF ?_;rintro _ _ ⟨v,es,z,rfl,hv,hz,hgr,rfl⟩))|refine al fun c5=>?_|refine srz ?_|(refine wo ?_;first|refine oa ?_|refine ldl ?_)|refine sq ?_|refine rg ?_|refine xc ?_|refine nl ?_|refine bk ?_
 refine TC.loop (ι:=LvG α) (fun g=>[(6,I ((k - g.j:Nat):Int))]) (fun g=>[pt c5 [I n,g.v] TGr,grB n g.v (L g.j) g.es g.z,J g.a]) (fun g=>g.j ≤ k∧g.v.oneCell' = true∧(g.z.1.oneCell' = true∧g.z.2.oneCell' = true)∧Grd n g.es (L g.j)∧pl g.a g.j) (fun g=>k - g.j) ⟨0,v,es,z,a0⟩ [0,1,2,3,5] ⟨Nat.zero_le _,hv,hz,hgr,h0⟩ ?_
 clear hv hz hgr hF
 rintro ⟨j,v,es,z,a⟩ ⟨hj,hv,hz,hgr,ha⟩
 dsimp only at hj hv hz hgr ha ⊢
 have hyj:=hy a j v es z hv hz hgr ha hj
 by_cases hlt:j < k
 ·have hNj:=hN j hlt v hv (hsE z es) (by rw [hsE_len,hgr.el,hgr.ql])
  have hs1:((k - j:Nat):Int) - 1 = ((k - (j + 1):Nat):Int):=by omega
  repeat' first|(refine gca ?_;first|(refine ca hNj ?_ (hp:=has1 hasA (has1 (has_grB hgr memA).1 (has1 (has_grB hgr memA).2 has0)));rintro _ _ ⟨v2,es2,z2,rfl,hv2,hz2,hgr2,rfl⟩))|refine lda (cs:=[I n,v]) ?_|(refine cy hyj ?_ (hp:=has1 (has_mem memA) has0);rintro ok _ (⟨rfl,a2,rfl,h3⟩ | ⟨rfl,a2,rfl,h3⟩))|refine srz ?_ (hj:=Nat.le_of_ble_eq_true rfl)|(refine aw (m:=((k - j:Nat):Int) - 1) ?_;rw [hs1])|(refine wo ?_;first|(refine ao ?_;first|refine oa ?_)|refine oa ?_|refine ldl ?_|refine gy ?_|refine gn ?_)|(refine gc ?_;first|refine cf ?_|(refine ci (fun hB=>?_) (fun hB=>?_) <;> try (exfalso;omega)))|refine sq ?_|refine rg ?_|refine xc ?_|refine nl ?_|refine sk ?_|refine bk ?_|refine xe ?_|refine xb ?_
  ·exact lp ⟨j + 1,v2,es2,z2,a2⟩ ⟨hlt,hv2,hz2,hgr2,h3⟩
  ·exact e0 ⟨a2,rfl,.inr h3⟩
 ·obtain rfl:j = k:=by omega
  rw [Nat.sub_self] at hyj
  repeat' first|refine lda (cs:=[I n,v]) ?_|(refine cy hyj ?_ (hp:=has1 (has_mem memA) has0) (hv:=by rw [Nat.sub_self];rfl);rintro ok _ (⟨rfl,a2,rfl,h3⟩ | ⟨rfl,a2,rfl,h3⟩))|(refine wo ?_;first|(refine ao ?_;first|refine oa ?_)|refine oa ?_|refine gy ?_|refine gn ?_)|(refine gc ?_;first|refine cf ?_|(refine ci (fun hB=>?_) (fun hB=>?_) <;> try (exfalso;omega)))|refine sq ?_|refine rg ?_|refine xc ?_|refine nl ?_|refine xe ?_
  ·exact e0 ⟨a2,rfl,.inl h3⟩
  ·exact e0 ⟨a2,rfl,.inr h3⟩
end Go.Art
namespace Go.Art
open Go Go.Proofs Go.RowKit
section
variable {P:Program} {E:Env P} {Q0:Exit→Act→World→Prop} {s:List K} {fr:Fr} {w:World}
theorem SC_rangeI {m l0:Nat} {ds:List Deferred} {g:Operand} {f:FuncId} {cap:Array Value} {ps:List Tmp} {assign body:Code} {rec0:Loop} {st0:LoopState} {pend0:Option Code} (h0:RAt w l0 rec0 st0 pend0) (hg:ev fr g = some (.func (.func f) #[] cap))
  (h:∀ (rec:Loop) (w1:World),RecOk rec m fr ps assign body rec0.defers→Ext w w1→w1.heap.size = w.heap.size + 1→RAt w1 w.heap.size rec .ready none →
   Fn P f (yv w.heap.size :: cap.toList) w1 fun _ w3=>∃ st pend,st ≠ LoopState.busy∧RAt w3 w.heap.size rec st pend ∧
    ∀ w4,Upd w3 w4 [w.heap.size]→afterR E ⟨m,ds,some l0⟩ Q0 s fr w4 pend) :
  SC E ⟨m,ds,some l0⟩ Q0 s (.rangeFunc g ps.toArray assign body) fr w:=⟨fun a ha=>by
 refine wpIn_rangeFunc fun fn _=>?_
 obtain ⟨rec,hrec⟩ : ∃ rec:Loop,rec = { state:=.ready,pending:=none,fn,tmps:=a.tmps,params:=ps.toArray,assign,body,defers:=rec0.defers }:=⟨_,rfl⟩
 obtain ⟨w1,hw1⟩ : ∃ w1,w1 = w.alloc (.loop rec):=⟨_,rfl⟩
 have hfn:=h rec w1 (by subst hrec;exact ⟨rfl,rfl,rfl,rfl,a,rfl,ha.size,rfl,ha.slot⟩) (by subst hw1;exact Upd.alloc w _) (by subst hw1;simp) (by subst hw1;subst hrec;exact World.alloc_heap_new w _)
 have hcf:=run_callFunc_fn hfn.can (yv w.heap.size :: cap.toList).toArray w1
 refine ⟨w.heap.size,[],w1,{ target:=.fn (.func f) cap,args:=#[yv w.heap.size] },w1,f,(yv w.heap.size :: cap.toList).toArray,w1,?_,?_,fun _ _=>trivial,?_,fun e=>(by cases e),?_⟩
 ·subst hw1;subst hrec;exact run_enterLoop_inner h0 fn a.tmps ps.toArray assign body
 ·simp only [resolve,rangeCall,ha.ev hg]
  simp [Deferred.ofValue,Act.eval]
 ·have e1 : #[yv w.heap.size] ++ cap = (yv w.heap.size :: cap.toList).toArray:=by apply Array.ext';simp
  simp only [invoke,e1]
  exact hcf
 ·refine callsFF (hfn.calls.mono fun e w3 ⟨v,he,st,pend,hst,hR,hk⟩=>?_)
  subst he
  refine ⟨pend,w3.putObj w.heap.size (.loop { rec with state:=.exhausted,pending:=pend }),run_endLoop hR hst,?_⟩
  have hh:=hk _ (putObj_upd w3 w.heap.size (.loop { rec with state:=.exhausted,pending:=pend }))
  have ha':Holds ⟨m,ds,some l0⟩ { a with defers:=[] ++ a.defers } fr:=⟨ha.size,by show [] ++ a.defers = _;rw [ha.defers];rfl,ha.slot⟩
  cases pend with
  | none=>exact hh.run _ ha'
  | some c=>exact hh.run _ ha'⟩
end
section
variable {P:Program} {E:Env P} {X:Cx} {s:List K} {fr:Fr} {A F:List Ch} {m l0:Nat} {assign body:Code} {rec0:Loop} {st0:LoopState} {pend0:Option Code}
theorem TC.rangeI {ds:List Deferred} {g:Operand} {f:FuncId} {cap:Array Value} {ps:List Tmp} (hl0:lrc l0 rec0 st0 pend0 ∈ A) (pre J:List Ch) (Aft:Nat→Loop→Option Code→List Ch→Prop)
  (hit:∀ rec l,RecOk rec m fr ps assign body rec0.defers→Tr P f (yv l :: cap.toList) pre (lrc l rec .ready none :: J) fun _ B=>∃ st pend B',B = lrc l rec st pend :: B'∧st ≠ LoopState.busy∧Aft l rec pend B')
  (aft:∀ l rec pend B',Aft l rec pend B'→afterT E ⟨m,ds,some l0⟩ X s fr (B' ++ F) pend) (hg:ev fr g = some (.func (.func f) #[] cap):=by rfl) (hs:Fit A J F:=by exact fitA)
  (hp:∀ c ∈ pre,Has F c:=by (repeat (first | exact has0 | refine has1 hasA ?_));first | done | fail):TC E ⟨m,ds,some l0⟩ X s (.rangeFunc g ps.toArray assign body) fr A:=⟨fun w hw=>by
 refine SC_rangeI (hw.mem hl0) hg fun rec w1 hr hE hz hl=>?_
 have h0:=hw.im hs
 have h1:=h0.ext hE
 have h2:St X (lrc w.heap.size rec .ready none :: (J ++ F)) w1:=by
  have hnew:∀ b,fts [lrc w.heap.size rec .ready none] b→w.heap.size ≤ b:=by
   rintro b ⟨c,hc,hb⟩
   rw [List.mem_singleton.1 hc] at hb
   rcases hb with hb | hb | hb
   ·have:b = w.heap.size:=hb;omega
   ·exact hb.elim
   ·exact hb.elim
  refine h0.step (A:=[]) (B:=[lrc w.heap.size rec .ready none]) (Mv.upd hE (by simp) (fun b hb=>.inr (hnew b hb.ft)) (fun b hb=>.inr (.inr (hnew b hb.ft)))) (Sat.one hl) ?_
  intro c hc b hb
  rw [List.mem_singleton.1 hc] at hb
  exact hb
 refine ((hit rec w.heap.size hr).at (F:=F) (by exact Im.refl _) hp h2).mono fun v w3 ⟨D,⟨st,pend,B',hB,hst,hA⟩,hS⟩=>?_
 subst hB
 refine ⟨st,pend,hst,hS.mem (List.Mem.head _),fun w4 hU=>?_⟩
 have h4:St X (B' ++ F) w4:=by
  have:=hS.step (A:=[lrc w.heap.size rec st pend]) (B:=[]) (F:=B' ++ F) (w':=w4) (Mv.upd hU (fun b hb=>.inl (wrs_one.2 (List.mem_singleton.1 hb))) (fun b hb=>absurd hb wrs_nil) (fun b hb=>absurd hb rds_nil)) (Sat.nil _) (by simp)
  exact this
 have h5:=aft _ _ _ _ hA
 cases pend with
 | none=>exact TX.run h5 w4 h4
 | some c=>exact TC.run h5 w4 h4⟩
end
end Go.Art
namespace Go.Art
open Go Go.Proofs Go.RowKit
theorem Ty.bndK {P:Program} {l:Nat} {vs:List Value} {K pre C:List Ch} {R:Bool→List Ch→Prop} (h:Ty P l vs pre (C ++ K) fun b D=>∃ C' K',D = C' ++ K'∧R b (K' ++ [Go.Art.bnd C'])):Ty P l vs pre (K ++ [Go.Art.bnd C]) R:=by
 refine ⟨fun w hw=>?_,h.lent⟩
 have p1:(pre ++ (K ++ [Go.Art.bnd C])).Perm (Go.Art.bnd C :: (pre ++ K)):=by
  have:((pre ++ K) ++ [Go.Art.bnd C]).Perm (Go.Art.bnd C :: (pre ++ K)):=List.perm_append_comm (l₁:=pre ++ K) (l₂:=[Go.Art.bnd C])
  simpa using this
 have h1:Sat (pre ++ (C ++ K)) w:=(bnd_sat.1 (hw.perm p1)).perm (List.perm_append_comm_assoc C pre K)
 have e1:∀ (C K:List Ch) (b:Nat),wrs (C ++ K) b ↔ wrs (K ++ [Go.Art.bnd C]) b:=fun C K b=>by
  constructor
  ·rintro ⟨c,hc,hb⟩
   rcases List.mem_append.1 hc with hc | hc
   ·exact ⟨Go.Art.bnd C,by simp,c,hc,hb⟩
   ·exact ⟨c,List.mem_append_left _ hc,hb⟩
  ·rintro ⟨c,hc,hb⟩
   rcases List.mem_append.1 hc with hc | hc
   ·exact ⟨c,List.mem_append_right _ hc,hb⟩
   ·rw [List.mem_singleton.1 hc] at hb
    obtain ⟨d,hd,h⟩:=hb
    exact ⟨d,List.mem_append_left _ hd,h⟩
 have e2:∀ (C K:List Ch) (b:Nat),rds (C ++ K) b ↔ rds (K ++ [Go.Art.bnd C]) b:=fun C K b=>by
  constructor
  ·rintro ⟨c,hc,hb⟩
   rcases List.mem_append.1 hc with hc | hc
   ·exact ⟨Go.Art.bnd C,by simp,c,hc,hb⟩
   ·exact ⟨c,List.mem_append_left _ hc,hb⟩
  ·rintro ⟨c,hc,hb⟩
   rcases List.mem_append.1 hc with hc | hc
   ·exact ⟨c,List.mem_append_right _ hc,hb⟩
   ·rw [List.mem_singleton.1 hc] at hb
    obtain ⟨d,hd,h⟩:=hb
    exact ⟨d,List.mem_append_left _ hd,h⟩
 refine (h.run w h1).mono fun b w' ⟨B,⟨C',K',hB',hR⟩,hS,hM,hnb⟩=>?_
 subst hB'
 refine ⟨K' ++ [Go.Art.bnd C'],hR,?_,⟨hM.os,hM.tape,hM.output,hM.size,fun k hk hn=>hM.block k hk fun h=>hn ((e1 C K k).1 h),fun x hx=>(hM.wr x ((e1 C' K' x).2 hx)).imp_left (e1 C K x).1,fun x hx=>(hM.rd x ((e2 C' K' x).2 hx)).imp (e1 C K x).1 (Or.imp_left (e2 C K x).1)⟩,fun c hc x hx=>?_⟩
 ·exact (bnd_sat.2 hS).perm (List.perm_append_comm (l₁:=[Go.Art.bnd C']) (l₂:=K'))
 ·rcases List.mem_append.1 hc with hc | hc
  ·exact hnb c (List.mem_append_right _ hc) x hx
  ·rw [List.mem_singleton.1 hc] at hx
   obtain ⟨y,hy,h2⟩:=hx
   exact hnb y (List.mem_append_left _ hy) x h2
def ripE (t:List Int) (k n:Int):Int:=if k < 1∨1024 < k∨n < 0∨4096 < n then 3 else solE t k
theorem ripE_zero {t:List Int} {k n:Int} (h:ripE t k n = 0):(1 ≤ k∧k ≤ 1024)∧(0 ≤ n∧n ≤ 4096)∧solE t k = 0:=by
 unfold ripE at h
 split at h
 ·cases h
 ·exact ⟨by omega,by omega,h⟩
def psN (n u:Nat) (x:List Rat) (i:Nat):Rat:=sR (fun i=>if u = 0∨i % (n + 1) = 0 then x.getD i 0 else 0) (List.range i)
theorem psN_all (n u:Nat) (x:List Rat):psN n u x ((n + 1) * (n + 1)) = stuckR n u x:=rfl
theorem psN_zero (n u:Nat) (x:List Rat):psN n u x 0 = 0:=rfl
theorem psN_in {n u:Nat} {x:List Rat} {i:Nat} (h:u = 0∨i % (n + 1) = 0):psN n u x (i + 1) = psN n u x i + x.getD i 0:=by unfold psN;rw [sR_last,if_pos h]
theorem psN_out {n u:Nat} {x:List Rat} {i:Nat} (h:¬ (u = 0∨i % (n + 1) = 0)):psN n u x (i + 1) = psN n u x i:=by unfold psN;rw [sR_last,if_neg h,Rat.add_zero]
theorem psN_fr {n E u:Nat} {x:List Rat} (hx:Lv n E x) {i:Nat} (hi:i ≤ (n + 1) * (n + 1)):FrQ E (psN n u x i):=FrQ.sum fun j hj=>by
 have:=List.mem_range.1 hj
 split
 ·exact hx.fr j (by omega)
 ·exact FrQ.zero E
theorem psN_le {n E u:Nat} {x:List Rat} (hx:Lv n E x) {i:Nat} (hi:i ≤ (n + 1) * (n + 1)):psN n u x i ≤ tot n x:=by
 rw [tot_eq]
 obtain ⟨q,hq⟩:=Nat.exists_eq_add_of_le hi
 rw [hq,List.range_add,sR_app]
 have h1:psN n u x i ≤ sR (fun i=>x.getD i 0) (List.range i):=sR_le fun j hj=>by
  have:=List.mem_range.1 hj
  split
  ·exact Rat.le_refl
  ·exact (hx.fr j (by omega)).nonneg
 have h2:0 ≤ sR (fun i=>x.getD i 0) ((List.range q).map (i + ·)):=sR_nonneg fun j hj=>by
  obtain ⟨a,ha,rfl⟩:=List.mem_map.1 hj
  have:=List.mem_range.1 ha
  exact (hx.fr _ (by omega)).nonneg
 grind
def stL (t:List Int) (k n:Nat):List Rat:=(List.range (k + 1)).map (stT t k n)
theorem stL_len (t:List Int) (k n:Nat):(stL t k n).length = k + 1:=by simp [stL]
theorem stL_get {t:List Int} {k n i:Nat} (h:i < k + 1):(stL t k n).getD i 0 = stT t k n i:=by simp [stL,List.getD_eq_getElem?_getD,h]
theorem zrs_rcs:∀ N:Nat,zrs N = rcs (List.replicate N 0) (hsE nS2 (List.replicate N none))
 | 0=>rfl
 | N + 1=>by
  have ih:=zrs_rcs N
  unfold zrs rcs hsE at *
  rw [List.replicate_succ,List.flatten_cons,ih,List.replicate_succ,List.replicate_succ,List.map_cons,List.zipWith_cons_cons,List.flatten_cons]
  rfl
theorem getD_setO (l:List (Option HV)) (i j:Nat) (x:Option HV) (hj:j < l.length):(l.set j x).getD i none = if i = j then x else l.getD i none:=by
 simp only [List.getD_eq_getElem?_getD,List.getElem?_set]
 by_cases e:i = j
 ·subst e;simp [hj]
 ·rw [if_neg (fun h=>e h.symm),if_neg e]
theorem has_gowS {F:List Ch} {es:List (Option HV)} {qs:List Rat} (hl:es.length = qs.length) (h:gow es qs ∈ F) {i:Nat} (hi:i < qs.length) {p:HV} (he:es.getD i none = some p) :
  Has F (vw p.1 (Us (dg (qs.getD i 0).num.natAbs)))∧Has F (vw p.2 (Us (dg (qs.getD i 0).den))):=by
 have h1:=gps_get (es:=es) (qs:=qs) (i:=i) (by omega) hi
 rw [he] at h1
 exact ⟨has_bndI (.inr h) (List.mem_of_getElem? h1) (has_bndI (.inr (List.mem_singleton.2 rfl)) (List.Mem.head _) (has_own (List.mem_singleton.2 rfl))),
  has_bndI (.inr h) (List.mem_of_getElem? h1) (has_bndI (.inr (List.mem_singleton.2 rfl)) (List.Mem.tail _ (List.Mem.head _)) (has_own (List.mem_singleton.2 rfl)))⟩
theorem gow_ofr (F:List Ch):∀ {es:List (Option HV)} {qs:List Rat},es.length = qs.length→(∀ i,i < qs.length→(es.getD i none).isSome)→Im (gow es qs :: F) (ofr (hsE nS2 es) qs :: F)
 | [],[],_,_=>(un_bnd [] F).trans (owl_nil F)
 | [],_ :: _,h,_=>by simp at h
 | _ :: _,[],h,_=>by simp at h
 | e :: es,q :: qs,h,H=>by
  have h0:=H 0 (by simp)
  cases e with
  | none=>cases h0
  | some p=>
   have ih:=gow_ofr (own T64 p.1 (Us (dg q.num.natAbs)) :: own T64 p.2 (Us (dg q.den)) :: F) (es:=es) (qs:=qs) (by simpa using h) fun i hi=>by
    have:=H (i + 1) (by simpa using hi)
    simpa [List.getD_eq_getElem?_getD] using this
   have a1:Im (gow (some p :: es) (q :: qs) :: F) (bnd [own T64 p.1 (Us (dg q.num.natAbs)),own T64 p.2 (Us (dg q.den))] :: gow es qs :: F):=bnd_uncons _ _ F
   refine a1.trans ((un_bnd _ _).trans ?_)
   show Im (own T64 p.1 (Us (dg q.num.natAbs)) :: own T64 p.2 (Us (dg q.den)) :: gow es qs :: F) _
   refine (im_swap3 _ _ _ F).trans (ih.trans ?_)
   show Im (owl T64 wU (hpc (hsE nS2 es)) (pcl qs) :: own T64 p.1 (Us (dg q.num.natAbs)) :: own T64 p.2 (Us (dg q.den)) :: F) (bnd (own T64 p.1 ((Zs (dg q.num.natAbs)).map wU) :: own T64 p.2 ((Zs (dg q.den)).map wU) :: owls T64 wU (hpc (hsE nS2 es)) (pcl qs)) :: F)
   rw [← Us_eq,← Us_eq]
   refine (Im.perm ((List.perm_middle (l₁:=[own T64 p.1 (Us (dg q.num.natAbs)),own T64 p.2 (Us (dg q.den))])).symm)).trans ?_
   exact (Im.cons _ (bnd_cons (own T64 p.2 (Us (dg q.den))) _ F)).trans (bnd_cons (own T64 p.1 (Us (dg q.num.natAbs))) _ F)
attribute [local irreducible] Fit pt own ro vw mpc lpt vels rels mow lrc dfr
attribute [local irreducible] lmp lme mit velg relg bnd owl dfrl gow shB grB
theorem riprefuses_tr (tv:Value) (t:List Int) (k n:Int):Tr Tryz.prog 56 [tv,I k,I n] [vw tv (Is t)] [] fun u D=>u = I (ripE t k n)∧D = []:=by
 have hC:=SoCheck_tr tv t k
 have h13:=@solE_13 t k
 unfold ripE
 by_cases hc:k < 1∨1024 < k∨n < 0∨4096 < n
 ·rw [if_pos hc]
  refine Tr.enter env _ Tryz.func56 (by kernel_rfl) rfl Tryz.ntmps56 rfl (by repeat (first | exact has00 | refine has01 ?_)) fun w0=>?_
  repeat' first|(refine wo ?_;first|(refine ao ?_;first|refine oa ?_)|refine oa ?_|refine gy ?_|refine gn ?_|(refine gsi (fun hB=>?_) (fun hB=>?_) <;> try (exfalso;omega)))|(refine gc ?_;first|refine ct ?_|(refine ci (fun hB=>?_) (fun hB=>?_) <;> try (exfalso;omega)))|refine sq ?_|refine rg ?_|refine xc ?_|refine nl ?_|refine bk ?_|refine rt ?_
  all_goals exact r1 ⟨rfl,rfl⟩
 ·rw [if_neg hc]
  by_cases hz:solE t k = 0
  ·rw [hz] at hC ⊢
   refine Tr.enter env _ Tryz.func56 (by kernel_rfl) rfl Tryz.ntmps56 rfl (by repeat (first | exact has00 | refine has01 ?_)) fun w0=>?_
   repeat' first|(refine gca ?_;first|(refine ca hC ?_;rintro _ _ ⟨rfl,rfl⟩))|(refine wo ?_;first|(refine ao ?_;first|refine oa ?_)|refine oa ?_|refine gy ?_|(refine gsi (fun hB=>?_) (fun hB=>?_) <;> try (exfalso;omega)))|(refine gc ?_;first|refine cf ?_|(refine ci (fun hB=>?_) (fun hB=>?_) <;> try (exfalso;omega)))|refine sq ?_|refine rg ?_|refine xc ?_|refine nl ?_|refine sk ?_|refine bk ?_|refine rt ?_|refine xb ?_
   exact r1 ⟨rfl,rfl⟩
  ·rw [h13 hz] at hC ⊢
   refine Tr.enter env _ Tryz.func56 (by kernel_rfl) rfl Tryz.ntmps56 rfl (by repeat (first | exact has00 | refine has01 ?_)) fun w0=>?_
   repeat' first|(refine gca ?_;first|(refine ca hC ?_;rintro _ _ ⟨rfl,rfl⟩))|(refine wo ?_;first|(refine ao ?_;first|refine oa ?_)|refine oa ?_|refine gy ?_|(refine gsi (fun hB=>?_) (fun hB=>?_) <;> try (exfalso;omega)))|(refine gc ?_;first|refine ct ?_|(refine ci (fun hB=>?_) (fun hB=>?_) <;> try (exfalso;omega)))|refine sq ?_|refine rg ?_|refine xc ?_|refine nl ?_|refine bk ?_|refine rt ?_
   exact r1 ⟨rfl,rfl⟩
end Go.Art
namespace Go.Art
open Go Go.Proofs Go.RowKit
section
variable {P:Program} {E:Env P} {n:Sh} {fr:Fr} {A A' D G:List Ch} {m:Nat}
theorem m2t {Ds:List Nat} {w0:World} {A0:List Ch} {R':Value→List Ch→Prop} {fn:Func} {t t2:Nat} {v1 v2:Value} (h:R' (.tuple #[v1,v2]) D) (hr:fn.results = #[.tmp t,.tmp t2]:=by rfl) (hv:get fr t = some v1:=by rfl) (hv2:get fr t2 = some v2:=by rfl)
  (hm:Tk (dfrl Ds) A A':=by exact tkA) (hf:Fit A' D G:=by exact fitA) (nb:∀ c ∈ D,∀ b,¬ c.bd b:=by (repeat (first | exact nb0 | refine nb1 ?_));first | done | fail) (hn:n = ⟨m,marks Ds,none⟩:=by rfl) :
  TX E n ⟨bodyPostM (FF none) 0 P fn (RetP (PR w0 A0 R')),w0,A0⟩ [] .ret fr A:=by
 subst hn
 exact mG (.inl rfl) h (fun w hw a ha=>by rw [results_tmp2 hr a.tmps P w,ha.slot _ _ hv,ha.slot _ _ hv2]) hm hf nb
end
structure SkG where
 qs:List Rat
 es:List (Option HV)
structure SkI (t:List Int) (k n j:Nat) (g:SkG):Prop where
 ql:g.qs.length = k + 1
 el:g.es.length = k + 1
 in_:∀ i,i < k + 1→k + 1 ≤ i + j→g.qs.getD i 0 = stT t k n i∧(g.es.getD i none).isSome
structure SkP where
 i:Nat
 p:HV
theorem stI_set {t:List Int} {k n j:Nat} {g:SkG} (h:SkI t k n j g) (hj:j ≤ k) (p:HV):SkI t k n (j + 1) ⟨g.qs.set (k - j) (stT t k n (k - j)),g.es.set (k - j) (some p)⟩:=by
 refine ⟨by rw [List.length_set,h.ql],by rw [List.length_set,h.el],fun i hi h2=>?_⟩
 rw [getD_setR _ _ _ _ (by rw [h.ql];omega),getD_setO _ _ _ _ (by rw [h.el];omega)]
 by_cases e:i = k - j
 ·subst e;rw [if_pos rfl,if_pos rfl];exact ⟨rfl,rfl⟩
 ·rw [if_neg e,if_neg e];exact h.in_ i hi (by omega)
theorem stI_all {t:List Int} {k n:Nat} {g:SkG} (h:SkI t k n (k + 1) g):g.qs = stL t k n∧∀ i,i < g.qs.length→(g.es.getD i none).isSome:=by
 refine ⟨List.ext_getElem (by rw [h.ql,stL_len]) fun i h1 h2=>?_,fun i hi=>(h.in_ i (by rw [h.ql] at hi;exact hi) (by omega)).2⟩
 have h3:=(h.in_ i (by rw [h.ql] at h1;exact h1) (by omega)).1
 rw [← stL_get (by rw [h.ql] at h1;exact h1)] at h3
 simpa [List.getD_eq_getElem?_getD,h1,h2] using h3
theorem rcs_setS {z:HV} {es:List (Option HV)} {qs:List Rat} (hl:es.length = qs.length) {i:Nat} (hi:i < qs.length) (q:Rat) (p:HV):(rcs qs (hsE z es)).take (3 * i) ++ rrow q p ++ (rcs qs (hsE z es)).drop (3 * i + 3) = rcs (qs.set i q) (hsE z (es.set i (some p))):=by
 rw [rcs_set (by rw [hsE_len,hl]) hi,hsE_set]
attribute [local irreducible] Fit pt own ro vw mpc lpt vels rels mow lrc dfr
attribute [local irreducible] lmp lme mit velg relg bnd owl dfrl gow shB grB
abbrev TRs:TypeId:=26
set_option maxHeartbeats 1000000 in
theorem Stuck_tr (tv:Value) (htv:tv.oneCell' = true) (t:List Int) (k n:Nat) (hz:solE t k = 0) (hk:k ≤ 40) (hl:t.length ≤ 12) (hn:n ≤ 12):Tr Tryz.prog 18 [tv,I k,I n] [vw tv (Is t)] []
  fun u D=>∃ v hs,u = tup2 v (I 0)∧v.oneCell' = true∧hs.length = k + 1∧D = [oww TRt 3 v (k + 1) (rcs (stL t k n) hs),ofr hs (stL t k n)]:=by
 have hk1:=(solE_zero hz).1
 have hR:=riprefuses_tr tv t k n
 rw [show ripE t k n = 0 by unfold ripE;rw [if_neg (by omega)];exact hz] at hR
 have hLv:=levels_tr tv htv (k:Int) (n:Int)
 have hW:=whole_tr 0 (by decide)
 rw [zero_mk] at hW
 have hrunL:=fun p1 p2 p3=>@SeqW.run _ _ _ _ _ _ _ (levels1_seq p1 p2 p3 tv htv t k n hz hk hl hn)
 obtain ⟨B,hB⟩ : ∃ B,B = 20000:=⟨_,rfl⟩
 have hB9:B ≤ 8589934592:=by omega
 have hfact:=fun j (hj:j ≤ k)=>lvT_facts hz hk hl hn hB (j:=j) hj
 have hPF:∀ j u i,j ≤ k→i ≤ ((n + 1) * (n + 1))→FB (psN n u (lvT t k n j) i) 8589934592:=fun j u i hj hi=>by
  obtain ⟨b1,b2,b3,b4⟩:=hfact j hj
  exact (FB_le1 (psN_fr b1 hi) b3 (Rat.le_trans (psN_le b1 hi) b2) b4).le hB9
 have hXF:∀ j i,j ≤ k→i < ((n + 1) * (n + 1))→FB ((lvT t k n j).getD i 0) 8589934592:=fun j i hj hi=>by
  obtain ⟨b1,b2,b3,b4⟩:=hfact j hj
  exact (y_FB b1 b2 b3 b4 hi).le hB9
 have hst:∀ j,j ≤ k→stuckR n (k - j) (lvT t k n j) = stT t k n (k - j):=fun j hj=>by unfold stT;rw [show k - (k - j) = j by omega]
 have hset:=fun j g (h:SkI t k n j g) (hj:j ≤ k) p=>stI_set h hj p
 have hall:=fun g (h:SkI t k n (k + 1) g)=>stI_all h
 have hql:∀ j,(lvT t k n j).length = ((n + 1) * (n + 1)):=fun j=>(supp_lv _ _ _ _ j).len
 have hPl:=fun v hv=>places_tr n v hv
 have hst0:SkI t k n 0 ⟨List.replicate (k + 1) 0,List.replicate (k + 1) none⟩:=⟨by simp,by simp,fun i h1 h2=>by omega⟩
 unfold FQ at hW
 have e0:((0:Nat):Int) = 0:=rfl
 rw [e0] at hW
 clear hz hfact hB hB9
 generalize lvT t k n = L at *
 generalize stL t k n = LL at *
 have hkk:(k:Int) + 1 = ((k + 1:Nat):Int):=rfl
 refine Tr.enterM env _ Tryz.func18 (by kernel_rfl) rfl Tryz.ntmps18 rfl (by repeat (first | exact has00 | refine has01 ?_)) fun w0=>?_
 repeat' first|(refine gca ?_;first|(refine ca hR ?_;rintro _ _ ⟨rfl,rfl⟩)|(refine ca hLv ?_;rintro _ _ ⟨p1,p2,p3,rfl,rfl⟩))|(refine aw (m:=(k:Int) + 1) ?_;rw [hkk])|(refine mkw (sz:=3) (c:=((k + 1:Nat):Int)) (fun sv hsv=>?_);rw [Int.toNat_natCast,zrs_eq,zrs_rcs])|refine al fun c9=>?_|(refine wo ?_;first|(refine ao ?_;first|refine oa ?_)|refine oa ?_|refine sr ?_)|(refine gc ?_;first|refine cf ?_)|refine sq ?_|refine rg ?_|refine xc ?_|refine nl ?_|refine sk ?_|refine bk ?_
 refine TC.im (gow_none _ (k + 1) (List.replicate (k + 1) 0)) ?_
 have hrun:=@hrunL p1 p2 p3
 clear hrunL hLv hR
 refine TC.range [lbd [lpt c9 [sv] TRs],lbd [lpt p1 [tv] TLs,lpt p2 [I k] TLI,lpt p3 [I n] TLI,vw tv (Is t)]] [oww TRt 3 sv (k + 1) (rcs (List.replicate (k + 1) 0) (hsE nS2 (List.replicate (k + 1) none))),gow (List.replicate (k + 1) none) (List.replicate (k + 1) 0)] (fun l2 rec Dm pend B'=>∃ g:SkG,B' = [dfr Dm,oww TRt 3 sv (k + 1) (rcs g.qs (hsE nS2 g.es)),gow g.es g.qs]∧pend = none∧SkI t k n (k + 1) g) ?_ ?_ (hp:=has1 (lbd_of (has1 hasA has0)) (has1 (lbd_of (has1 hasA (has1 hasA (has1 hasA (has1 hasA has0))))) has0))
 rotate_left
 ·rintro l2 rec Dm pend B' ⟨⟨qs,es⟩,rfl,rfl,hS⟩
  obtain ⟨e1,e2⟩:=hall _ hS
  have h1:=hS.ql
  have h2:=hS.el
  dsimp only at e1 e2 h1 h2 ⊢
  subst e1
  show TX env _ _ _ _ _ _
  refine TX.im (dfrl_nil _) ?_
  refine TX.im (dfrl_push (D:=Dm) (Ds:=[]) fitA) ?_
  repeat' first|(refine wo ?_;first|refine oa ?_|refine ld ?_)|refine sq ?_|refine rg ?_|refine xc ?_|refine nl ?_|refine rt ?_|refine xb ?_
  refine TX.im (Im.trans (Im.perm (List.perm_middle (l₁:=[dfrl [Dm],oww TRt 3 sv (k + 1) (rcs qs (hsE nS2 es))]))) (gow_ofr _ (by omega) e2)) ?_
  exact m2t (Ds:=[Dm]) ⟨sv,hsE nS2 es,rfl,hsv,by rw [hsE_len];exact h2,rfl⟩
 intro rec l2 Dm hr
 refine Tr.unb (hrun (α:=SkG) (lbd [lpt c9 [sv] TRs]) l2 (fun g=>bnd [lrc l2 rec .ready none,dfr Dm,oww TRt 3 sv (k + 1) (rcs g.qs (hsE nS2 g.es)),gow g.es g.qs]) (fun g j=>SkI t k n j g) (fun _=>False) ⟨List.replicate (k + 1) 0,List.replicate (k + 1) none⟩ hst0 (fun p=>bnd_nob (by repeat (first | exact nb0 | refine nb1 ?_))) ?_) ?_
 rotate_left
 ·rintro _ _ ⟨g,rfl,h | h⟩
  ·exact ⟨_,rfl,.ready,none,_,rfl,by decide,g,rfl,rfl,h⟩
  ·exact h.elim
 clear hrun hst0 hall
 rintro ⟨qs,es⟩ j v ez z hv hz hgr hS hj
 have hset:=hset j _ hS hj
 have hqs:=hS.ql
 have hes:=hS.el
 dsimp only at hset hqs hes ⊢
 refine Ty.bndK (K:=[grB n v (L j) ez z]) ?_
 refine Ty.pre (pre:=[lpt c9 [sv] TRs]) ?_ (has_lbds (C:=[lpt c9 [sv] TRs]) (List.Mem.head _) _ (by repeat (first | exact has00 | refine has01 ?_)) fun c hc=>hc) (by repeat (first | exact has00 | refine has01 ?_))
 refine Ty.intro env hr (by repeat (first | exact has00 | refine has01 ?_)) fun w1=>?_
 have hPl:=hPl v hv
 have hPF:=fun i hi=>hPF j (k - j) i hj hi
 have hXF:=fun i hi=>hXF j i hj hi
 rw [← hst j hj] at hset
 clear hst hS
 have hql:=hql j
 have hhl:(hsE z ez).length = (L j).length:=by rw [hsE_len,hgr.el,hgr.ql]
 generalize L j = x at *
 have hu:k - j < k + 1:=by omega
 generalize k - j = u at *
 repeat' first|refine al fun c11=>?_|refine srz ?_ (hj:=Nat.le_of_ble_eq_true rfl)|refine xbeg ?_|(refine wo ?_;first|refine sr ?_)|refine sq ?_|refine rg ?_|refine xc ?_|refine nl ?_|refine bk ?_
 rename_i c10
 have hul:=show u < qs.length by omega
 have hrs:=fun (q':Rat) (p':HV)=>rcs_setS (z:=nS2) (es:=es) (qs:=qs) (by omega) (i:=u) hul q' p'
 refine rs (fun w'=>w'.heap[c9]? = some (.cells [sv].toArray TRs (0,0))∧w'.heap[c10]? = some (.cells [I u].toArray TLI (0,0))∧∃ xs,SlW w' sv (k + 1) xs) ?_ (fun w' hw=>⟨lpt_at memA hw,pt_at memA hw,_,(has_oww (e:=TRt) (sz:=3) (v:=sv) (n:=k + 1) memA).P w' hw⟩)
 refine krl 0 (cs:=[sv]) (fun w' h=>h.1) ?_
 refine krl 1 (cs:=[I u]) (fun w' h=>h.2.1) ?_
 refine t1 2 ?_
 refine ca hW ?_
 rintro _ _ ⟨n1,d1,rfl,hn1,hd1,rfl⟩
 refine nl ?_
 refine te (fun w' hw=>⟨lpt_at memA hw,pt_at memA hw,_,(has_oww (e:=TRt) (sz:=3) (v:=sv) (n:=k + 1) memA).P w' hw⟩) ?_
 refine kr 3 (v:=.pointer (some (adr sv (3 * u)))) (hi:=rfl) (fun w' h=>by obtain ⟨xs,hx⟩:=h.2.2;exact R_idxW (E:=env) (i:=(u:Int)) rfl rfl rfl rfl hx ⟨by omega,by omega⟩) ?_
 refine t1 4 ?_
 refine sow (sz:=3) (m:=3 * u) (N:=k + 1) (xs:=rcs qs (hsE nS2 es)) (vs:=rrow 0 (n1,d1)) (by omega) ?_ (h1:=one_cons rfl (one_cons hn1 (one_cons hd1 one_nil)))
 refine nl ?_
 refine te (fun w' hw=>⟨lpt_at memA hw,pt_at memA hw,_,(has_oww (e:=TRt) (sz:=3) (v:=sv) (n:=k + 1) memA).P w' hw⟩) ?_
 refine t0 ?_
 refine id ?_
 repeat' first|(refine gca ?_;first|(refine ca hPl ?_;rintro _ _ ⟨bp,rfl,rfl⟩))|refine lda (cs:=[I n,v]) ?_|refine sq ?_|refine rg ?_|refine xc ?_|refine nl ?_|refine bk ?_
 refine TC.im (gow_set (es:=es) (qs:=qs) (by omega) (i:=u) hul 0 n1 d1 fitA) ?_
 rw [hrs,← psN_zero n u x]
 refine TC.fact (fun w hw i hi=>fr_one (hs:=hsE z ez) (qs:=x) (has_grB hgr memA).2 hhl (i:=i) hi w hw) fun hone=>?_
 have hrun2:=@SeqP.run _ _ _ _ _ _ _ (places1_seq bp n v x (hsE z ez) hhl hql hn hone)
 refine TC.rangeI (l0:=l2) (rec0:=rec) memA [lbd [lpt c9 [sv] TRs,lpt c10 [I u] TLI,vfr (hsE z ez) x],lbd [lpt bp [I n,v] TGr,vwf v ((n + 1) * (n + 1)) (rcs x (hsE z ez))]] [oww TRt 3 sv (k + 1) (rcs (qs.set u (psN n u x 0)) (hsE nS2 (es.set u (some (n1,d1))))),gow (es.set u (some (n1,d1))) (qs.set u (psN n u x 0))] (fun l3 rec3 pend B'=>∃ p:HV,B' = [oww TRt 3 sv (k + 1) (rcs (qs.set u (psN n u x ((n + 1) * (n + 1)))) (hsE nS2 (es.set u (some p)))),gow (es.set u (some p)) (qs.set u (psN n u x ((n + 1) * (n + 1))))]∧pend = none) ?_ ?_ (hp:=has1 (lbd_of (has1 hasA (has1 hasA (has1 (has_grB hgr memA).2 has0)))) (has1 (lbd_of (has1 hasA (has1 (has_grB hgr memA).1 has0))) has0))
 rotate_left
 ·rintro l3 rec3 pend B' ⟨p,rfl,rfl⟩
  rw [psN_all]
  have hsp:=hset p
  generalize stuckR n u x = sr' at *
  show TX env _ _ _ _ _ _
  repeat' first|refine xb ?_
  exact yn ⟨[lrc l2 rec .ready none,dfr Dm,oww TRt 3 sv (k + 1) (rcs (qs.set u sr') (hsE nS2 (es.set u (some p)))),gow (es.set u (some p)) (qs.set u sr')],[grB n v x ez z],rfl,.inl ⟨rfl,⟨qs.set u sr',es.set u (some p)⟩,rfl,hsp⟩⟩
 intro rec3 l3 hr3
 refine Tr.unb (hrun2 (α:=SkP) (lbd [lpt c9 [sv] TRs,lpt c10 [I u] TLI,vfr (hsE z ez) x]) l3 (fun g=>bnd [lrc l3 rec3 .ready none,oww TRt 3 sv (k + 1) (rcs (qs.set u (psN n u x g.i)) (hsE nS2 (es.set u (some g.p)))),gow (es.set u (some g.p)) (qs.set u (psN n u x g.i))]) (fun g i=>g.i = i∧g.p.1.oneCell' = true∧g.p.2.oneCell' = true) (fun _=>False) ⟨0,(n1,d1)⟩ ⟨rfl,hn1,hd1⟩ (fun p=>bnd_nob (by repeat (first | exact nb0 | refine nb1 ?_))) ?_) ?_
 rotate_left
 ·rintro _ _ ⟨g,rfl,⟨hi,_⟩ | h⟩
  ·exact ⟨_,rfl,.ready,none,_,rfl,by decide,g.p,by rw [hi],rfl⟩
  ·exact h.elim
 clear hrun2 hset hW hPl
 rintro ⟨i,p⟩ i' ⟨hii,hp1,hp2⟩ hi
 dsimp only at hii hp1 hp2
 subst hii
 refine Ty.bnd ?_
 refine Ty.pre (pre:=[lpt c9 [sv] TRs,lpt c10 [I u] TLI,vfr (hsE z ez) x]) ?_ (has_lbds (C:=[lpt c9 [sv] TRs,lpt c10 [I u] TLI,vfr (hsE z ez) x]) (List.Mem.head _) _ (by repeat (first | exact has00 | refine has01 ?_)) fun c hc=>hc) (by repeat (first | exact has00 | refine has01 ?_))
 refine Ty.intro env hr3 (by repeat (first | exact has00 | refine has01 ?_)) fun w2=>?_
 have hPi:=hPF i (by omega)
 have hXi:=hXF i hi
 have hin:=fun h=>psN_in (n:=n) (u:=u) (x:=x) (i:=i) h
 have hout:=fun h=>psN_out (n:=n) (u:=u) (x:=x) (i:=i) h
 have hgot:=fun (F:List Ch) (h:vfr (hsE z ez) x ∈ F)=>has_fr (has_mem h) hhl (i:=i) (by rw [hql];exact hi)
 have hx1:=hone i (by rw [hql];exact hi)
 clear hPF hXF hone
 dsimp only
 generalize (hsE z ez).getD i nS2 = hx at *
 obtain ⟨x1,x2⟩:=hx
 dsimp only at hx1 hgot
 obtain ⟨hx1,hx2⟩:=hx1
 generalize i / (n + 1) = c at *
 generalize i % (n + 1) = r at *
 generalize x.getD i 0 = y at *
 obtain ⟨q0,hq0⟩ : ∃ q0,q0 = psN n u x i:=⟨_,rfl⟩
 rw [← hq0] at hPi ⊢
 simp only [← hq0] at hin hout
 by_cases hc:u = 0∨r = 0
 rotate_left
 ·have ho:=hout hc
  repeat' first|refine al fun c13=>?_|refine srz ?_ (hj:=Nat.le_of_ble_eq_true rfl)|refine xbeg ?_|refine ixa (m:=2) (i:=1) ?_|(refine wo ?_;first|(refine ao ?_;first|refine oa ?_)|refine oa ?_|refine ld ?_|refine ldl ?_|refine gy ?_|(refine gsi (fun hB=>?_) (fun hB=>?_) <;> try (exfalso;omega)))|(refine gc ?_;first|(refine ci (fun hB=>?_) (fun hB=>?_) <;> try (exfalso;omega)))|refine sq ?_|refine rg ?_|refine xc ?_|refine nl ?_|refine sk ?_|refine bk ?_|refine xb ?_
  rw [← ho]
  exact yn ⟨⟨i + 1,p⟩,rfl,.inl ⟨rfl,rfl,hp1,hp2⟩⟩
 have hi1:=hin hc
 obtain ⟨pa,pb⟩:=p
 dsimp only at hp1 hp2 ⊢
 have hAdd:=fun lv=>FAdd2_tr q0 y lv pa pb x1 x2 hPi hXi
 rw [← hi1] at hAdd
 obtain ⟨q1,hq1⟩ : ∃ q1,q1 = psN n u x (i + 1):=⟨_,rfl⟩
 rw [← hq1] at hAdd
 unfold FQ2 at hAdd
 have hQs:(qs.set u q0).set u q1 = qs.set u q1:=List.set_set ..
 have hEs:∀ p',(es.set u (some (pa,pb))).set u p' = es.set u p':=fun p'=>List.set_set ..
 have hQl:(qs.set u q0).length = k + 1:=by rw [List.length_set,hqs]
 have hEl:(es.set u (some (pa,pb))).length = k + 1:=by rw [List.length_set,hes]
 have hQu:(qs.set u q0).getD u 0 = q0:=by rw [getD_setR _ _ _ _ hul,if_pos rfl]
 have hEu:(es.set u (some (pa,pb))).getD u none = some (pa,pb):=by rw [getD_setO _ _ _ _ (by omega),if_pos rfl]
 generalize qs.set u q0 = Q at *
 generalize es.set u (some (pa,pb)) = ES at *
 have hrow:=rcs_row (hs:=hsE nS2 ES) (qs:=Q) (by rw [hsE_len,hEl,hQl]) (i:=u) (by omega)
 rw [hQu,hsE_get (by omega),hEu] at hrow
 have hrs2:=fun (q':Rat) (p':HV)=>rcs_setS (z:=nS2) (es:=ES) (qs:=Q) (by omega) (i:=u) (by omega) q' p'
 have hgs:=fun (F:List Ch) (h:gow ES Q ∈ F)=>has_gowS (es:=ES) (qs:=Q) (by omega) h (i:=u) (by omega) hEu
 rw [hQu] at hgs
 dsimp only [Option.getD] at hrow
 dsimp only at hgs
 clear hin hout hrs hXi hPi
 by_cases hu0:u = 0
 ·repeat' first|refine al fun c13=>?_|refine srz ?_ (hj:=Nat.le_of_ble_eq_true rfl)|refine xbeg ?_|refine ixa (m:=2) (i:=1) ?_|(refine wo ?_;first|(refine ao ?_;first|refine oa ?_)|refine oa ?_|refine ldl ?_|refine gn ?_|(refine gsi (fun hB=>?_) (fun hB=>?_) <;> try (exfalso;omega)))|(refine gc ?_;first|refine ct ?_)|refine sq ?_|refine rg ?_|refine xc ?_|refine nl ?_|refine bk ?_
  refine rs (fun w'=>w'.heap[c9]? = some (.cells [sv].toArray TRs (0,0))∧w'.heap[c10]? = some (.cells [I u].toArray TLI (0,0))∧w'.heap[c13]? = some (.cells (rrow y (x1,x2)).toArray TRt (0,0))∧∃ xs,SlW w' sv (k + 1) xs) ?_ (fun w' hw=>⟨lpt_at memA hw,lpt_at memA hw,pt_at memA hw,_,(has_oww (e:=TRt) (sz:=3) (v:=sv) (n:=k + 1) memA).P w' hw⟩)
  refine krl 0 (cs:=[sv]) (fun w' h=>h.1) ?_
  refine krl 1 (cs:=[I u]) (fun w' h=>h.2.1) ?_
  refine krl 2 (cs:=[sv]) (fun w' h=>h.1) ?_
  refine krl 3 (cs:=[I u]) (fun w' h=>h.2.1) ?_
  refine kr 4 (v:=.pointer (some (adr sv (3 * u)))) (hi:=rfl) (fun w' h=>by obtain ⟨xs,hx⟩:=h.2.2.2;exact R_idxW (E:=env) (i:=(u:Int)) rfl rfl rfl rfl hx ⟨by omega,by omega⟩) ?_
  refine kr 6 (v:=.agg (rrow y (x1,x2)).toArray) (fun w' h=>R_loadA (E:=env) (vs:=rrow y (x1,x2)) rfl rfl rfl rfl h.2.2.1 rfl rfl) ?_
  refine t1 5 ?_
  refine ldaw (N:=k + 1) (xs:=rcs Q (hsE nS2 ES)) (m:=3 * u) hrow ?_ (hm:=has_oww memA)
  refine nl ?_
  refine te (fun w' hw=>⟨lpt_at memA hw,lpt_at memA hw,pt_at memA hw,_,(has_oww (e:=TRt) (sz:=3) (v:=sv) (n:=k + 1) memA).P w' hw⟩) ?_
  refine t1 7 ?_
  refine slws (sz:=3) (xs:=rrow q0 (pa,pb) ++ rrow y (x1,x2)) fun g2=>?_
  refine nl ?_
  refine te (fun w' hw=>⟨lpt_at memA hw,lpt_at memA hw,pt_at memA hw,_,(has_oww (e:=TRt) (sz:=3) (v:=sv) (n:=k + 1) memA).P w' hw⟩) ?_
  refine t1 8 ?_
  refine ca (hAdd _) ?_ (hp:=has1 (has_oww memA) (has1 (hgs _ memA).1 (has1 (hgs _ memA).2 (has1 (hgot _ memA).1 (has1 (hgot _ memA).2 has0)))))
  rintro _ _ ⟨n2,d2,rfl,hn2,hd2,rfl⟩
  refine nl ?_
  refine te (fun w' hw=>⟨lpt_at memA hw,lpt_at memA hw,pt_at memA hw,_,(has_oww (e:=TRt) (sz:=3) (v:=sv) (n:=k + 1) memA).P w' hw⟩) ?_
  refine kra 9 ?_
  refine kra 10 ?_
  refine kra 11 ?_
  refine kr 12 (v:=.pointer (some (adr sv (3 * u)))) (hi:=rfl) (fun w' h=>by obtain ⟨xs,hx⟩:=h.2.2.2;exact R_idxW (E:=env) (i:=(u:Int)) rfl rfl rfl rfl hx ⟨by omega,by omega⟩) ?_
  refine t1 13 ?_
  refine sow (sz:=3) (m:=3 * u) (N:=k + 1) (xs:=rcs Q (hsE nS2 ES)) (vs:=rrow q1 (n2,d2)) (by omega) ?_ (h1:=one_cons rfl (one_cons hn2 (one_cons hd2 one_nil)))
  refine nl ?_
  refine te (fun w' hw=>⟨lpt_at memA hw,lpt_at memA hw,pt_at memA hw,_,(has_oww (e:=TRt) (sz:=3) (v:=sv) (n:=k + 1) memA).P w' hw⟩) ?_
  refine t0 ?_
  repeat' first|refine xb ?_
  refine TX.im (gow_set (es:=ES) (qs:=Q) (by rw [hEl,hQl]) (i:=u) (by rw [hQl];exact hu) q1 n2 d2 fitA) ?_
  rw [hrs2 q1 (n2,d2),hQs,hEs,hq1]
  exact yn ⟨⟨i + 1,(n2,d2)⟩,rfl,.inl ⟨rfl,rfl,hn2,hd2⟩⟩
 have hr0:r = 0:=hc.resolve_left hu0
 repeat' first|refine al fun c13=>?_|refine srz ?_ (hj:=Nat.le_of_ble_eq_true rfl)|refine xbeg ?_|refine ixa (m:=2) (i:=1) ?_|(refine wo ?_;first|(refine ao ?_;first|refine oa ?_)|refine oa ?_|refine ld ?_|refine ldl ?_|refine gy ?_|(refine gsi (fun hB=>?_) (fun hB=>?_) <;> try (exfalso;omega)))|(refine gc ?_;first|(refine ci (fun hB=>?_) (fun hB=>?_) <;> try (exfalso;omega)))|refine sq ?_|refine rg ?_|refine xc ?_|refine nl ?_|refine bk ?_
 refine rs (fun w'=>w'.heap[c9]? = some (.cells [sv].toArray TRs (0,0))∧w'.heap[c10]? = some (.cells [I u].toArray TLI (0,0))∧w'.heap[c13]? = some (.cells (rrow y (x1,x2)).toArray TRt (0,0))∧∃ xs,SlW w' sv (k + 1) xs) ?_ (fun w' hw=>⟨lpt_at memA hw,lpt_at memA hw,pt_at memA hw,_,(has_oww (e:=TRt) (sz:=3) (v:=sv) (n:=k + 1) memA).P w' hw⟩)
 refine krl 0 (cs:=[sv]) (fun w' h=>h.1) ?_
 refine krl 1 (cs:=[I u]) (fun w' h=>h.2.1) ?_
 refine krl 2 (cs:=[sv]) (fun w' h=>h.1) ?_
 refine krl 3 (cs:=[I u]) (fun w' h=>h.2.1) ?_
 refine kr 4 (v:=.pointer (some (adr sv (3 * u)))) (hi:=rfl) (fun w' h=>by obtain ⟨xs,hx⟩:=h.2.2.2;exact R_idxW (E:=env) (i:=(u:Int)) rfl rfl rfl rfl hx ⟨by omega,by omega⟩) ?_
 refine kr 6 (v:=.agg (rrow y (x1,x2)).toArray) (fun w' h=>R_loadA (E:=env) (vs:=rrow y (x1,x2)) rfl rfl rfl rfl h.2.2.1 rfl rfl) ?_
 refine t1 5 ?_
 refine ldaw (N:=k + 1) (xs:=rcs Q (hsE nS2 ES)) (m:=3 * u) hrow ?_ (hm:=has_oww memA)
 refine nl ?_
 refine te (fun w' hw=>⟨lpt_at memA hw,lpt_at memA hw,pt_at memA hw,_,(has_oww (e:=TRt) (sz:=3) (v:=sv) (n:=k + 1) memA).P w' hw⟩) ?_
 refine t1 7 ?_
 refine slws (sz:=3) (xs:=rrow q0 (pa,pb) ++ rrow y (x1,x2)) fun g2=>?_
 refine nl ?_
 refine te (fun w' hw=>⟨lpt_at memA hw,lpt_at memA hw,pt_at memA hw,_,(has_oww (e:=TRt) (sz:=3) (v:=sv) (n:=k + 1) memA).P w' hw⟩) ?_
 refine t1 8 ?_
 refine ca (hAdd _) ?_ (hp:=has1 (has_oww memA) (has1 (hgs _ memA).1 (has1 (hgs _ memA).2 (has1 (hgot _ memA).1 (has1 (hgot _ memA).2 has0)))))
 rintro _ _ ⟨n2,d2,rfl,hn2,hd2,rfl⟩
 refine nl ?_
 refine te (fun w' hw=>⟨lpt_at memA hw,lpt_at memA hw,pt_at memA hw,_,(has_oww (e:=TRt) (sz:=3) (v:=sv) (n:=k + 1) memA).P w' hw⟩) ?_
 refine kra 9 ?_
 refine kra 10 ?_
 refine kra 11 ?_
 refine kr 12 (v:=.pointer (some (adr sv (3 * u)))) (hi:=rfl) (fun w' h=>by obtain ⟨xs,hx⟩:=h.2.2.2;exact R_idxW (E:=env) (i:=(u:Int)) rfl rfl rfl rfl hx ⟨by omega,by omega⟩) ?_
 refine t1 13 ?_
 refine sow (sz:=3) (m:=3 * u) (N:=k + 1) (xs:=rcs Q (hsE nS2 ES)) (vs:=rrow q1 (n2,d2)) (by omega) ?_ (h1:=one_cons rfl (one_cons hn2 (one_cons hd2 one_nil)))
 refine nl ?_
 refine te (fun w' hw=>⟨lpt_at memA hw,lpt_at memA hw,pt_at memA hw,_,(has_oww (e:=TRt) (sz:=3) (v:=sv) (n:=k + 1) memA).P w' hw⟩) ?_
 refine t0 ?_
 repeat' first|refine xb ?_
 refine TX.im (gow_set (es:=ES) (qs:=Q) (by rw [hEl,hQl]) (i:=u) (by rw [hQl];exact hu) q1 n2 d2 fitA) ?_
 rw [hrs2 q1 (n2,d2),hQs,hEs,hq1]
 exact yn ⟨⟨i + 1,(n2,d2)⟩,rfl,.inl ⟨rfl,rfl,hn2,hd2⟩⟩
end Go.Art
namespace Go.Art
open Go Go.Proofs Go.RowKit
def slSubW (sz:Nat):Value→Nat→Nat→Value
 | .slice a _ cap,lo,hi=>.slice (if cap = lo then a else a.map (·.add (lo * sz))) (hi - lo) (cap - lo)
 | v,_,_=>v
theorem SlW.sub {w:World} {v:Value} {n:Nat} {xs:List Value} (h:SlW w v n xs) {sz lo:Nat} (h1:lo ≤ n) (hx:xs.length ≤ n * sz):SlW w (slSubW sz v lo n) (n - lo) (xs.drop (lo * sz)):=by
 obtain ⟨a,cap,rfl,h2,h3,h4,h5⟩:=h
 refine ⟨if cap = lo then a else a.map (·.add (lo * sz)),cap - lo,rfl,by omega,by omega,fun h6=>?_,fun i u hi=>?_⟩
 ·obtain ⟨x,rfl⟩:=h4 (by omega)
  rw [if_neg (by omega)]
  exact ⟨_,rfl⟩
 ·rw [List.getElem?_drop] at hi
  obtain ⟨x,rfl,hc⟩:=h5 _ u hi
  have hlt:=(List.getElem?_eq_some_iff.1 hi).1
  have hne:¬ cap = lo:=fun e=>by
   have:lo = n:=by omega
   subst this
   omega
  rw [if_neg hne]
  refine ⟨x.add (lo * sz),rfl,?_⟩
  rw [Deep.add_add];exact hc
theorem has_subW {F:List Ch} {e:TypeId} {sz n lo m:Nat} {v:Value} {xs ys:List Value} (h:oww e sz v n xs ∈ F) (hx:xs.length ≤ n * sz) (hlo:lo ≤ n) (hm:n - lo = m) (hy:xs.drop (lo * sz) = ys):Has F (vwf (slSubW sz v lo n) m ys):=by
 subst hm hy
 refine ⟨fun w hw=>(OwnV.slw (hw.h (oww e sz v n xs) h)).sub hlo hx,fun _ h=>h,fun _ h=>h,fun b hb=>⟨_,h,?_⟩⟩
 rcases hb with hb | hb | ⟨_,hb⟩
 ·exact hb.elim
 ·exact hb.elim
 ·refine .inl ?_
  show v.ownBlock = some b
  cases v <;> try exact hb
  rename_i a l c
  cases a with
  | none=>simp [slSubW,Value.ownBlock] at hb
  | some a=>
   simp only [slSubW] at hb
   split at hb
   ·exact hb
   ·simp only [Option.map_some,Value.ownBlock,Option.some.injEq] at hb ⊢
    rw [← hb,add_block]
theorem ofr_uncons (h:HV) (hs:List HV) (q:Rat) (qs:List Rat) (F:List Ch):Im (ofr (h :: hs) (q :: qs) :: F) (own T64 h.2 (Us (dg q.den)) :: own T64 h.1 (Us (dg q.num.natAbs)) :: ofr hs qs :: F):=by
 show Im (owl T64 wU (h.1 :: h.2 :: hpc hs) (Zs (dg q.num.natAbs) :: Zs (dg q.den) :: pcl qs) :: F) (own T64 h.2 (Us (dg q.den)) :: own T64 h.1 (Us (dg q.num.natAbs)) :: owl T64 wU (hpc hs) (pcl qs) :: F)
 rw [Us_eq,Us_eq]
 refine (owl_uncons F).trans ?_
 refine (Im.perm (List.Perm.swap _ _ _)).trans ((owl_uncons _).trans ?_)
 exact Im.cons _ (Im.perm (List.Perm.swap _ _ _))
theorem ofr_pop {h:HV} {hs:List HV} {q:Rat} {qs:List Rat} {A F:List Ch} (hf:Fit A [ofr (h :: hs) (q :: qs)] F):Im A (own T64 h.2 (Us (dg q.den)) :: own T64 h.1 (Us (dg q.num.natAbs)) :: ofr hs qs :: F):=Im.trans hf (ofr_uncons h hs q qs F)
theorem foldl_sR:∀ (l:List Rat) (a:Rat),l.foldl (· + ·) a = a + sR id l
 | [],a=>(Rat.add_zero a).symm
 | x :: l,a=>by rw [List.foldl_cons,foldl_sR l];show a + x + sR id l = a + (x + sR id l);rw [Rat.add_assoc]
def failQ (t:List Int) (k n:Nat):Rat:=sR (fun u=>stT t k n (u + 1)) (List.range k)
theorem stL_drop (t:List Int) (k n:Nat):(stL t k n).drop 1 = (List.range k).map fun u=>stT t k n (u + 1):=by
 unfold stL
 rw [List.range_succ_eq_map,List.map_cons,List.drop_succ_cons,List.drop_zero,List.map_map]
 rfl
theorem stL_part (t:List Int) (k n i:Nat) (hi:i ≤ k):(((stL t k n).drop 1).take i).foldl (· + ·) 0 = sR (fun u=>stT t k n (u + 1)) (List.range i):=by
 rw [stL_drop,foldl_sR,Rat.zero_add,← List.map_take,List.take_range,Nat.min_eq_left hi,sR_map]
 rfl
theorem part_nat {t:List Int} {k:Nat} (hz:solE t k = 0) (n i:Nat) (hi:i ≤ k):∃ a,a ≤ oneS t k ^ n∧sR (fun u=>stT t k n (u + 1)) (List.range i) = (a:Rat) / ((oneS t k ^ n:Nat):Rat):=by
 have h1:=ripple_tab hz (fun u=>if 0 < u∧u ≤ i then 1 else 0) n
 have h2:=natG_tG (fun ls=>decide (0 < (largeL k ls).length∧(largeL k ls).length ≤ i)) (itemS t k) (oneS_pos hz) n [] 1
 have h3:=natG_leW (W:=fun ls=>decide (0 < (largeL k ls).length∧(largeL k ls).length ≤ i)) (V:=fun _=>true) (fun _ _=>rfl) (itemS t k) n [] 1
 rw [natG_all (itemS_sum hz),Nat.one_mul] at h3
 generalize natG (fun ls=>decide (0 < (largeL k ls).length∧(largeL k ls).length ≤ i)) (itemS t k) n [] 1 = a at *
 refine ⟨a,h3,?_⟩
 rw [sR_shift,if_neg (fun h=>Nat.lt_irrefl 0 h.1)] at h1
 obtain ⟨m,rfl⟩:=Nat.exists_eq_add_of_le hi
 rw [List.range_add,sR_app,sR_congr (l:=List.range i) (g:=fun u=>stT t (i + m) n (u + 1)) fun u hu=>by rw [if_pos ⟨Nat.succ_pos u,List.mem_range.1 hu⟩,Rat.one_mul],
  sR_congr (l:=(List.range m).map (i + ·)) (g:=fun _=>0) fun u hu=>by obtain ⟨a,_,rfl⟩:=List.mem_map.1 hu;rw [if_neg (by omega),Rat.zero_mul],sR_zero] at h1
 rw [tG_same (item_ev t (i + m))] at h2
 simp only [List.nil_append,decide_eq_true_eq] at h2
 rw [← h1] at h2
 have h0:=nz (Nat.ne_of_gt (Nat.pow_pos (n:=n) (Nat.pos_of_ne_zero (oneS_pos hz))))
 push_cast at h0 ⊢
 rw [h2,show ((1:Nat):Rat) = 1 from rfl]
 grind
theorem part_FB {t:List Int} {k n i:Nat} (hz:solE t k = 0) (hk:k ≤ 40) (hl:t.length ≤ 12) (hn:n ≤ 12) (hi:i ≤ k):FB (sR (fun u=>stT t k n (u + 1)) (List.range i)) 8589934592:=by
 obtain ⟨a,ha,he⟩:=part_nat hz n i hi
 rw [he]
 have h1:=oneS_lt hz hk hl
 have h2:oneS t k ^ n < 18446744073709551616 ^ 121:=by
  refine Nat.lt_of_le_of_lt (Nat.pow_le_pow_left (Nat.le_of_lt h1) n) ?_
  rw [← Nat.pow_mul]
  exact Nat.pow_lt_pow_right (by decide) (by omega)
 exact (FB_nat (B:=121) (Nat.ne_of_gt (Nat.pow_pos (Nat.pos_of_ne_zero (oneS_pos hz)))) (Nat.lt_of_le_of_lt ha h2) h2).le (by decide)
theorem st_FB {t:List Int} {k n u:Nat} (hz:solE t k = 0) (hk:k ≤ 40) (hl:t.length ≤ 12) (hn:n ≤ 12) (hu:u ≤ k):FB (stT t k n u) 8589934592:=by
 obtain ⟨B,hB⟩ : ∃ B,B = 20000:=⟨_,rfl⟩
 have hB9:B ≤ 8589934592:=by omega
 obtain ⟨b1,b2,b3,b4⟩:=lvT_facts hz hk hl hn hB (j:=k - u) (by omega)
 unfold stT
 rw [← psN_all]
 exact (FB_le1 (psN_fr b1 (Nat.le_refl _)) b3 (Rat.le_trans (psN_le b1 (Nat.le_refl _)) b2) b4).le hB9
section
variable {P:Program} {E:Env P} {n:Sh} {X:Cx} {s:List K} {fr:Fr} {A A':List Ch} {ops:Array Oper} {rest:List Oper} {d m N sz by_:Nat} {ty t t' el:TypeId} {pos:String} {after:Array Edge} {v u z:Value} {x y:Operand} {xs vs:List Value} {dt:TypeDesc} {k1 k':IntKind} {w:World}
theorem slw1 {lo:Nat} (k:TO E n X s ops rest ((d,slSubW sz v lo N) :: fr) A) (hlo:lo ≤ N) (hx:ev fr x = some v:=by rfl) (hy:ev fr y = some (.int k1 lo):=by rfl) (hm:Has A (vwf v N xs):=by exact hasA) (ht:lk E.und t = some (.slice el):=by rfl) (he:lk E.inf el = some (z,sz,by_):=by rfl) (hd:Nat.blt d n.n = true:=by rfl) :
  TO E n X s ops (⟨some d,.slice t x (some y) none none,ty,pos,after,none⟩ :: rest) fr A:=TO.val (v:=slSubW sz v lo N) (fun w h=>⟨fun a ha _ _ _ _=>by
 obtain ⟨a0,cap,rfl,h2,h3,_⟩:=(hm.P w h:SlW w v N xs)
 obtain ⟨inf,hi',_,hs,_⟩:=E.info he
 have hu:=run_underlying (P:=P) (E.un ht) w
 have hr:(Instr.sliceAt t (.slice a0 N cap) (some (.int k1 lo)) none none).run P w = .ok (slSubW sz (.slice a0 N cap) lo N) w:=by
  simp [Instr.sliceAt,Instr.slice,hu,Instr.sliceBounds,Instr.sliceBound,asIntOf,sizeOf,typeInfo,hi',hs,slSubW,hlo]
 simp only [execOp,ha.ev hx]
 simp [ha.ev hy,hr]⟩) k hd
end
def failV (t:List Int) (k n:Int):Fr3 × Int:=if ripE t k n = 0 then (rqf (failQ t k.toNat n.toNat),0) else (rqn,ripE t k n)
attribute [local irreducible] Fit pt own ro vw mpc lpt vels rels mow lrc dfr
attribute [local irreducible] lmp lme mit velg relg bnd owl dfrl gow shB grB
theorem Stuck_err (tv:Value) (t:List Int) (k n:Int) (h:ripE t k n ≠ 0):Tr Tryz.prog 18 [tv,I k,I n] [vw tv (Is t)] [] fun u D=>u = tup2 nS (I (ripE t k n))∧D = []:=by
 have hR:=riprefuses_tr tv t k n
 generalize ripE t k n = e at *
 refine Tr.enter env _ Tryz.func18 (by kernel_rfl) rfl Tryz.ntmps18 rfl (by repeat (first | exact has00 | refine has01 ?_)) fun w0=>?_
 repeat' first|(refine gca ?_;first|(refine ca hR ?_;rintro _ _ ⟨rfl,rfl⟩))|(refine wo ?_;first|(refine ao ?_;first|refine oa ?_)|refine oa ?_)|(refine gc ?_;first|(refine cn (fun hB=>?_) (fun hB=>?_) <;> try (exfalso;omega)))|refine sq ?_|refine rg ?_|refine xc ?_|refine nl ?_|refine rt ?_
 exact r2 ⟨rfl,rfl⟩
theorem Fail_ok (tv:Value) (htv:tv.oneCell' = true) (t:List Int) (k n:Nat) (hz:solE t k = 0) (hk:k ≤ 40) (hl:t.length ≤ 12) (hn:n ≤ 12):Tr Tryz.prog 20 [tv,I k,I n] [vw tv (Is t)] [] (FQ2 (failQ t k n) 0):=by
 have hS:=Stuck_tr tv htv t k n hz hk hl hn
 have hF1:=fun i (hi:i < k)=>st_FB hz hk hl hn (u:=i + 1) hi
 have hF2:=fun i (hi:i ≤ k)=>part_FB hz hk hl hn hi
 have hpart:=stL_part t k n
 have hget:=fun i (hi:i < k)=>stL_get (t:=t) (n:=n) (i:=i + 1) (Nat.succ_lt_succ hi)
 have hLL:=stL_len t k n
 have hq:failQ t k n = ((stL t k n).drop 1).foldl (· + ·) 0:=by
  have:=hpart k (Nat.le_refl k)
  rw [List.take_of_length_le (by rw [List.length_drop,hLL];omega)] at this
  exact this.symm
 rw [hq]
 clear hq
 generalize stL t k n = LL at *
 cases LL with
 | nil=>simp at hLL
 | cons q0 qs=>
 have hql:qs.length = k:=by simpa using hLL
 rw [List.drop_succ_cons,List.drop_zero] at hpart ⊢
 have hAdd:=fun v hs (hl':hs.length = qs.length)=>FAdd_tr v qs hs hl' (fun i hi=>by
  have:=hget i (by omega)
  rw [List.getD_cons_succ] at this
  rw [this];exact hF1 i (by omega)) (fun i hi=>by rw [hpart i (by omega)];exact hF2 i (by omega))
 clear hF1 hF2 hpart hget
 unfold FQ2 at hAdd ⊢
 rw [hql] at hAdd
 generalize qs.foldl (· + ·) (0:Rat) = p at *
 refine Tr.enter env _ Tryz.func20 (by kernel_rfl) rfl Tryz.ntmps20 rfl (by repeat (first | exact has00 | refine has01 ?_)) fun w0=>?_
 repeat' first|refine al fun c=>?_|refine srz ?_|refine (ca hS ?_) ; rintro _ _ ⟨v,hs,rfl,hv,hhs,rfl⟩|(refine wo ?_;first|(refine ao ?_;first|refine oa ?_)|refine oa ?_)|(refine gc ?_;first|refine cf ?_)|refine sq ?_|refine rg ?_|refine xc ?_|refine nl ?_|refine sk ?_
 obtain ⟨h0,hr,rfl⟩ : ∃ h0 hr,hs = h0 :: hr:=by cases hs with | nil=>simp at hhs | cons a b=>exact ⟨a,b,rfl⟩
 have hrl:hr.length = qs.length:=by simp at hhs;omega
 refine TO.im (ofr_pop (h:=h0) (hs:=hr) (q:=q0) (qs:=qs) fitA) ?_
 have hlen:(rcs (q0 :: qs) (h0 :: hr)).length ≤ (k + 1) * 3:=by rw [rcs_len (by simpa using hrl),List.length_cons,hql];exact Nat.le_refl _
 have hdr:(rcs (q0 :: qs) (h0 :: hr)).drop (1 * 3) = rcs qs hr:=rfl
 repeat' first|(refine gca ?_;first|(refine ca (hAdd _ hr (by omega)) ?_ (hp:=has1 (has_subW (e:=TRt) (sz:=3) memA hlen (by omega) (by omega) hdr) (has1 (has_ofr hrl memA) has0));rintro _ _ ⟨vn,vd,rfl,hvn,hvd,rfl⟩))|refine slw1 (sz:=3) (lo:=1) (N:=k + 1) ?_ (Nat.le_add_left 1 k) (hm:=has_oww memA)|refine srz ?_|(refine wo ?_;first|refine oa ?_)|refine xc ?_|refine nl ?_|refine rt ?_
 exact rca (cs:=[.bool (decide (p.num < 0)),vn,vd]) (vs:=[.bool (decide (p.num < 0)),vn,vd]) (T:=TRt) ⟨vn,vd,rfl,hvn,hvd,rfl⟩
theorem Fail_err (tv:Value) (t:List Int) (k n:Int) (h:ripE t k n ≠ 0):Tr Tryz.prog 20 [tv,I k,I n] [vw tv (Is t)] [] (FW (rqn,ripE t k n)):=by
 have hS:=Stuck_err tv t k n h
 refine Tr.mono (R:=fun u D=>u = tup2 rv0 (I (ripE t k n))∧D = [own T64 nS (Us []),own T64 nS (Us [])]) ?_ fun u D h=>FW.of0 h
 generalize ripE t k n = e at *
 refine Tr.enter env _ Tryz.func20 (by kernel_rfl) rfl Tryz.ntmps20 rfl (by repeat (first | exact has00 | refine has01 ?_)) fun w0=>?_
 repeat' first|(refine gca ?_;first|(refine ca hS ?_;rintro _ _ ⟨rfl,rfl⟩))|refine al fun c=>?_|refine bdz ?_|refine srz ?_|(refine wo ?_;first|(refine ao ?_;first|refine oa ?_)|refine oa ?_)|(refine gc ?_;first|(refine cn (fun hB=>?_) (fun hB=>?_) <;> try (exfalso;omega)))|refine sq ?_|refine rg ?_|refine xc ?_|refine nl ?_|refine rt ?_
 refine TX.im (own_nil T64 _) (TX.im (own_nil T64 _) ?_)
 exact rca (cs:=[.bool false,nS,nS]) (vs:=[.bool false,nS,nS]) (T:=TRt) ⟨rfl,rfl⟩
theorem Fail_tr (tv:Value) (htv:tv.oneCell' = true) (t:List Int) (k n:Int) (hk:k ≤ 40∨1024 < k) (hl:t.length ≤ 12) (hn:n ≤ 12∨4096 < n):Tr Tryz.prog 20 [tv,I k,I n] [vw tv (Is t)] [] (FW (failV t k n)):=by
 unfold failV
 by_cases h:ripE t k n = 0
 ·rw [if_pos h]
  obtain ⟨h1,h2,hz⟩:=ripE_zero h
  obtain ⟨kn,rfl⟩ : ∃ kn:Nat,k = kn:=⟨k.toNat,by omega⟩
  obtain ⟨nn,rfl⟩ : ∃ nn:Nat,n = nn:=⟨n.toNat,by omega⟩
  rw [Int.toNat_natCast,Int.toNat_natCast]
  exact Fail_ok tv htv t kn nn hz (by omega) hl (by omega)
 ·rw [if_neg h]
  exact Fail_err tv t k n h
end Go.Art
set_option maxRecDepth 4000
namespace Go.Art
open Go Go.Proofs Go.RowKit
attribute [local irreducible] Fit pt own ro vw mpc lpt vels rels mow lrc dfr
attribute [local irreducible] lmp lme mit
section
variable {P:Program} {E:Env P} {n:Sh} {X:Cx} {s:List K} {fr:Fr} {A A':List Ch} {ops:Array Oper} {rest:List Oper} {d:Nat} {ty t el:TypeId} {pos:String} {after:Array Edge} {v z:Value} {x y:Operand} {by_:Nat}
end
end Go.Art
namespace Go.Art
open Go Go.Proofs Go.RowKit
attribute [local irreducible] Fit pt own ro vw mpc lpt vels rels mow lrc dfr
attribute [local irreducible] lmp lme mit velg relg bnd owl
end Go.Art
namespace Go.Art
open Go Go.Proofs Go.RowKit
attribute [local irreducible] Fit pt own ro vw mpc lpt vels rels mow lrc dfr
attribute [local irreducible] lmp lme mit velg relg bnd owl natG
end Go.Art
namespace Go.Art
open Go Go.Proofs Go.RowKit
attribute [local irreducible] Fit pt own ro vw mpc lpt vels rels mow lrc dfr
attribute [local irreducible] lmp lme mit velg relg bnd owl natG setP szL solE risR
end Go.Art
namespace Go.Art
open Go
open Go Go.Proofs Go.RowKit
section
variable {P:Program} {E:Env P} {n:Sh} {X:Cx} {s:List K} {fr:Fr} {A A':List Ch} {ops:Array Oper} {rest:List Oper} {d:Nat} {ty t el:TypeId} {pos:String} {after:Array Edge} {v z:Value} {x y:Operand} {by_:Nat}
end
attribute [local irreducible] Fit pt own ro vw mpc lpt vels rels mow lrc dfr
attribute [local irreducible] lmp lme mit velg relg
end Go.Art
namespace Go.Art
open Go Go.Proofs Go.RowKit
attribute [local irreducible] Fit pt own ro vw mpc lpt vels rels mow lrc dfr
attribute [local irreducible] lmp lme mit velg relg bnd owl natG setP szL solE risR
end Go.Art
namespace Go.Art
open Go Go.Proofs Go.RowKit
attribute [local irreducible] Fit pt own ro vw mpc lpt vels rels mow lrc dfr
attribute [local irreducible] lmp lme mit velg relg bnd owl dfrl
end Go.Art
namespace Go.Art
open Go Go.Proofs Go.RowKit
attribute [local irreducible] Fit pt own ro vw mpc lpt vels rels mow lrc dfr
attribute [local irreducible] lmp lme mit velg relg
theorem SameRatioT_tr (t:Fr3) (n1 d1 n2 d2:Value):Tr Tryz.prog 22 [.agg #[.bool t.1,n1,d1],.agg #[.bool t.1,n2,d2]] [vw n1 (Us t.2.1),vw d1 (Us t.2.2),vw n2 (Us t.2.1),vw d2 (Us t.2.2)] []
  fun v D=>v = .bool true∧D = []:=(SameRatio_tr t t n1 d1 n2 d2).mono fun v D h=>by rw [decide_eq_true rfl] at h;exact h
end Go.Art
namespace Go.Art
open Go Go.Proofs Go.RowKit
attribute [local irreducible] Fit pt own ro vw mpc lpt vels rels mow lrc dfr
attribute [local irreducible] lmp lme mit velg relg bnd owl dfrl massW setsW massD
end Go.Art
namespace Go.Art
open Go Go.Proofs Go.RowKit
def setA (k a:Nat):List Int:=(belowI k).filter fun s=>Nat.beq (a / 2 ^ s.toNat % 2) 1
def chkP (k:Nat):Bool:=(List.range (k + 1)).all fun d=>(risR d 0 k).isPerm (((List.range (2 ^ k)).filter fun a=>Nat.beq (popK k a) d).map (setA k))
def chkO (k:Nat):Bool:=(List.range (k + 1)).all fun d=>(endsL d k []).all fun js=>(ordF 0 (upto k) js).isPerm (setA k (msk (ordF 0 (upto k) js))) && Nat.beq (popK k (msk (ordF 0 (upto k) js))) d
theorem chkP_ok:(List.range 5).all chkP = true:=by kernel_rfl
theorem chkO_ok:(List.range 5).all chkO = true:=by kernel_rfl
theorem setA_sorted (k a:Nat):(setA k a).Pairwise (· < ·):=(belowI_sorted k).sublist List.filter_sublist
theorem ris_perm {k d:Nat} (hk:k ≤ 4) (hd:d ≤ k):(risR d 0 k).Perm (((List.range (2 ^ k)).filter fun a=>Nat.beq (popK k a) d).map (setA k)):=by
 have h1:=List.all_eq_true.1 chkP_ok k (List.mem_range.2 (by omega))
 exact List.isPerm_iff.1 (List.all_eq_true.1 h1 d (List.mem_range.2 (by omega)))
theorem ord_set {k d:Nat} {js:List Int} (hk:k ≤ 4) (hd:d ≤ k) (h:js ∈ endsL d k []):srt (ordF 0 (upto k) js) = setA k (msk (ordF 0 (upto k) js))∧popK k (msk (ordF 0 (upto k) js)) = d:=by
 have h1:=List.all_eq_true.1 chkO_ok k (List.mem_range.2 (by omega))
 have h2:=List.all_eq_true.1 h1 d (List.mem_range.2 (by omega))
 have h3:=List.all_eq_true.1 h2 js h
 rw [Bool.and_eq_true] at h3
 have hp:=List.isPerm_iff.1 h3.1
 exact ⟨((srt_perm _).trans hp).eq_of_pairwise (fun a b _ _ h1 h2=>by omega) (srt_sorted _) ((setA_sorted _ _).imp fun h=>by omega),Nat.eq_of_beq_eq_true h3.2⟩
theorem row_set {t:List Int} {k:Nat} {l:List Int} (hz:solE t k = 0) (hk:k ≤ 4) (h:l ∈ rowsA t k):rowS k l = setA k (rmsk k l)∧rmsk k l < 2 ^ k∧1 ≤ rmsk k l∧wR k l * 24 = wt k l * fall k k:=by
 obtain ⟨hr,h2,hs⟩:=alias_ok hz
 obtain ⟨c,x,js,hc,hx,hj,rfl⟩:=allL_row h
 obtain ⟨hE,k1,k2,k3⟩:=rwE_ok hr
 have hin:=alPick_in hE (c:=c) (l:=x) (by omega)
 have hjl:=endsL_mem _ _ _ _ hj
 simp only [List.length_nil,Nat.zero_add] at hjl
 have hd:(alPick t.sum (alF t).cut (alF t).oth c x + 1).toNat ≤ k:=by omega
 obtain ⟨o1,o2⟩:=ord_set hk hd hj
 obtain ⟨o3,o4⟩:=ord_in hk hd hj
 have hm:rmsk k ((c:Int) :: (x:Int) :: js) = msk (ordF 0 (upto k) js):=rfl
 have hpop:=(pop_in hk o4).1
 refine ⟨by rw [hm,← o1];rfl,by rw [hm];exact o4,?_,?_⟩
 ·rw [hm]
  refine Nat.pos_of_ne_zero fun e=>?_
  rw [e] at o2
  have:popK k 0 = 0:=by
   unfold popK
   rw [show ((List.range k).map fun j=>0 / 2 ^ j % 2) = (List.range k).map fun _=>0 from List.map_congr_left fun j _=>by simp]
   rw [sum_const (fun _=>0) 0 (List.range k) fun _ _=>rfl,Nat.mul_zero]
  omega
 ·have e1:((c:Int) :: (x:Int) :: js).length - 2 = js.length:=rfl
  unfold wR wt
  rw [e1]
  obtain ⟨f1,f2,f3⟩:=fall24 k hk js.length (by omega)
  have hsp:fall k k = fall k js.length * fall (k - js.length) (k - js.length):=by rw [← fall_split,show js.length + (k - js.length) = k by omega]
  rw [hsp,← Nat.mul_assoc,Nat.mul_comm (24 / fall k js.length),f3,Nat.mul_comm]
theorem sum_hit (G:Nat→Nat) (x v:Nat):∀ N,((List.range N).map fun a=>G a * (bif Nat.beq x a then v else 0)).sum = if x < N then G x * v else 0
 | 0=>by simp
 | N + 1=>by
  rw [List.range_succ,List.map_append,List.sum_append,sum_hit G x v N]
  simp only [List.map_cons,List.map_nil,List.sum_cons,List.sum_nil,Nat.add_zero]
  by_cases e:x = N
  ·subst e
   rw [if_neg (by omega),if_pos (by omega),show Nat.beq x x = true from Nat.beq_refl x];simp
  ·rw [show Nat.beq x N = false from by
    cases hb:Nat.beq x N with
    | false=>rfl
    | true=>exact absurd (Nat.eq_of_beq_eq_true hb) e]
   by_cases e2:x < N
   ·rw [if_pos e2,if_pos (by omega)];simp
   ·rw [if_neg e2,if_neg (by omega)];simp
theorem sum_addL {α:Type} (f g:α→Nat):∀ l:List α,(l.map fun x=>f x + g x).sum = (l.map f).sum + (l.map g).sum
 | []=>rfl
 | a :: l=>by simp only [List.map_cons,List.sum_cons,sum_addL f g l];omega
theorem sum_by {α:Type} (f w:α→Nat) (G:Nat→Nat) (N:Nat):∀ L:List α,(∀ r ∈ L,f r < N)→(L.map fun r=>G (f r) * w r).sum = ((List.range N).map fun a=>G a * (L.map fun r=>bif Nat.beq (f r) a then w r else 0).sum).sum
 | [],_=>by
  rw [show ((List.range N).map fun a=>G a * (([]:List α).map fun r=>bif Nat.beq (f r) a then w r else 0).sum) = (List.range N).map fun _=>0 from List.map_congr_left fun a _=>by simp,sum_const (fun _=>0) 0 (List.range N) fun _ _=>rfl];simp
 | r :: L,h=>by
  rw [List.map_cons,List.sum_cons,sum_by f w G N L fun r hr=>h r (by simp [hr])]
  rw [show ((List.range N).map fun a=>G a * ((r :: L).map fun r=>bif Nat.beq (f r) a then w r else 0).sum) = (List.range N).map fun a=>G a * (bif Nat.beq (f r) a then w r else 0) + G a * (L.map fun r=>bif Nat.beq (f r) a then w r else 0).sum from List.map_congr_left fun a _=>by rw [List.map_cons,List.sum_cons,Nat.mul_add]]
  rw [sum_addL,sum_hit,if_pos (h r (by simp))]
theorem sum_filt {α:Type} (p:α→Bool) (h:α→Nat):∀ l:List α,((l.filter p).map h).sum = (l.map fun a=>bif p a then h a else 0).sum
 | []=>rfl
 | a :: l=>by
  rw [List.filter_cons,List.map_cons,List.sum_cons,← sum_filt p h l]
  cases p a <;> simp
theorem sum_pop (p h:Nat→Nat) (A:List Nat):∀ n,((List.range n).map fun i=>((A.filter fun a=>Nat.beq (p a) (i + 1)).map h).sum).sum = (A.map fun a=>if 1 ≤ p a∧p a ≤ n then h a else 0).sum
 | 0=>by
  rw [show (A.map fun a=>if 1 ≤ p a∧p a ≤ 0 then h a else 0) = A.map fun _=>0 from List.map_congr_left fun a _=>if_neg (by omega),sum_const (fun _=>0) 0 A fun _ _=>rfl];simp
 | n + 1=>by
  rw [List.range_succ,List.map_append,List.sum_append,sum_pop p h A n]
  simp only [List.map_cons,List.map_nil,List.sum_cons,List.sum_nil,Nat.add_zero]
  rw [sum_filt,← sum_addL]
  refine congrArg List.sum (List.map_congr_left fun a _=>?_)
  by_cases e:p a = n + 1
  ·rw [if_neg (by omega),show Nat.beq (p a) (n + 1) = true from by rw [e];exact Nat.beq_refl _,if_pos (by omega)];simp
  ·rw [show Nat.beq (p a) (n + 1) = false from by
    cases hb:Nat.beq (p a) (n + 1) with
    | false=>rfl
    | true=>exact absurd (Nat.eq_of_beq_eq_true hb) e]
   by_cases e2:1 ≤ p a∧p a ≤ n
   ·rw [if_pos e2,if_pos (by omega)];simp
   ·rw [if_neg e2,if_neg (by omega)];simp
theorem sets_by {t:List Int} {k:Nat} (hz:solE t k = 0) (hk:k ≤ 4) (F:List Int→Nat):((itemS t k).map fun s=>F s.1 * s.2).sum = ((List.range (2 ^ k)).map fun a=>if 1 ≤ popK k a∧popK k a ≤ t.length then F (setA k a) * wS t k (popK k a) else 0).sum:=by
 obtain ⟨z1,z2,z3,z4⟩:=solE_zero hz
 have h1:((itemS t k).map fun s=>F s.1 * s.2) = (setP t k t.length).map fun s=>F s * wS t k s.length:=by unfold itemS;rw [List.map_map];rfl
 rw [h1,← sum_pop (popK k) (fun a=>F (setA k a) * wS t k (popK k a)) (List.range (2 ^ k)) t.length]
 show (((List.range t.length).flatMap (szL t k)).map _).sum = _
 rw [sum_flatMap]
 refine congrArg List.sum (List.map_congr_left fun i hi=>?_)
 have hi:=List.mem_range.1 hi
 have h2:(((List.range (2 ^ k)).filter fun a=>Nat.beq (popK k a) (i + 1)).map fun a=>F (setA k a) * wS t k (popK k a)) = (((List.range (2 ^ k)).filter fun a=>Nat.beq (popK k a) (i + 1)).map (setA k)).map fun s=>F s * wS t k (i + 1):=by
  rw [List.map_map]
  refine List.map_congr_left fun a ha=>?_
  have:=Nat.eq_of_beq_eq_true (List.mem_filter.1 ha).2
  show _ = F (setA k a) * wS t k (i + 1)
  rw [this]
 rw [h2,← ((ris_perm hk (show i + 1 ≤ k by omega)).map _).sum_nat]
 unfold szL
 by_cases e:t.getD i 0 = 0
 ·rw [if_pos e,show wS t k (i + 1) = 0 by unfold wS;rw [Nat.add_sub_cancel,e];simp]
  simp only [Nat.mul_zero]
  rw [sum_const (fun _=>0) 0 (risR (i + 1) 0 k) fun _ _=>rfl];simp
 ·rw [if_neg e]
  refine congrArg List.sum (List.map_congr_left fun s hs=>?_)
  rw [(risR_mem _ _ _ _ hs).1]
theorem rows_sets {t:List Int} {k:Nat} (hz:solE t k = 0) (hk:k ≤ 4) (F:List Int→Nat):((itemR t k).map fun s=>F s.1 * s.2).sum * oneS t k = ((itemS t k).map fun s=>F s.1 * s.2).sum * oneR t k:=by
 obtain ⟨z1,z2,z3,z4⟩:=solE_zero hz
 have hs:=sum_posT z3 z4
 have h1:((itemR t k).map fun s=>F s.1 * s.2).sum * 24 = ((rowsA t k).map fun l=>F (setA k (rmsk k l)) * wt k l).sum * fall k k:=by
  rw [← sum_mulR,← sum_mulR]
  unfold itemR
  rw [List.map_map]
  refine congrArg List.sum (List.map_congr_left fun l hl=>?_)
  obtain ⟨r1,_,_,r4⟩:=row_set hz hk hl
  show F (rowS k l) * wR k l * 24 = _
  rw [r1,Nat.mul_assoc,r4,Nat.mul_assoc]
 rw [sum_by (rmsk k) (wt k) (fun a=>F (setA k a)) (2 ^ k) (rowsA t k) fun l hl=>(row_set hz hk hl).2.1] at h1
 have h3:∀ a,a < 2 ^ k→((rowsA t k).map fun l=>bif Nat.beq (rmsk k l) a then wt k l else 0).sum * fall k k * oneS t k = 24 * ((if 1 ≤ popK k a∧popK k a ≤ t.length then wS t k (popK k a) else 0) * oneR t k):=fun a ha=>by
  have hw:((rowsA t k).map fun l=>bif Nat.beq (rmsk k l) a then wt k l else 0) = (rowsA t k).map (wtA k a):=rfl
  rw [hw]
  obtain ⟨q1,q2,_⟩:=pop_in hk ha
  by_cases ha1:1 ≤ a
  ·have h5:=all_wtA z3 (by omega) hk hs ⟨ha1,ha⟩
   have q3:=q2 ha1
   by_cases hp:popK k a ≤ t.length
   ·rw [if_pos hp] at h5
    rw [if_pos ⟨q3,hp⟩]
    obtain ⟨c1,c2⟩:=chs24 k hk (popK k a) (by omega)
    have hm:t.getD (popK k a - 1) 0 ∈ t:=by rw [List.getD_eq_getElem?_getD,List.getElem?_eq_getElem (by omega)];exact List.getElem_mem (by omega)
    obtain ⟨τ,hτ⟩ : ∃ τ:Nat,t.getD (popK k a - 1) 0 = τ:=⟨(t.getD (popK k a - 1) 0).toNat,by have:=(z3 _ hm).1;omega⟩
    rw [hτ] at h5
    have h6:((rowsA t k).map (wtA k a)).sum = fct (popK k a) * (24 / fall k (popK k a)) * (τ * t.length):=by exact_mod_cast h5
    rw [h6]
    unfold wS oneS oneR
    rw [hτ,Int.toNat_natCast,← prodX_mul q3 hp]
    generalize fct (popK k a) * (24 / fall k (popK k a)) = m at *
    generalize prodX k (popK k a) t.length = X at *
    generalize chs k (popK k a) = C at *
    generalize t.sum.toNat = T at *
    generalize t.length = N at *
    generalize fall k k = K at *
    rw [← c1]
    grind
   ·rw [if_neg hp] at h5
    rw [if_neg (by omega)]
    have h6:((rowsA t k).map (wtA k a)).sum = 0:=by exact_mod_cast h5
    rw [h6];simp
  ·obtain rfl:a = 0:=by omega
   have h6:((rowsA t k).map (wtA k 0)).sum = 0:=by
    rw [show (rowsA t k).map (wtA k 0) = (rowsA t k).map fun _=>0 from List.map_congr_left fun l hl=>by
     unfold wtA
     rw [show Nat.beq (rmsk k l) 0 = false from by
      cases hb:Nat.beq (rmsk k l) 0 with
      | false=>rfl
      | true=>have:=Nat.eq_of_beq_eq_true hb;have:=(row_set hz hk hl).2.2.1;omega];rfl,sum_const (fun _=>0) 0 (rowsA t k) fun _ _=>rfl,Nat.mul_zero]
   have hp0:popK k 0 = 0:=by
    unfold popK
    rw [show ((List.range k).map fun j=>0 / 2 ^ j % 2) = (List.range k).map fun _=>0 from List.map_congr_left fun j _=>by simp,sum_const (fun _=>0) 0 (List.range k) fun _ _=>rfl,Nat.mul_zero]
   rw [h6,hp0,if_neg (by omega)];simp
 have h7:((itemR t k).map fun s=>F s.1 * s.2).sum * oneS t k * 24 = ((itemS t k).map fun s=>F s.1 * s.2).sum * oneR t k * 24:=by
  rw [Nat.mul_right_comm,h1,sets_by hz hk F,← sum_mulR,← sum_mulR,← sum_mulR,← sum_mulR]
  refine congrArg List.sum (List.map_congr_left fun a ha=>?_)
  have:=h3 a (List.mem_range.1 ha)
  by_cases e:1 ≤ popK k a∧popK k a ≤ t.length
  ·rw [if_pos e] at this ⊢
   rw [Nat.mul_assoc,Nat.mul_assoc,← Nat.mul_assoc _ (fall k k),this]
   grind
  ·rw [if_neg e] at this ⊢
   rw [Nat.mul_assoc,Nat.mul_assoc,← Nat.mul_assoc _ (fall k k),this]
   simp
 exact Nat.eq_of_mul_eq_mul_right (by decide) h7
open Go Go.Proofs Go.RowKit
def smlT (m:Int) (tbl:List Int) (k:Nat):List Int:=(tbl.take k).map fun x=>pick x m
theorem smlT_zero (m:Int) (tbl:List Int):smlT m tbl 0 = []:=rfl
theorem smlT_succ {m:Int} {tbl:List Int} {i:Nat} (h:i < tbl.length):smlT m tbl (i + 1) = smlT m tbl i ++ [pick (tbl.getD i 0) m]:=by
 unfold smlT;rw [take_succ' h 0,List.map_append];rfl
theorem smlT_len (m:Int) (tbl:List Int) (k:Nat):(smlT m tbl k).length = min k tbl.length:=by unfold smlT;simp
theorem smlT_min (m:Int) (tbl:List Int) (k:Nat):smlT m tbl (min k tbl.length) = smlT m tbl k:=by
 unfold smlT
 congr 1
 rcases Nat.le_total k tbl.length with h | h
 ·rw [Nat.min_eq_left h]
 ·rw [Nat.min_eq_right h,List.take_length,List.take_of_length_le h]
theorem pickM_in {x m:Int} (h:1 ≤ m):0 ≤ pick x m∧pick x m < m:=by
 unfold pick
 rw [if_neg (by omega)]
 exact ⟨Int.emod_nonneg _ (by omega),Int.emod_lt_of_pos _ (by omega)⟩
theorem massW_err {W:List (List Int)→Bool} {t:List Int} {k n:Int} (h:refE t k n = 0):(massW W t k n).2 = 0∨(massW W t k n).2 = 4:=by
 unfold massW sumW
 rw [if_pos h]
 split
 ·split
  ·exact .inl rfl
  ·exact .inr rfl
 ·exact .inr rfl
theorem massD_err {W:List (List Int)→Bool} {t:List Int} {k n:Int} (h:refE t k n = 0):(massD W t k n).2 = 0∨(massD W t k n).2 = 4:=by
 unfold massD sumW
 rw [if_pos h]
 split
 ·split
  ·exact .inl rfl
  ·exact .inr rfl
 ·exact .inr rfl
attribute [local irreducible] Fit pt own ro vw mpc lpt vels rels mow lrc dfr
attribute [local irreducible] lmp lme mit velg relg bnd owl dfrl massW setsW massD smlT solE
end Go.Art
namespace Go.Art
open Go Go.Proofs Go.RowKit
theorem massW_val {W:List (List Int)→Bool} {t:List Int} {k n:Nat} (h:(massW W t k n).2 = 0):massW W t k n = (rqf (mkRat ((natG W (itemS t k) n [] 1:Nat):Int) (oneS t k ^ n)),0)∧(itemS t k).length ≤ 4096∧(itemS t k).length ^ n ≤ 4096∧(setsW t k).2 = 0:=by
 unfold massW at *
 by_cases hr:refE t k n = 0
 rotate_left
 ·rw [if_neg hr] at h;exact absurd h hr
 rw [if_pos hr] at h ⊢
 by_cases hs:(setsW t k).2 = 0
 rotate_left
 ·rw [if_neg hs] at h;cases h
 rw [if_pos hs] at h ⊢
 unfold sumW at *
 rw [Int.toNat_natCast,Int.toNat_natCast] at *
 split at h
 ·rename_i a;rw [if_pos a];exact ⟨rfl,a.1,a.2,hs⟩
 ·cases h
attribute [local irreducible] Fit pt own ro vw mpc lpt vels rels mow lrc dfr
attribute [local irreducible] lmp lme mit velg relg bnd owl dfrl massW setsW massD smlT solE natG itemS oneS
end Go.Art
namespace Go.Art
open Go Go.Proofs Go.RowKit
theorem stL_one:stL [1,1] 2 2 = [mkRat ((5:Nat):Int) 8,mkRat ((1:Nat):Int) 8,mkRat ((1:Nat):Int) 4]:=by decide +kernel
theorem failV_one:failV [1,1] ((2:Nat):Int) ((2:Nat):Int) = (rqf (mkRat ((3:Nat):Int) 8),0):=by
 have h:failQ [1,1] 2 2 = mkRat ((3:Nat):Int) 8:=by decide +kernel
 unfold failV
 rw [if_pos (by decide),Int.toNat_natCast,h]
theorem solE_one:solE [1,1] ((2:Nat):Int) = 0:=by decide
theorem massD_val {W:List (List Int)→Bool} {t:List Int} {k n:Nat} (hk:k ≤ 4) (h1:(massD W t k n).2 = 0):massD W t k n = (rqf (mkRat ((natG W (itemS t k) n [] 1:Nat):Int) (oneS t k ^ n)),0):=by
 unfold massD at *
 by_cases hr:refE t k n = 0
 rotate_left
 ·rw [if_neg hr] at h1;exact absurd h1 hr
 rw [if_pos hr] at h1 ⊢
 have hz:=(refE_zero hr).1
 by_cases hl:(itemR t (k:Int).toNat).length ≤ 4096
 rotate_left
 ·rw [if_neg hl] at h1;cases h1
 rw [if_pos hl] at h1 ⊢
 unfold sumW at *
 split at h1
 ·rename_i a
  rw [Int.toNat_natCast,Int.toNat_natCast] at *
  have key:mkRat ((natG W (itemR t k) n [] 1:Nat):Int) (oneR t k ^ n) = mkRat ((natG W (itemS t k) n [] 1:Nat):Int) (oneS t k ^ n):=by
   rw [Rat.mkRat_eq_iff (Nat.ne_of_gt (Nat.pow_pos (Nat.pos_of_ne_zero (oneR_pos hz)))) (Nat.ne_of_gt (Nat.pow_pos (Nat.pos_of_ne_zero (oneS_pos hz))))]
   have:=natG_same W (rows_sets hz hk) n [] 1
   exact_mod_cast this
  rw [if_pos a,key]
 ·cases h1
theorem failQ_eq {t:List Int} {k:Nat} (hz:solE t k = 0) (n:Nat):failQ t k n = mkRat ((natG (failW k) (itemS t k) n [] 1:Nat):Int) (oneS t k ^ n):=by
 unfold failQ
 rw [ripple_fail hz,Rat.mkRat_eq_div]
 generalize natG (failW k) (itemS t k) n [] 1 = a
 push_cast
 rfl
attribute [local irreducible] Fit pt own ro vw mpc lpt vels rels mow lrc dfr
attribute [local irreducible] lmp lme mit velg relg bnd owl dfrl massW setsW massD smlT solE failV failQ stL
theorem is25_tr (t:Fr3) (e:Int) (n1 d1:Value) (x y:Nat) (hx:x < 9223372036854775808) (hy:y < 9223372036854775808) (hy0:y ≠ 0):Tr Tryz.prog 28 [.agg #[.bool t.1,n1,d1],I e,I x,I y] [vw n1 (Us t.2.1),vw d1 (Us t.2.2)] []
  fun v D=>v = .bool (decide (e = 0∧t = rqf (mkRat x y)))∧D = []:=by
 have hP:=FPair_tr x y hx hy hy0
 unfold FQ2 at hP
 have hl:0 < (dg (mkRat (x:Int) y).den).length:=by have:=dg_len_pos (mkRat (x:Int) y).den_nz;omega
 generalize mkRat (x:Int) y = q at *
 refine Tr.enter env _ Tryz.func28 (by kernel_rfl) rfl Tryz.ntmps28 rfl (by repeat (first | exact has00 | refine has01 ?_)) fun w0=>?_
 repeat' first|(refine gca ?_;first|(refine ca hP ?_;rintro _ _ ⟨vn,vd,rfl,hvn,hvd,rfl⟩)|(refine ca (SameRatio_tr t (rqf q) n1 d1 vn vd) ?_;rintro _ _ ⟨rfl,rfl⟩))|refine bx fun b1=>?_|refine al fun b2=>?_|refine lda ?_|refine srz ?_|(refine wo ?_;first|(refine ao ?_;first|refine oa ?_)|refine oa ?_|refine ld ?_|refine lnm ?_|refine gy ?_|refine gn ?_|(refine gsi (fun hB=>?_) (fun hB=>?_) <;> try (exfalso;omega)))|refine sq ?_|refine rg ?_|refine xc ?_|refine nl ?_|refine rt ?_
 ·refine r1 ⟨?_,rfl⟩
  congr 1;exact decide_eq_decide.2 ⟨fun h=>⟨by assumption,h⟩,fun h=>h.2⟩
 ·refine r1 ⟨?_,rfl⟩
  rw [decide_eq_false fun h=>absurd h.1 (by assumption)]
theorem fails25_tr (tv:Value) (htv:tv.oneCell' = true) (t:List Int) (k n:Int) (x y:Nat) (hx:x < 9223372036854775808) (hy:y < 9223372036854775808) (hy0:y ≠ 0) (hl:t.length ≤ 12) (hk:k ≤ 40∨1024 < k) (hn:n ≤ 12∨4096 < n) (h:failV t k n = (rqf (mkRat x y),0)) :
  Tr Tryz.prog 29 [tv,I k,I n,I x,I y] [vw tv (Is t)] [] fun v D=>v = .bool true∧D = []:=by
 have hF:=Fail_tr tv htv t k n hk hl hn
 rw [h] at hF
 have hI:=fun a b=>is25_tr (rqf (mkRat x y)) 0 a b x y hx hy hy0
 simp only [and_self,decide_true] at hI
 unfold FW at hF
 dsimp only at hF
 generalize mkRat (x:Int) y = q at *
 refine Tr.enter env _ Tryz.func29 (by kernel_rfl) rfl Tryz.ntmps29 rfl (by repeat (first | exact has00 | refine has01 ?_)) fun w0=>?_
 repeat' first|(refine gca ?_;first|(refine ca hF ?_;rintro _ _ ⟨vn,vd,rfl,hvn,hvd,rfl⟩)|(refine ca (hI vn vd) ?_;rintro _ _ ⟨rfl,rfl⟩))|refine al fun c=>?_|refine srz ?_|refine lda ?_|(refine wo ?_;first|refine oa ?_)|refine sq ?_|refine rg ?_|refine xc ?_|refine nl ?_|refine rt ?_
 exact r1 ⟨rfl,rfl⟩
theorem len3 {l:List HV} (h:l.length = 3):∃ a b c,l = [a,b,c]:=by
 match l,h with
 | [a,b,c],_=>exact ⟨a,b,c,rfl⟩
theorem awake25_tr:Tr Tryz.prog 16 [] [] [] fun v D=>v = .bool true∧D = []:=by
 have hS:=fun s hs=>Stuck_tr s hs [1,1] 2 2 solE_one (by decide) (by decide) (by decide)
 rw [stL_one] at hS
 have hF:=fun s hs=>fails25_tr s hs [1,1] 2 2 3 8 (by decide) (by decide) (by decide) (by decide) (by decide) (by decide) failV_one
 have hI0:=fun a b=>is25_tr (rqf (mkRat ((5:Nat):Int) 8)) 0 a b 5 8 (by decide) (by decide) (by decide)
 have hI1:=fun a b=>is25_tr (rqf (mkRat ((1:Nat):Int) 8)) 0 a b 1 8 (by decide) (by decide) (by decide)
 have hI2:=fun a b=>is25_tr (rqf (mkRat ((1:Nat):Int) 4)) 0 a b 1 4 (by decide) (by decide) (by decide)
 simp only [and_self,decide_true] at hI0 hI1 hI2
 generalize mkRat ((5:Nat):Int) 8 = q0 at *
 generalize mkRat ((1:Nat):Int) 8 = q1 at *
 generalize mkRat ((1:Nat):Int) 4 = q2 at *
 refine Tr.enter env _ Tryz.func16 (by kernel_rfl) rfl Tryz.ntmps16 rfl (by repeat (first | exact has00 | refine has01 ?_)) fun w0=>?_
 repeat' first|(refine gca ?_;first|(refine ca (hS v hv) ?_;rintro _ _ ⟨sv,hs,rfl,hsv,hhs,rfl⟩))|refine slz fun v hv=>?_|(refine wo ?_;first|refine oa ?_)|refine sq ?_|refine rg ?_|refine xc ?_|refine nl ?_
 obtain ⟨a0,a1,a2,rfl⟩:=len3 hhs
 have hh:=fun (F:List Ch) (h:ofr [a0,a1,a2] [q0,q1,q2] ∈ F) (i:Nat) (hi:i < 3)=>has_fr (has_ofr (hs:=[a0,a1,a2]) (qs:=[q0,q1,q2]) rfl h) rfl (i:=i) hi
 repeat' first|(refine gca ?_;first|(refine ca (hI0 a0.1 a0.2) ?_ (hp:=has1 (hh _ memA 0 (by decide)).1 (has1 (hh _ memA 0 (by decide)).2 has0));rintro _ _ ⟨rfl,rfl⟩)|(refine ca (hI1 a1.1 a1.2) ?_ (hp:=has1 (hh _ memA 1 (by decide)).1 (has1 (hh _ memA 1 (by decide)).2 has0));rintro _ _ ⟨rfl,rfl⟩)|(refine ca (hI2 a2.1 a2.2) ?_ (hp:=has1 (hh _ memA 2 (by decide)).1 (has1 (hh _ memA 2 (by decide)).2 has0));rintro _ _ ⟨rfl,rfl⟩)|(refine ca (hF v2 hv2) ?_;rintro _ _ ⟨rfl,rfl⟩))|refine lnw ?_ (hm:=has_oww memA)|refine ixws ?_ (hm:=has_oww memA)|refine ldaw (m:=0) (sz:=3) (vs:=rrow q0 a0) rfl ?_ (hm:=has_oww memA)|refine ldaw (m:=3) (sz:=3) (vs:=rrow q1 a1) rfl ?_ (hm:=has_oww memA)|refine ldaw (m:=6) (sz:=3) (vs:=rrow q2 a2) rfl ?_ (hm:=has_oww memA)|refine slz fun v2 hv2=>?_|(refine wo ?_;first|(refine ao ?_;first|refine oa ?_)|refine oa ?_|refine gy ?_)|refine xc ?_|refine nl ?_|refine rt ?_
 exact r1 ⟨rfl,rfl⟩
theorem small25_tr (tv:Value) (tbl:List Int) (k:Nat) (hk:k ≤ 100):Tr Tryz.prog 31 [tv,I k] [vw tv (Is tbl)] [] fun u D=>∃ o,u = tup2 o (.bool (decide (solE (smlT 4 tbl k) k = 0)))∧o.oneCell' = true∧D = [own TLI o (Is (smlT 4 tbl k))]:=by
 have hC:=fun s=>SoCheck_tr s (smlT 4 tbl k) k
 refine Tr.enter env _ Tryz.func31 (by kernel_rfl) rfl Tryz.ntmps31 rfl (by repeat (first | exact has00 | refine has01 ?_)) fun w0=>?_
 refine TC.leni (v:=tv) (l:=tbl) fun htl=>?_
 refine TC.im (own_nil TLI _) ?_
 repeat' first|(refine wo ?_;first|refine oa ?_)|refine sq ?_|refine rg ?_|refine xc ?_|refine nl ?_|refine bk ?_
 refine TC.loop (ι:=Nat × Value) (fun g=>[(7,I g.1),(6,g.2)]) (fun g=>[own TLI g.2 (Is (smlT 4 tbl g.1))]) (fun g=>g.1 ≤ k∧g.1 ≤ tbl.length∧g.2.oneCell' = true) (fun g=>k - g.1) (0,nS) [0,1] ⟨Nat.zero_le _,Nat.zero_le _,rfl⟩ ?_ (hf:=by dsimp only;rw [smlT_zero 4 tbl];exact fitA)
 rintro ⟨i,o⟩ ⟨h1,h2,ho⟩
 dsimp only at h1 h2 ho ⊢
 by_cases hlt:i < k∧i < tbl.length
 ·have hms:=smlT_succ (m:=4) hlt.2
  have hml:=smlT_len 4 tbl i
  clear hC
  generalize hy:tbl.getD i 0 = y at *
  repeat' first|(refine gca ?_;first|(refine ca (Pick_tr y 4 (by decide)) ?_;rintro _ _ ⟨rfl,rfl⟩))|refine lie hy ?_|refine slii [pick y 4] fun v1=>?_|(refine api (l:=smlT 4 tbl i) (news:=[pick y 4]) (fun o2=>?_) (hl:=by simp only [List.length_cons,List.length_nil];omega);refine TO.one (v:=o2) (xs:=Is (smlT 4 tbl i ++ [pick y 4])) fun ho2=>?_)|(refine wo ?_;first|(refine ao ?_;first|refine aw ?_|refine oa ?_)|refine oa ?_|refine lnm ?_|refine ixmn ?_|refine gy ?_|(refine gsi (fun hB=>?_) (fun hB=>?_) <;> try (exfalso;omega)))|(refine gc ?_;first|(refine ci (fun hB=>?_) (fun hB=>?_) <;> try (exfalso;omega)))|refine sq ?_|refine rg ?_|refine xc ?_|refine nl ?_|refine sk ?_|refine bk ?_|refine xb ?_
  exact lp (i + 1,o2) ⟨hlt.1,hlt.2,ho2⟩ (hf:=by dsimp only;rw [hms];exact fitA)
 ·have hmi:smlT 4 tbl i = smlT 4 tbl k:=by rw [← smlT_min 4 tbl k];congr 1;omega
  rw [hmi]
  have hC1:=hC o
  generalize solE (smlT 4 tbl k) k = e at *
  repeat' first|(refine gca ?_;first|(refine ca hC1 ?_;rintro _ _ ⟨rfl,rfl⟩))|(refine wo ?_;first|(refine ao ?_;first|refine oa ?_)|refine oa ?_|refine lnm ?_|refine gy ?_|refine gn ?_|(refine gsi (fun hB=>?_) (fun hB=>?_) <;> try (exfalso;omega)))|(refine gc ?_;first|refine cf ?_|(refine ci (fun hB=>?_) (fun hB=>?_) <;> try (exfalso;omega)))|refine sq ?_|refine rg ?_|refine xc ?_|refine nl ?_|refine xe ?_|refine rt ?_
  all_goals exact r2 ⟨o,rfl,ho,rfl⟩
theorem RippleMass_tr (tv:Value) (tbl:List Int) (kk nn:Int):Tr Tryz.prog 8 [tv,I kk,I nn] [vw tv (Is tbl)] [] fun v D=>v = .bool true∧D = []:=by
 have hpk:=pickM_in (x:=kk) (m:=4) (by decide)
 have hpn:=pickM_in (x:=nn) (m:=5) (by decide)
 obtain ⟨k,hk⟩ : ∃ k:Nat,1 + pick kk 4 = k:=⟨(1 + pick kk 4).toNat,by omega⟩
 obtain ⟨n,hn⟩ : ∃ n:Nat,pick nn 5 = n:=⟨(pick nn 5).toNat,by omega⟩
 have hT:=small25_tr tv tbl k (by omega)
 have hlen:=smlT_len 4 tbl k
 generalize smlT 4 tbl k = t at *
 by_cases hz:solE t k = 0
 rotate_left
 ·rw [decide_eq_false hz] at hT
  refine Tr.enter env _ Tryz.func8 (by kernel_rfl) rfl Tryz.ntmps8 rfl (by repeat (first | exact has00 | refine has01 ?_)) fun w0=>?_
  repeat' first|(refine gca ?_;first|(refine ca awake25_tr ?_;rintro _ _ ⟨rfl,rfl⟩)|(refine ca (Pick_tr kk 4 (by decide)) ?_;rintro _ _ ⟨rfl,rfl⟩)|(refine ca (Pick_tr nn 5 (by decide)) ?_;rintro _ _ ⟨rfl,rfl⟩;rw [hn])|(refine ca hT ?_;rintro _ _ ⟨o,rfl,ho,rfl⟩))|(refine aw (m:=1 + pick kk 4) ?_;rw [hk])|(refine wo ?_;first|refine oa ?_)|(refine gc ?_;first|refine ct ?_)|refine sq ?_|refine rg ?_|refine xc ?_|refine nl ?_|refine rt ?_
  exact r1 ⟨rfl,rfl⟩
 rw [decide_eq_true hz] at hT
 have hF:=fun o ho=>Fail_ok o ho t k n hz (by omega) (by omega) (by omega)
 have hM:=fun o=>MFail_tr o t k n (by omega) (by omega) (by omega)
 have hD:=fun o=>MDrawn_tr o t k n (by omega) (by omega) (by omega)
 have hE:refE t k n = 0:=by unfold refE;rw [if_pos hz,if_neg (by omega)]
 have h1:=massW_err (W:=failW k) hE
 have h2:=massD_err (W:=failW k) hE
 have h3:=fun h=>(massW_val (W:=failW k) (t:=t) (k:=k) (n:=n) h).1
 have h4:=fun h=>massD_val (W:=failW k) (t:=t) (k:=k) (n:=n) (by omega) h
 rw [← failQ_eq hz n] at h3 h4
 generalize massW (failW k) t k n = m1 at *
 generalize massD (failW k) t k n = m2 at *
 obtain ⟨t1,e1⟩:=m1
 obtain ⟨t2,e2⟩:=m2
 unfold FW at hM hD
 unfold FQ2 rv at hF
 have hS:=fun a b c d=>SameRatioT_tr (rqf (failQ t k n)) a b c d
 unfold rqf at hS h3 h4
 generalize failQ t k n = q at *
 dsimp only at hM hD h1 h2 h3 h4 hS
 have h5:e1 = 0→t1 = (decide (q.num < 0),dg q.num.natAbs,dg q.den):=fun h=>congrArg (·.1) (h3 h)
 have h6:e2 = 0→t2 = (decide (q.num < 0),dg q.num.natAbs,dg q.den):=fun h=>congrArg (·.1) (h4 h)
 clear h3 h4 hE
 rcases h1 with rfl | rfl
 ·obtain rfl:=h5 rfl
  clear h5
  rcases h2 with rfl | rfl
  ·obtain rfl:=h6 rfl
   clear h6
   dsimp only at hM hD
   refine Tr.enter env _ Tryz.func8 (by kernel_rfl) rfl Tryz.ntmps8 rfl (by repeat (first | exact has00 | refine has01 ?_)) fun w0=>?_
   repeat' first|(refine gca ?_;first|(refine ca awake25_tr ?_;rintro _ _ ⟨rfl,rfl⟩)|(refine ca (Pick_tr kk 4 (by decide)) ?_;rintro _ _ ⟨rfl,rfl⟩)|(refine ca (Pick_tr nn 5 (by decide)) ?_;rintro _ _ ⟨rfl,rfl⟩;rw [hn])|(refine ca hT ?_;rintro _ _ ⟨o,rfl,ho,rfl⟩)|(refine ca (hF o ho) ?_;rintro _ _ ⟨n1,d1,rfl,hn1,hd1,rfl⟩)|(refine ca (hM o) ?_;rintro _ _ ⟨n2,d2,rfl,hn2,hd2,rfl⟩)|(refine ca (hD o) ?_;rintro _ _ ⟨n3,d3,rfl,hn3,hd3,rfl⟩)|(refine ca (hS _ _ _ _) ?_;rintro _ _ ⟨rfl,rfl⟩))|(refine aw (m:=1 + pick kk 4) ?_;rw [hk])|refine al fun c=>?_|refine srz ?_|refine lda ?_|(refine wo ?_;first|(refine ao ?_;first|refine oa ?_)|refine oa ?_|refine gy ?_|refine gn ?_)|(refine gc ?_;first|refine cf ?_)|refine sq ?_|refine rg ?_|refine xc ?_|refine nl ?_|refine sk ?_|refine rt ?_
   exact r1 ⟨rfl,rfl⟩
  ·clear h6
   dsimp only at hM
   refine Tr.enter env _ Tryz.func8 (by kernel_rfl) rfl Tryz.ntmps8 rfl (by repeat (first | exact has00 | refine has01 ?_)) fun w0=>?_
   repeat' first|(refine gca ?_;first|(refine ca awake25_tr ?_;rintro _ _ ⟨rfl,rfl⟩)|(refine ca (Pick_tr kk 4 (by decide)) ?_;rintro _ _ ⟨rfl,rfl⟩)|(refine ca (Pick_tr nn 5 (by decide)) ?_;rintro _ _ ⟨rfl,rfl⟩;rw [hn])|(refine ca hT ?_;rintro _ _ ⟨o,rfl,ho,rfl⟩)|(refine ca (hF o ho) ?_;rintro _ _ ⟨n1,d1,rfl,hn1,hd1,rfl⟩)|(refine ca (hM o) ?_;rintro _ _ ⟨n2,d2,rfl,hn2,hd2,rfl⟩)|(refine ca (hD o) ?_;rintro _ _ ⟨n3,d3,rfl,hn3,hd3,rfl⟩)|(refine ca (hS _ _ _ _) ?_;rintro _ _ ⟨rfl,rfl⟩))|(refine aw (m:=1 + pick kk 4) ?_;rw [hk])|refine al fun c=>?_|refine srz ?_|refine lda ?_|(refine wo ?_;first|(refine ao ?_;first|refine oa ?_)|refine oa ?_|refine gy ?_|refine gn ?_)|(refine gc ?_;first|refine cf ?_)|refine sq ?_|refine rg ?_|refine xc ?_|refine nl ?_|refine sk ?_|refine rt ?_
   exact r1 ⟨rfl,rfl⟩
 ·clear h5
  rcases h2 with rfl | rfl
  ·obtain rfl:=h6 rfl
   clear h6
   dsimp only at hD
   refine Tr.enter env _ Tryz.func8 (by kernel_rfl) rfl Tryz.ntmps8 rfl (by repeat (first | exact has00 | refine has01 ?_)) fun w0=>?_
   repeat' first|(refine gca ?_;first|(refine ca awake25_tr ?_;rintro _ _ ⟨rfl,rfl⟩)|(refine ca (Pick_tr kk 4 (by decide)) ?_;rintro _ _ ⟨rfl,rfl⟩)|(refine ca (Pick_tr nn 5 (by decide)) ?_;rintro _ _ ⟨rfl,rfl⟩;rw [hn])|(refine ca hT ?_;rintro _ _ ⟨o,rfl,ho,rfl⟩)|(refine ca (hF o ho) ?_;rintro _ _ ⟨n1,d1,rfl,hn1,hd1,rfl⟩)|(refine ca (hM o) ?_;rintro _ _ ⟨n2,d2,rfl,hn2,hd2,rfl⟩)|(refine ca (hD o) ?_;rintro _ _ ⟨n3,d3,rfl,hn3,hd3,rfl⟩)|(refine ca (hS _ _ _ _) ?_;rintro _ _ ⟨rfl,rfl⟩))|(refine aw (m:=1 + pick kk 4) ?_;rw [hk])|refine al fun c=>?_|refine srz ?_|refine lda ?_|(refine wo ?_;first|(refine ao ?_;first|refine oa ?_)|refine oa ?_|refine gy ?_|refine gn ?_)|(refine gc ?_;first|refine cf ?_)|refine sq ?_|refine rg ?_|refine xc ?_|refine nl ?_|refine sk ?_|refine rt ?_
   exact r1 ⟨rfl,rfl⟩
  ·refine Tr.enter env _ Tryz.func8 (by kernel_rfl) rfl Tryz.ntmps8 rfl (by repeat (first | exact has00 | refine has01 ?_)) fun w0=>?_
   repeat' first|(refine gca ?_;first|(refine ca awake25_tr ?_;rintro _ _ ⟨rfl,rfl⟩)|(refine ca (Pick_tr kk 4 (by decide)) ?_;rintro _ _ ⟨rfl,rfl⟩)|(refine ca (Pick_tr nn 5 (by decide)) ?_;rintro _ _ ⟨rfl,rfl⟩;rw [hn])|(refine ca hT ?_;rintro _ _ ⟨o,rfl,ho,rfl⟩)|(refine ca (hF o ho) ?_;rintro _ _ ⟨n1,d1,rfl,hn1,hd1,rfl⟩)|(refine ca (hM o) ?_;rintro _ _ ⟨n2,d2,rfl,hn2,hd2,rfl⟩)|(refine ca (hD o) ?_;rintro _ _ ⟨n3,d3,rfl,hn3,hd3,rfl⟩)|(refine ca (hS _ _ _ _) ?_;rintro _ _ ⟨rfl,rfl⟩))|(refine aw (m:=1 + pick kk 4) ?_;rw [hk])|refine al fun c=>?_|refine srz ?_|refine lda ?_|(refine wo ?_;first|(refine ao ?_;first|refine oa ?_)|refine oa ?_|refine gy ?_|refine gn ?_)|(refine gc ?_;first|refine cf ?_)|refine sq ?_|refine rg ?_|refine xc ?_|refine nl ?_|refine sk ?_|refine rt ?_
   exact r1 ⟨rfl,rfl⟩
end Go.Art
