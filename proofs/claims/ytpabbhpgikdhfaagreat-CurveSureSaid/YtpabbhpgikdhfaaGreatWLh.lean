/- Texts put together: Jb StopO Vi Vj Vk Gp Ga Vl Rr Zj Vn Vp Vq Vs If Jc Jd Je Jf Jg Jh Ji Ig Ih Ii Ij Jj Jk. Conditions: none. -/
import Derived.Test.YtpabbhpgikdhfaaGreatWLg
set_option linter.unusedSimpArgs false
set_option linter.unusedVariables false
namespace Go.Art
open Go Go.Proofs Go.RowKit
section
variable {P:Program} {E:Env P} {n:Sh} {fr:Fr} {A A' D G:List Ch} {m:Nat}
theorem mt1 {Ds:List Nat} {w0:World} {A0:List Ch} {R':Value→List Ch→Prop} {fn:Func} {t:Nat} {v1:Value} (h:R' v1 D) (hr:fn.results = #[.tmp t]:=by rfl) (hv:get fr t = some v1:=by rfl)
  (hm:Tk (dfrl Ds) A A':=by exact tkA) (hf:Fit A' D G:=by exact fitA) (nb:∀ c ∈ D,∀ b,¬ c.bd b:=by (repeat (first | exact nb0 | refine nb1 ?_));first | done | fail) (hn:n = ⟨m,marks Ds,none⟩:=by rfl) :
  TX E n ⟨bodyPostM (FF none) 0 P fn (RetP (PR w0 A0 R')),w0,A0⟩ [] .ret fr A:=by
 subst hn
 exact mG (.inl rfl) h (fun w hw a ha=>res_t ha hr hv) hm hf nb
end
structure CfS where
 i:Nat
 v:Value
 hs:List HV
theorem qs_snoc {qs:List Rat} {i:Nat} (h:i < qs.length):qs.take i ++ [qs.getD i 0] = qs.take (i + 1):=(take_succ' h 0).symm
attribute [local irreducible] Fit pt own ro vw mpc lpt vels rels mow lrc dfr
attribute [local irreducible] lmp lme mit velg relg bnd owl dfrl gow shB grB
abbrev TF4:TypeId:=132
abbrev TF5:TypeId:=134
theorem put_tr' (lv uv:Value) (m:Nat) (hm:m ≤ 4096) (xs:List Value) (q:Rat) (x1 x2:Value) (h1:x1.oneCell' = true) (h2:x2.oneCell' = true):Tr Tryz.prog 98 [lv,uv] [vwf uv 1 (rrow q (x1,x2))] [oww TRt 3 lv m xs] fun u D=>u.oneCell' = true∧D = [oww TRt 3 u (m + 1) (xs ++ rrow q (x1,x2))]:=by
 refine Tr.enter env _ Tryz.func98 (by kernel_rfl) rfl Tryz.ntmps98 rfl (by repeat (first | exact has00 | refine has01 ?_)) fun w0=>?_
 repeat' first|refine apw (e:=TRt) (sz:=3) (N:=m) (M:=1) (xs:=xs) (ys:=rrow q (x1,x2)) (by decide) rfl (one_cons rfl (one_cons h1 (one_cons h2 one_nil))) (fun v' hv'=>?_) (hu:=has_vwf memA)|(refine wo ?_;first|refine oa ?_)|refine sq ?_|refine rg ?_|refine xc ?_|refine nl ?_|refine rt ?_
 exact r1 ⟨hv',rfl⟩
theorem add1_tr (p q:Rat) (v1 v2 x1 x2 uv:Value) (h1:v1.oneCell' = true) (h2:v2.oneCell' = true) (g1:x1.oneCell' = true) (g2:x2.oneCell' = true) (hp:FB p 8589934592) (hq:FB q 8589934592) :
  Tr Tryz.prog 100 [rv p v1 v2,uv] [vw v1 (Us (dg p.num.natAbs)),vw v2 (Us (dg p.den)),vw x1 (Us (dg q.num.natAbs)),vw x2 (Us (dg q.den))] [oww TRt 3 uv 1 (rrow q (x1,x2))] (FQ (q + p)):=by
 have hA:=fun lv=>FAdd2_tr q p lv x1 x2 v1 v2 hq hp
 unfold FQ2 at hA
 unfold FQ
 obtain ⟨s,hs⟩ : ∃ s,s = q + p:=⟨_,rfl⟩
 rw [← hs] at hA ⊢
 refine Tr.enter env _ Tryz.func100 (by kernel_rfl) rfl Tryz.ntmps100 rfl (by repeat (first | exact has00 | refine has01 ?_)) fun w0=>?_
 repeat' first|(refine gca ?_;first|(refine ca (hA _) ?_ (hp:=has1 (has_oww memA) (has1 hasA (has1 hasA (has1 hasA (has1 hasA has0)))));rintro _ _ ⟨n1,n2,rfl,hn1,hn2,rfl⟩))|refine bx fun b=>?_|refine al fun c=>?_|refine lda ?_|refine slws (sz:=3) (xs:=rrow p (v1,v2)) fun g2=>?_|refine apw (e:=TRt) (sz:=3) (N:=1) (M:=1) (xs:=rrow q (x1,x2)) (ys:=rrow p (v1,v2)) (by decide) rfl (one_cons rfl (one_cons h1 (one_cons h2 one_nil))) (fun v' hv'=>?_)|refine srz ?_|(refine wo ?_;first|refine oa ?_)|refine sq ?_|refine rg ?_|refine xc ?_|refine nl ?_|refine rt ?_
 exact rca1 (cs:=[.bool (decide (s.num < 0)),n1,n2]) (vs:=[.bool (decide (s.num < 0)),n1,n2]) (T:=TRt) ⟨n1,n2,rfl,hn1,hn2,rfl⟩
theorem lfold_tr (f:FuncId) (cap:Array Value) (U:Ch) [Lent U] (qs:List Rat) (hS:SeqR Tryz.prog f cap U qs) (hM:qs.length ≤ 4096) :
  Tr Tryz.prog 99 [.func (.func f) #[] cap,nS,.func (.func 98) #[] #[]] [U] [] fun u D=>∃ hs:List HV,u.oneCell' = true∧hs.length = qs.length∧D = [oww TRt 3 u qs.length (rcs qs hs),ofr hs qs]:=by
 have hrun:=@SeqR.run _ _ _ _ _ hS
 clear hS
 refine Tr.enterM env _ Tryz.func99 (by kernel_rfl) rfl Tryz.ntmps99 rfl (by repeat (first | exact has00 | refine has01 ?_)) fun w0=>?_
 repeat' first|refine bx1 fun c4=>?_|(refine wo ?_;first|refine oa ?_)|refine sq ?_|refine rg ?_|refine xc ?_|refine nl ?_|refine bk ?_
 rename_i c3
 refine TC.im (oww_nil TRt 3 _) ?_
 refine TC.im (owl_nil (e:=T64) (g:=wU) _) ?_
 refine TC.range [lpt c4 [.func (.func 98) #[] #[]] TF4,U] [pt c3 [nS] TRs,oww TRt 3 nS 0 [],ofr [] []] (fun l2 rec Dm pend B'=>∃ v hs,B' = [dfr Dm,pt c3 [v] TRs,oww TRt 3 v qs.length (rcs qs hs),ofr hs qs]∧pend = none∧v.oneCell' = true∧hs.length = qs.length) ?_ ?_ (hp:=has1 hasA (has1 (has_mem memA) has0))
 ·intro rec l2 Dm hr
  refine Tr.unb (hrun (α:=CfS) (lpt c4 [.func (.func 98) #[] #[]] TF4) l2 (fun g=>bnd [lrc l2 rec .ready none,dfr Dm,pt c3 [g.v] TRs,oww TRt 3 g.v g.i (rcs (qs.take g.i) g.hs),ofr g.hs (qs.take g.i)]) (fun g i=>g.i = i∧g.v.oneCell' = true∧g.hs.length = i) (fun _=>False) ⟨0,nS,[]⟩ ⟨rfl,rfl,rfl⟩ (fun p=>bnd_nob (by repeat (first | exact nb0 | refine nb1 ?_))) ?_) ?_
  ·rintro ⟨i,v,hs⟩ j x1 x2 hx1 hx2 ⟨hji,hv,hhl⟩ hj
   dsimp only at hji hv hhl ⊢
   subst hji
   have htl:(qs.take i).length = i:=by rw [List.length_take];omega
   have hsn:=qs_snoc hj
   generalize qs.getD i 0 = q at *
   have hrc:rcs (qs.take i) hs ++ rrow q (x1,x2) = rcs (qs.take (i + 1)) (hs ++ [(x1,x2)]):=by rw [← hsn,rcs_app (by omega),rcs_one]
   have hor:=fun (A F:List Ch) (hf:Fit A _ F)=>ofr_snoc (hs:=hs) (qs:=qs.take i) (by omega) q x1 x2 hf
   rw [hsn] at hor
   refine Ty.bndL (K:=[own T64 x1 (Us (dg q.num.natAbs)),own T64 x2 (Us (dg q.den))]) (C:=[lrc l2 rec .ready none,dfr Dm,pt c3 [v] TRs,oww TRt 3 v i (rcs (qs.take i) hs),ofr hs (qs.take i)]) ?_
   refine Ty.intro env hr (by repeat (first | exact has00 | refine has01 ?_)) fun w1=>?_
   clear hrun
   repeat' first|refine al fun c7=>?_|refine xbeg ?_|refine lda (cs:=rrow q (x1,x2)) ?_|refine slws (sz:=3) (xs:=rrow q (x1,x2)) fun g2=>?_|refine srz ?_ (hj:=Nat.le_of_ble_eq_true rfl)|(refine cav (cap:=#[]) (vs:=[v,.slice (some ⟨g2,0,none⟩) 1 1]) (put_tr' v (.slice (some ⟨g2,0,none⟩) 1 1) i (by omega) (rcs (qs.take i) hs) q x1 x2 hx1 hx2) ?_ (hp:=has1 (has_oww memA) has0);rintro v2 _ ⟨hv2,rfl⟩)|(refine wo ?_;first|refine ld ?_|refine ldl ?_|refine sr ?_)|refine rg ?_|refine nl ?_|refine bk ?_|refine xb ?_
   refine TX.im (hor _ _ fitA) ?_
   rw [hrc]
   exact yn ⟨⟨i + 1,v2,hs ++ [(x1,x2)]⟩,rfl,.inl ⟨rfl,rfl,hv2,by simp [hhl]⟩⟩
  ·rintro _ _ ⟨⟨i,v,hs⟩,rfl,⟨g1,g2,g3⟩ | h⟩
   ·dsimp only at g1 g2 g3
    subst g1
    exact ⟨_,rfl,.ready,none,_,rfl,by decide,v,hs,by rw [List.take_length],rfl,g2,g3⟩
   ·exact h.elim
 ·rintro l2 rec Dm pend B' ⟨v,hs,rfl,rfl,g2,g3⟩
  show TX env _ _ _ _ _ _
  refine TX.im (dfrl_nil _) ?_
  refine TX.im (dfrl_push (D:=Dm) (Ds:=[]) fitA) ?_
  repeat' first|(refine wo ?_;first|refine oa ?_|refine ld ?_)|refine sq ?_|refine rg ?_|refine xc ?_|refine nl ?_|refine rt ?_|refine xb ?_
  exact mt1 (Ds:=[Dm]) ⟨hs,g2,g3,rfl⟩
theorem mfold_tr (f:FuncId) (cap:Array Value) (U:Ch) [Lent U] (qs:List Rat) (hS:SeqR Tryz.prog f cap U qs) (s:Rat) (v1 v2:Value) (h1:v1.oneCell' = true) (h2:v2.oneCell' = true) (hF:∀ i,i < qs.length→FB (qs.getD i 0) 8589934592) (hP:∀ i,i ≤ qs.length→FB ((qs.take i).foldl (fun a q=>q + a) s) 8589934592) :
  Tr Tryz.prog 101 [.func (.func f) #[] cap,rv s v1 v2,.func (.func 100) #[] #[]] [U] [own T64 v1 (Us (dg s.num.natAbs)),own T64 v2 (Us (dg s.den))] (FQ (qs.foldl (fun a q=>q + a) s)):=by
 obtain ⟨acc,hacc⟩ : ∃ acc:Nat→Rat,acc = fun i=>(qs.take i).foldl (fun a q=>q + a) s:=⟨_,rfl⟩
 have ha0:acc 0 = s:=by rw [hacc];rfl
 have haN:acc qs.length = qs.foldl (fun a q=>q + a) s:=by rw [hacc];simp
 have hst:∀ i,i < qs.length→qs.getD i 0 + acc i = acc (i + 1):=fun i hi=>by rw [hacc];exact (foldl_take (fun a q=>q + a) s hi 0).symm
 have hPa:∀ i,i ≤ qs.length→FB (acc i) 8589934592:=fun i hi=>by rw [hacc];exact hP i hi
 rw [← haN,← ha0]
 clear hacc ha0 haN hP
 have hrun:=@SeqR.run _ _ _ _ _ hS
 clear hS
 obtain ⟨M,hM⟩ : ∃ M,M = qs.length:=⟨_,rfl⟩
 unfold FQ
 refine Tr.enterM env _ Tryz.func101 (by kernel_rfl) rfl Tryz.ntmps101 rfl (by repeat (first | exact has00 | refine has01 ?_)) fun w0=>?_
 repeat' first|refine bx fun c5=>?_|refine al fun c6=>?_|(refine wo ?_;first|refine oa ?_)|refine sq ?_|refine rg ?_|refine xc ?_|refine nl ?_|refine bk ?_
 rename_i c4
 refine TC.range [lpt c5 [.func (.func 100) #[] #[]] TF5,U] [pt c4 (rrow (acc 0) (v1,v2)) TRt,own T64 v1 (Us (dg (acc 0).num.natAbs)),own T64 v2 (Us (dg (acc 0).den))] (fun l2 rec Dm pend B'=>∃ vn vd,B' = [dfr Dm,pt c4 (rrow (acc M) (vn,vd)) TRt,own T64 vn (Us (dg (acc M).num.natAbs)),own T64 vd (Us (dg (acc M).den))]∧pend = none∧vn.oneCell' = true∧vd.oneCell' = true) ?_ ?_ (hp:=has1 hasA (has1 (has_mem memA) has0))
 ·intro rec l2 Dm hr
  refine Tr.unb (hrun (α:=FoS) (lpt c5 [.func (.func 100) #[] #[]] TF5) l2 (fun g=>bnd [lrc l2 rec .ready none,dfr Dm,pt c4 (rrow (acc g.i) (g.vn,g.vd)) TRt,own T64 g.vn (Us (dg (acc g.i).num.natAbs)),own T64 g.vd (Us (dg (acc g.i).den))]) (fun g i=>g.i = i∧g.vn.oneCell' = true∧g.vd.oneCell' = true) (fun _=>False) ⟨0,v1,v2⟩ ⟨rfl,h1,h2⟩ (fun p=>bnd_nob (by repeat (first | exact nb0 | refine nb1 ?_))) ?_) ?_
  ·rintro ⟨i,vn,vd⟩ j x1 x2 hx1 hx2 ⟨hji,hvn,hvd⟩ hj
   dsimp only at hji hvn hvd
   subst hji
   have hFj:=hF i hj
   have hPj:=hPa i (by omega)
   have hsj:=hst i hj
   have hA:=fun uv=>add1_tr (acc i) (qs.getD i 0) vn vd x1 x2 uv hvn hvd hx1 hx2 hPj hFj
   unfold FQ at hA
   rw [hsj] at hA
   clear hF hPa hst hrun hFj hPj hsj
   obtain ⟨q,hq⟩ : ∃ q,q = qs.getD i 0:=⟨_,rfl⟩
   rw [← hq] at hA ⊢
   refine Ty.bndL (K:=[own T64 x1 (Us (dg q.num.natAbs)),own T64 x2 (Us (dg q.den))]) (C:=[lrc l2 rec .ready none,dfr Dm,pt c4 (rrow (acc i) (vn,vd)) TRt,own T64 vn (Us (dg (acc i).num.natAbs)),own T64 vd (Us (dg (acc i).den))]) ?_
   refine Ty.intro env hr (by repeat (first | exact has00 | refine has01 ?_)) fun w1=>?_
   repeat' first|refine al fun c7=>?_|refine xbeg ?_|refine lda (cs:=rrow (acc i) (vn,vd)) ?_|refine lda (cs:=rrow q (x1,x2)) ?_|refine slws (sz:=3) (xs:=rrow q (x1,x2)) fun g2=>?_|refine srz ?_ (hj:=Nat.le_of_ble_eq_true rfl)|(refine cav (cap:=#[]) (vs:=[rv (acc i) vn vd,.slice (some ⟨g2,0,none⟩) 1 1]) (hA (.slice (some ⟨g2,0,none⟩) 1 1)) ?_;rintro _ _ ⟨n1,n2,rfl,hn1,hn2,rfl⟩)|(refine wo ?_;first|refine ldl ?_)|refine rg ?_|refine nl ?_|refine bk ?_|refine xb ?_
   exact yn ⟨⟨i + 1,n1,n2⟩,rfl,.inl ⟨rfl,rfl,hn1,hn2⟩⟩
  ·rintro _ _ ⟨⟨i,vn,vd⟩,rfl,⟨rfl,g2,g3⟩ | h⟩
   ·exact ⟨_,rfl,.ready,none,_,rfl,by decide,vn,vd,by rw [hM],rfl,g2,g3⟩
   ·exact h.elim
 ·rintro l2 rec Dm pend B' ⟨vn,vd,rfl,rfl,g2,g3⟩
  show TX env _ _ _ _ _ _
  refine TX.im (dfrl_nil _) ?_
  refine TX.im (dfrl_push (D:=Dm) (Ds:=[]) fitA) ?_
  rw [← hM]
  generalize acc M = q at *
  repeat' first|refine lda (cs:=rrow q (vn,vd)) ?_|refine srz ?_ (hj:=Nat.le_of_ble_eq_true rfl)|refine sq ?_|refine rg ?_|refine xc ?_|refine nl ?_|refine rt ?_|refine xb ?_
  exact mca1 (Ds:=[Dm]) (cs:=rrow q (vn,vd)) (vs:=rrow q (vn,vd)) (T:=TRt) ⟨vn,vd,rfl,g2,g3,rfl⟩
end Go.Art
set_option maxRecDepth 4000
namespace Go.Art
open Go Go.Proofs Go.RowKit
attribute [local irreducible] Fit pt own ro vw mpc lpt vels rels mow lrc dfr
attribute [local irreducible] lmp lme mit
abbrev Bs (l:List Bool):List Value:=l.map .bool
section
variable {P:Program} {E:Env P} {n:Sh} {X:Cx} {s:List K} {fr:Fr} {A A':List Ch} {ops:Array Oper} {rest:List Oper} {d:Nat} {ty t el:TypeId} {pos:String} {after:Array Edge} {v z:Value} {x y:Operand} {by_:Nat}
end
def unk (kb:List Bool) (l:List Int):List Int:=l.filter fun x=>!kb.getD x.toNat false
def lastL (kb:List Bool) (l:List Int):Int:=match unk kb l with
 | [x]=>x
 | _=>-1
def falses (kb:List Bool):Nat:=kb.countP (fun b=>!b)
structure ClI (k:Int) (ls:List (List Int)) (kb:List Bool):Prop where
 len:kb.length = k.toNat
 kn:∀ x,0 ≤ x→x < k→kb.getD x.toNat false = true→Kn ls x
structure ClG where
 i:Nat
 kb:List Bool
 more:Bool
end Go.Art
namespace Go.Art
open Go Go.Proofs Go.RowKit
structure RuG2 where
 r:Nat
 o:Value
attribute [local irreducible] Fit pt own ro vw mpc lpt vels rels mow lrc dfr
attribute [local irreducible] lmp lme mit velg relg bnd owl
end Go.Art
namespace Go.Art
open Go Go.Proofs Go.RowKit
abbrev wts (L:List (List Int × Nat)):List (List Int):=L.map fun s=>Zs (dg s.2)
structure MsG where
 i:Nat
 o:Value
attribute [local irreducible] Fit pt own ro vw mpc lpt vels rels mow lrc dfr
attribute [local irreducible] lmp lme mit velg relg bnd owl natG
end Go.Art
namespace Go.Art
open Go Go.Proofs Go.RowKit
structure CoG where
 i:Nat
 ov:Value
 hs:List Value
 ls:List (List Int)
structure CiG where
 q:Nat
 hs:List Value
 ls:List (List Int)
structure CwG where
 i:Nat
 v:Value
attribute [local irreducible] Fit pt own ro vw mpc lpt vels rels mow lrc dfr
attribute [local irreducible] lmp lme mit velg relg bnd owl natG setP szL solE risR
end Go.Art
namespace Go.Art
open Go
structure RaI (t:List Int) (all:Int) (u:AlS) (dn:List Bool):Prop where
 ld:dn.length = t.length
 dr:∀ c:Nat,c < t.length→dn.getD c false = true→u.rest.getD c 0 < all
 B:∀ c:Nat,c < t.length→((c:Int) ∈ u.B ↔ dn.getD c false = false∧u.rest.getD c 0 < all)
 A:∀ c:Nat,c < t.length→((c:Int) ∈ u.A ↔ all < u.rest.getD c 0)
 sB:u.B.Pairwise (· ≤ ·)
 sA:u.A.Pairwise (· ≤ ·)
open Go Go.Proofs Go.RowKit
section
variable {P:Program} {E:Env P} {n:Sh} {X:Cx} {s:List K} {fr:Fr} {A A':List Ch} {ops:Array Oper} {rest:List Oper} {d:Nat} {ty t el:TypeId} {pos:String} {after:Array Edge} {v z:Value} {x y:Operand} {by_:Nat}
end
attribute [local irreducible] Fit pt own ro vw mpc lpt vels rels mow lrc dfr
attribute [local irreducible] lmp lme mit velg relg
structure RmG where
 u:AlS
 dn:List Bool
 i:Nat
end Go.Art
namespace Go.Art
open Go Go.Proofs Go.RowKit
structure RvG where
 i:Nat
 v1:Value
 v2:Value
 ss:List Value
 gs:List Value
attribute [local irreducible] Fit pt own ro vw mpc lpt vels rels mow lrc dfr
attribute [local irreducible] lmp lme mit velg relg bnd owl natG setP szL solE risR
end Go.Art
namespace Go.Art
open Go Go.Proofs Go.RowKit
attribute [local irreducible] Fit pt own ro vw mpc lpt vels rels mow lrc dfr
attribute [local irreducible] lmp lme mit velg relg bnd owl dfrl
end Go.Art
namespace Go.Art
open Go Go.Proofs Go.RowKit
attribute [local irreducible] Fit pt own ro vw mpc lpt vels rels mow lrc dfr
attribute [local irreducible] lmp lme mit velg relg
theorem SameRatioT_tr (t:Fr3) (n1 d1 n2 d2:Value):Tr Tryz.prog 22 [.agg #[.bool t.1,n1,d1],.agg #[.bool t.1,n2,d2]] [vw n1 (Us t.2.1),vw d1 (Us t.2.2),vw n2 (Us t.2.1),vw d2 (Us t.2.2)] []
  fun v D=>v = .bool true∧D = []:=(SameRatio_tr t t n1 d1 n2 d2).mono fun v D h=>by rw [decide_eq_true rfl] at h;exact h
end Go.Art
namespace Go.Art
open Go Go.Proofs Go.RowKit
attribute [local irreducible] Fit pt own ro vw mpc lpt vels rels mow lrc dfr
attribute [local irreducible] lmp lme mit velg relg bnd owl dfrl massW setsW massD
end Go.Art
namespace Go.Art
open Go Go.Proofs Go.RowKit
def setA (k a:Nat):List Int:=(belowI k).filter fun s=>Nat.beq (a / 2 ^ s.toNat % 2) 1
def chkP (k:Nat):Bool:=(List.range (k + 1)).all fun d=>(risR d 0 k).isPerm (((List.range (2 ^ k)).filter fun a=>Nat.beq (popK k a) d).map (setA k))
def chkO (k:Nat):Bool:=(List.range (k + 1)).all fun d=>(endsL d k []).all fun js=>(ordF 0 (upto k) js).isPerm (setA k (msk (ordF 0 (upto k) js))) && Nat.beq (popK k (msk (ordF 0 (upto k) js))) d
open Go Go.Proofs Go.RowKit
def smlT (m:Int) (tbl:List Int) (k:Nat):List Int:=(tbl.take k).map fun x=>pick x m
theorem smlT_zero (m:Int) (tbl:List Int):smlT m tbl 0 = []:=rfl
theorem smlT_succ {m:Int} {tbl:List Int} {i:Nat} (h:i < tbl.length):smlT m tbl (i + 1) = smlT m tbl i ++ [pick (tbl.getD i 0) m]:=by
 unfold smlT;rw [take_succ' h 0,List.map_append];rfl
theorem smlT_len (m:Int) (tbl:List Int) (k:Nat):(smlT m tbl k).length = min k tbl.length:=by unfold smlT;simp
theorem smlT_min (m:Int) (tbl:List Int) (k:Nat):smlT m tbl (min k tbl.length) = smlT m tbl k:=by
 unfold smlT
 congr 1
 rcases Nat.le_total k tbl.length with h | h
 ·rw [Nat.min_eq_left h]
 ·rw [Nat.min_eq_right h,List.take_length,List.take_of_length_le h]
theorem pickM_in {x m:Int} (h:1 ≤ m):0 ≤ pick x m∧pick x m < m:=by
 unfold pick
 rw [if_neg (by omega)]
 exact ⟨Int.emod_nonneg _ (by omega),Int.emod_lt_of_pos _ (by omega)⟩
attribute [local irreducible] Fit pt own ro vw mpc lpt vels rels mow lrc dfr
attribute [local irreducible] lmp lme mit velg relg bnd owl dfrl massW setsW massD smlT solE
end Go.Art
namespace Go.Art
open Go Go.Proofs Go.RowKit
theorem sub_le {a b D E:Nat} (hD:D ≠ 0) (hE:E ≠ 0) (h:a * E ≤ b * D):(mkRat (a:Int) D - mkRat (b:Int) E).num.sign ≤ 0:=by
 rw [mk_subS a b hD hE]
 have h1:(a:Int) * E ≤ b * D:=by exact_mod_cast h
 rcases Int.lt_or_eq_of_le h1 with h2 | h2
 ·rw [Int.sign_eq_neg_one_of_neg (by omega)];decide
 ·rw [h2,Int.sub_self];decide
structure MwG where
 i:Nat
attribute [local irreducible] Fit pt own ro vw mpc lpt vels rels mow lrc dfr
attribute [local irreducible] lmp lme mit velg relg bnd owl dfrl massW setsW massD smlT solE natG itemS oneS
end Go.Art
namespace Go.Art
open Go Go.Proofs Go.RowKit
theorem failQ_eq {t:List Int} {k:Nat} (hz:solE t k = 0) (n:Nat):failQ t k n = mkRat ((natG (failW k) (itemS t k) n [] 1:Nat):Int) (oneS t k ^ n):=by
 unfold failQ
 rw [ripple_fail hz,Rat.mkRat_eq_div]
 generalize natG (failW k) (itemS t k) n [] 1 = a
 push_cast
 rfl
attribute [local irreducible] Fit pt own ro vw mpc lpt vels rels mow lrc dfr
attribute [local irreducible] lmp lme mit velg relg bnd owl dfrl massW setsW massD smlT solE failV failQ stL
theorem len3 {l:List HV} (h:l.length = 3):∃ a b c,l = [a,b,c]:=by
 match l,h with
 | [a,b,c],_=>exact ⟨a,b,c,rfl⟩
end Go.Art
namespace Go.Art
open Go Go.Proofs Go.RowKit
def meanQ (t:List Int) (k e:Nat):Rat:=(curL t k e).foldl (fun a q=>q + a) 0
theorem failQ_nat {t:List Int} {k:Nat} (hz:solE t k = 0) (n:Nat):∃ a,a ≤ oneS t k ^ n∧failQ t k n = (a:Rat) / ((oneS t k ^ n:Nat):Rat):=by
 obtain ⟨a,h1,h2⟩:=part_nat hz n k (Nat.le_refl k)
 exact ⟨a,h1,h2⟩
theorem failQ_up {t:List Int} {k:Nat} (hz:solE t k = 0) {n N:Nat} (h:n ≤ N):∃ a,a ≤ oneS t k ^ N∧failQ t k n = (a:Rat) / ((oneS t k ^ N:Nat):Rat):=by
 obtain ⟨a,h1,h2⟩:=failQ_nat hz n
 have h0:=Nat.pos_of_ne_zero (oneS_pos hz)
 obtain ⟨m,rfl⟩:=Nat.exists_eq_add_of_le h
 refine ⟨a * oneS t k ^ m,by rw [Nat.pow_add];exact Nat.mul_le_mul_right _ h1,?_⟩
 rw [h2,Nat.pow_add]
 have e1:=nz (Nat.ne_of_gt (Nat.pow_pos (n:=n) h0))
 have e2:=nz (Nat.ne_of_gt (Nat.pow_pos (n:=m) h0))
 rw [Rat.natCast_mul,Rat.natCast_mul]
 generalize ((oneS t k ^ n:Nat):Rat) = x at *
 generalize ((oneS t k ^ m:Nat):Rat) = y at *
 grind
theorem mean_nat {t:List Int} {k e:Nat} (hz:solE t k = 0) (he:e ≤ 13):∀ j,j ≤ e→∃ a,a ≤ j * oneS t k ^ 12∧((curL t k e).take j).foldl (fun a q=>q + a) 0 = (a:Rat) / ((oneS t k ^ 12:Nat):Rat)
 | 0,_=>⟨0,Nat.zero_le _,by rw [List.take_zero];show (0:Rat) = _;rw [show ((0:Nat):Rat) = 0 from rfl];grind⟩
 | j + 1,hj=>by
  obtain ⟨a,h1,h2⟩:=mean_nat hz he j (by omega)
  obtain ⟨b,h3,h4⟩:=failQ_up hz (n:=j) (N:=12) (by omega)
  refine ⟨b + a,by rw [Nat.succ_mul];omega,?_⟩
  rw [foldl_take (fun a q=>q + a) 0 (by rw [curL_len];omega) 0,h2,curL_get (by omega),h4,Rat.natCast_add]
  generalize ((oneS t k ^ 12:Nat):Rat) = x
  grind
theorem mean_FB {t:List Int} {k e j:Nat} (hz:solE t k = 0) (hk:k ≤ 40) (hl:t.length ≤ 12) (he:e ≤ 13) (hj:j ≤ e):FB (((curL t k e).take j).foldl (fun a q=>q + a) 0) 8589934592:=by
 obtain ⟨a,ha,hq⟩:=mean_nat hz he j hj
 rw [hq]
 have h1:=oneS_lt hz hk hl
 have h2:oneS t k ^ 12 < 18446744073709551616 ^ 121:=by
  refine Nat.lt_of_le_of_lt (Nat.pow_le_pow_left (Nat.le_of_lt h1) 12) ?_
  rw [← Nat.pow_mul]
  exact Nat.pow_lt_pow_right (by decide) (by decide)
 have h3:a < 18446744073709551616 ^ 122:=by
  rw [show (122:Nat) = 121 + 1 from rfl,Nat.pow_succ]
  have:=Nat.mul_le_mul_right (oneS t k ^ 12) (show j ≤ 13 by omega)
  omega
 exact (FB_nat (B:=122) (Nat.ne_of_gt (Nat.pow_pos (Nat.pos_of_ne_zero (oneS_pos hz)))) h3 (Nat.lt_trans h2 (Nat.pow_lt_pow_right (by decide) (by decide)))).le (by decide)
theorem failQ_FBc {t:List Int} {k n:Nat} (hz:solE t k = 0) (hk:k ≤ 40) (hl:t.length ≤ 12) (hn:n ≤ 12):FB (failQ t k n) 8589934592:=part_FB hz hk hl hn (Nat.le_refl k)
attribute [local irreducible] Fit pt own ro vw mpc lpt vels rels mow lrc dfr
attribute [local irreducible] lmp lme mit velg relg bnd owl dfrl gow shB grB
theorem Curve_err (tv:Value) (t:List Int) (k n:Int) (h:ripE t k n ≠ 0):Tr Tryz.prog 45 [tv,I k,I n] [vw tv (Is t)] [] fun u D=>u = tup2 nS (I (ripE t k n))∧D = []:=by
 have hR:=curefuses_tr tv t k n
 generalize ripE t k n = e at *
 refine Tr.enter env _ Tryz.func45 (by kernel_rfl) rfl Tryz.ntmps45 rfl (by repeat (first | exact has00 | refine has01 ?_)) fun w0=>?_
 repeat' first|(refine gca ?_;first|(refine ca hR ?_;rintro _ _ ⟨rfl,rfl⟩))|(refine wo ?_;first|(refine ao ?_;first|refine oa ?_)|refine oa ?_)|(refine gc ?_;first|(refine cn (fun hB=>?_) (fun hB=>?_) <;> try (exfalso;omega)))|refine sq ?_|refine rg ?_|refine xc ?_|refine nl ?_|refine rt ?_
 exact r2 ⟨rfl,rfl⟩
theorem Curve_ok (tv:Value) (htv:tv.oneCell' = true) (t:List Int) (k n:Nat) (hz:solE t k = 0) (hk:k ≤ 40) (hl:t.length ≤ 12) (hn:n ≤ 12):Tr Tryz.prog 45 [tv,I k,I n] [vw tv (Is t)] []
  fun u D=>∃ v hs,u = tup2 v (I 0)∧v.oneCell' = true∧hs.length = n + 1∧D = [oww TRt 3 v (n + 1) (rcs (curL t k (n + 1)) hs),ofr hs (curL t k (n + 1))]:=by
 have hk1:=(solE_zero hz).1
 have hR:=curefuses_tr tv t k n
 rw [show ripE t k n = 0 by unfold ripE;rw [if_neg (by omega)];exact hz] at hR
 have hP:=points_tr tv htv (k:Int) ((n + 1:Nat):Int)
 have hL:=fun p1 p2 p3=>lfold_tr _ _ _ _ (points1_seq p1 p2 p3 tv htv t k (n + 1) hz hk hl (by omega)) (by rw [curL_len];omega)
 have hcl:=curL_len t k (n + 1)
 have hn1:(n:Int) + 1 = ((n + 1:Nat):Int):=rfl
 clear hz
 generalize curL t k (n + 1) = L at *
 rw [hcl] at hL
 refine Tr.enter env _ Tryz.func45 (by kernel_rfl) rfl Tryz.ntmps45 rfl (by repeat (first | exact has00 | refine has01 ?_)) fun w0=>?_
 repeat' first|(refine gca ?_;first|(refine ca hR ?_;rintro _ _ ⟨rfl,rfl⟩)|(refine ca hP ?_;rintro _ _ ⟨p1,p2,p3,rfl,rfl⟩)|(refine ca (hL p1 p2 p3) ?_ (hp:=has1 (lbd_of (has1 hasA (has1 hasA (has1 hasA (has1 hasA has0))))) has0);rintro v _ ⟨hs,hv,hhs,rfl⟩))|(refine aw (m:=(n:Int) + 1) ?_;rw [hn1])|(refine wo ?_;first|(refine ao ?_;first|refine oa ?_)|refine oa ?_)|(refine gc ?_;first|refine cf ?_)|refine sq ?_|refine rg ?_|refine xc ?_|refine nl ?_|refine sk ?_|refine rt ?_
 exact r2 ⟨v,hs,rfl,hv,hhs,rfl⟩
theorem Mean_ok (tv:Value) (htv:tv.oneCell' = true) (t:List Int) (k n:Nat) (hz:solE t k = 0) (hk:k ≤ 40) (hl:t.length ≤ 12) (hn:n ≤ 12):Tr Tryz.prog 47 [tv,I k,I n] [vw tv (Is t)] [] (FQ2 (meanQ t k n) 0):=by
 have hk1:=(solE_zero hz).1
 have hR:=curefuses_tr tv t k n
 rw [show ripE t k n = 0 by unfold ripE;rw [if_neg (by omega)];exact hz] at hR
 have hP:=points_tr tv htv (k:Int) (n:Int)
 have hL:=fun p1 p2 p3 v1 v2 h1 h2=>mfold_tr _ _ _ _ (points1_seq p1 p2 p3 tv htv t k n hz hk hl (by omega)) 0 v1 v2 h1 h2 (fun i hi=>by rw [curL_len] at hi;rw [curL_get hi];exact failQ_FBc hz hk hl (by omega)) (fun i hi=>by rw [curL_len] at hi;exact mean_FB hz hk hl (by omega) hi)
 have hA0:=FAdd0_tr
 clear hz
 unfold meanQ
 generalize (curL t k n).foldl (fun a q=>q + a) 0 = p at *
 unfold FQ2 at hA0 ⊢
 unfold FQ at hL
 refine Tr.enter env _ Tryz.func47 (by kernel_rfl) rfl Tryz.ntmps47 rfl (by repeat (first | exact has00 | refine has01 ?_)) fun w0=>?_
 repeat' first|(refine gca ?_;first|(refine ca hR ?_;rintro _ _ ⟨rfl,rfl⟩)|(refine ca hA0 ?_;rintro _ _ ⟨a0,b0,rfl,ha0,hb0,rfl⟩))|refine al fun c=>?_|refine srz ?_|(refine wo ?_;first|(refine ao ?_;first|refine oa ?_)|refine oa ?_)|(refine gc ?_;first|refine cf ?_)|refine sq ?_|refine rg ?_|refine xc ?_|refine nl ?_|refine sk ?_
 rename_i c6
 have z0:rrow (0:Rat) (a0,b0) = [.bool (decide ((0:Rat).num < 0)),a0,b0]:=rfl
 refine rs (fun w'=>w'.heap[c]? = some (.cells (rrow (0:Rat) (a0,b0)).toArray TRt (0,0))) ?_ (fun w' hw=>pt_at memA hw)
 refine kra 0 ?_
 refine kra 1 ?_
 refine kra 2 ?_
 refine kr 4 (v:=.agg (rrow (0:Rat) (a0,b0)).toArray) (fun w' h=>R_loadA (E:=env) (vs:=rrow (0:Rat) (a0,b0)) rfl rfl rfl rfl h rfl rfl) ?_
 refine kra 5 ?_
 refine t1 3 ?_
 refine ca hP ?_
 rintro _ _ ⟨p1,p2,p3,rfl,rfl⟩
 refine nl ?_
 refine te (fun w' hw=>pt_at memA hw) ?_
 refine t1 6 ?_
 refine ca (hL p1 p2 p3 a0 b0 ha0 hb0) ?_ (hp:=has1 (lbd_of (has1 hasA (has1 hasA (has1 hasA (has1 hasA has0))))) has0)
 rintro _ _ ⟨m1,m2,rfl,hm1,hm2,rfl⟩
 refine nl ?_
 refine te (fun w' hw=>pt_at memA hw) ?_
 refine t1 7 ?_
 refine srz ?_ (hj:=Nat.le_of_ble_eq_true rfl)
 refine nl ?_
 refine te (fun w' hw=>pt_at memA hw) ?_
 refine t1 8 ?_
 refine oa ?_
 refine nl ?_
 refine te (fun w' hw=>pt_at memA hw) ?_
 refine t0 ?_
 repeat' first|refine xc ?_|refine rt ?_
 exact rca (cs:=[.bool (decide (p.num < 0)),m1,m2]) (vs:=[.bool (decide (p.num < 0)),m1,m2]) (T:=TRt) ⟨m1,m2,rfl,hm1,hm2,rfl⟩
end Go.Art
namespace Go.Art
open Go Go.Proofs Go.RowKit
section
variable {P:Program} {E:Env P} {n:Sh} {fr:Fr} {w:World}
theorem res_cac {fn:Func} {a:Act} (ha:Holds n a fr) {t u v:Nat} {ty1 ty2 ty3 T:TypeId} {d1 dt d3:TypeDesc} {z:Value} {sz by_ b:Nat} {cs vs:List Value} {a1 a3:Addr} {v1 v3:Value} (hr:fn.results = #[.cell t ty1,.cell u ty2,.cell v ty3])
  (ht1:lk E.und ty1 = some d1) (hg1:aggB d1 = false) (h1:get fr t = some (.pointer (some a1))) (hc1:w.cell? a1 = some v1) (ht:lk E.und ty2 = some dt) (hg:aggB dt = true) (hi:lk E.inf ty2 = some (z,sz,by_)) (h2:get fr u = some (ptr b))
  (hb:w.heap[b]? = some (.cells cs.toArray T (0,0))) (hv:cs.take sz = vs) (hl:vs.length = sz) (ht3:lk E.und ty3 = some d3) (hg3:aggB d3 = false) (h3:get fr v = some (.pointer (some a3))) (hc3:w.cell? a3 = some v3):(results fn a.tmps).run P w = .ok (.tuple #[v1,.agg vs.toArray,v3]) w:=by
 obtain ⟨inf,g1,_,g2,_⟩:=E.info hi
 have h5:=run_loadCells_list (P:=P) w ⟨b,0,none⟩ vs (fun m u hm=>by
  rw [Addr.add_lit]
  refine blk_cell hb ?_
  rw [← hv,List.getElem?_take] at hm
  split at hm
  ·simpa using hm
  ·cases hm)
 rw [hl] at h5
 have e1:a.tmps[t]?.getD undef = .pointer (some a1):=by have:=ha.slot t _ h1;simpa using this
 have e2:a.tmps[u]?.getD undef = ptr b:=by have:=ha.slot u _ h2;simpa using this
 have e3:a.tmps[v]?.getD undef = .pointer (some a3):=by have:=ha.slot v _ h3;simpa using this
 simp only [results,hr]
 simp [e1,e2,e3,asAddr,loadVar,aggB_t (w:=w) ht hg,sizeOf,typeInfo,g1,g2,h5,aggB_run (w:=w) ht1 hg1,hc1,aggB_run (w:=w) ht3 hg3,hc3]
variable {A A' D G:List Ch} {m:Nat}
theorem rcac {w0:World} {A0:List Ch} {R':Value→List Ch→Prop} {fn:Func} {t u v nn:Nat} {ty1 ty2 ty3 T T1 T3:TypeId} {d1 dt d3:TypeDesc} {z:Value} {sz by_ b1 b b3:Nat} {c1 cs c3 vs:List Value} {v1 v3:Value} (h:R' (.tuple #[v1,.agg vs.toArray,v3]) D)
  (hr:fn.results = #[.cell t ty1,.cell u ty2,.cell v ty3]:=by rfl) (ht1:lk E.und ty1 = some d1:=by rfl) (hg1:aggB d1 = false:=by rfl) (h1:get fr t = some (ptr b1):=by rfl) (m1:pt b1 c1 T1 ∈ A:=by exact memA) (hc1:c1[0]? = some v1:=by rfl)
  (ht:lk E.und ty2 = some dt:=by rfl) (hg:aggB dt = true:=by rfl) (hi:lk E.inf ty2 = some (z,sz,by_):=by rfl) (h2:get fr u = some (ptr b):=by rfl) (m2:pt b cs T ∈ A:=by exact memA) (hv:cs.take sz = vs:=by rfl) (hl:vs.length = sz:=by rfl)
  (ht3:lk E.und ty3 = some d3:=by rfl) (hg3:aggB d3 = false:=by rfl) (h3:get fr v = some (ptr b3):=by rfl) (m3:pt b3 c3 T3 ∈ A:=by exact memA) (hc3:c3[0]? = some v3:=by rfl) (hf:Fit A D G:=by exact fitA) (nb:∀ c ∈ D,∀ b,¬ c.bd b:=by (repeat (first | exact nb0 | refine nb1 ?_));first | done | fail) :
  TX E ⟨nn,[],none⟩ ⟨bodyPost P fn (RetP (PR w0 A0 R')),w0,A0⟩ [] .ret fr A:=⟨fun w hw=>⟨fun a ha=>
 bodyPost_ret (res_cac (E:=E) ha hr ht1 hg1 h1 (ptcell hw.sat m1 hc1) ht hg hi h2 (pt_at m2 hw.sat) hv hl ht3 hg3 h3 (ptcell hw.sat m3 hc3)) (ha.defers.trans rfl) ⟨_,rfl,PR.mk h hw hf nb⟩⟩⟩
theorem mcac {Ds:List Nat} {w0:World} {A0:List Ch} {R':Value→List Ch→Prop} {fn:Func} {t u v:Nat} {ty1 ty2 ty3 T T1 T3:TypeId} {d1 dt d3:TypeDesc} {z:Value} {sz by_ b1 b b3:Nat} {c1 cs c3 vs:List Value} {v1 v3:Value} (h:R' (.tuple #[v1,.agg vs.toArray,v3]) D)
  (hr:fn.results = #[.cell t ty1,.cell u ty2,.cell v ty3]:=by rfl) (ht1:lk E.und ty1 = some d1:=by rfl) (hg1:aggB d1 = false:=by rfl) (h1:get fr t = some (ptr b1):=by rfl) (hm:Tk (dfrl Ds) A A':=by exact tkA) (m1:pt b1 c1 T1 ∈ A':=by exact memA) (hc1:c1[0]? = some v1:=by rfl)
  (ht:lk E.und ty2 = some dt:=by rfl) (hg:aggB dt = true:=by rfl) (hi:lk E.inf ty2 = some (z,sz,by_):=by rfl) (h2:get fr u = some (ptr b):=by rfl) (m2:pt b cs T ∈ A':=by exact memA) (hv:cs.take sz = vs:=by rfl) (hl:vs.length = sz:=by rfl)
  (ht3:lk E.und ty3 = some d3:=by rfl) (hg3:aggB d3 = false:=by rfl) (h3:get fr v = some (ptr b3):=by rfl) (m3:pt b3 c3 T3 ∈ A':=by exact memA) (hc3:c3[0]? = some v3:=by rfl) (hf:Fit A' D G:=by exact fitA) (nb:∀ c ∈ D,∀ b,¬ c.bd b:=by (repeat (first | exact nb0 | refine nb1 ?_));first | done | fail) (hn:n = ⟨m,marks Ds,none⟩:=by rfl) :
  TX E n ⟨bodyPostM (FF none) 0 P fn (RetP (PR w0 A0 R')),w0,A0⟩ [] .ret fr A:=by
 subst hn
 exact mG (.inl rfl) h (fun w hw a ha=>res_cac (E:=E) ha hr ht1 hg1 h1 (ptcell hw m1 hc1) ht hg hi h2 (pt_at m2 hw) hv hl ht3 hg3 h3 (ptcell hw m3 hc3)) hm hf nb
end
theorem cmp_dg {q r:Rat} {B C:Nat} (hq:FB q B) (hr:FB r C):(dg (q - r).num.natAbs).length ≤ B + C + 1:=by
 rw [Rat.sub_def',mk_abs _ (Nat.mul_ne_zero q.den_nz r.den_nz)]
 refine (dg_len _ _).2 (Nat.lt_of_le_of_lt (Nat.div_le_self _ _) ?_)
 have h1:=(dg_len _ _).1 hq.1
 have h2:=(dg_len _ _).1 hq.2
 have h3:=(dg_len _ _).1 hr.1
 have h4:=(dg_len _ _).1 hr.2
 have h5:=Int.natAbs_sub_le (q.num * r.den) (r.num * q.den)
 rw [Int.natAbs_mul,Int.natAbs_mul,Int.natAbs_natCast,Int.natAbs_natCast] at h5
 have h6:q.num.natAbs * r.den < 18446744073709551616 ^ B * 18446744073709551616 ^ C:=Nat.mul_lt_mul'' h1 h4
 have h7:r.num.natAbs * q.den < 18446744073709551616 ^ C * 18446744073709551616 ^ B:=Nat.mul_lt_mul'' h3 h2
 rw [Nat.mul_comm (18446744073709551616 ^ C)] at h7
 rw [Nat.pow_succ,Nat.pow_add]
 omega
attribute [local irreducible] Fit pt own ro vw mpc lpt vels rels mow lrc dfr
attribute [local irreducible] lmp lme mit velg relg bnd owl dfrl gow shB grB
abbrev NoL (e:Int) (u:Value) (D:List Ch):Prop:=u = tup3 (I 0) rv0 (I e)∧D = []
def leastR (F:Nat→Rat) (q:Rat):Nat→Nat→Option Nat
 | _,0=>none
 | i,m + 1=>if (F i - q).num.sign ≤ 0 then some i else leastR F q (i + 1) m
theorem Least_range (tv:Value) (t:List Int) (k n:Nat) (q:Rat) (e1 e2:Value) (he1:e1.oneCell' = true) (he2:e2.oneCell' = true) (hz:solE t k = 0) (hk:k ≤ 1024) (hn:n ≤ 4096) (hq:FB q 1000) (h:¬ ((q - 1).num.sign < 0∧0 < q.num.sign)) :
  Tr Tryz.prog 43 [tv,I k,rv q e1 e2,I n] [vw tv (Is t),vw e1 (Us (dg q.num.natAbs)),vw e2 (Us (dg q.den))] [] (NoL 3):=by
 have hk1:=(solE_zero hz).1
 have hR:=curefuses_tr tv t k n
 rw [show ripE t k n = 0 by unfold ripE;rw [if_neg (by omega)];exact hz] at hR
 have hK:=FCheck_tr q e1 e2 he1 he2 (hq.le (by decide))
 have hone:=FPair_tr 1 1 (by decide) (by decide) (by decide)
 have hS:=ISign_tr q.num e1 he1 (Nat.le_trans hq.1 (by decide))
 have h1F:FB (mkRat ((1:Nat):Int) 1) 1000:=⟨Nat.le_trans (FB_mk1 (a:=1) (D:=1) (by decide) (by decide) (by decide)).1 (by decide),Nat.le_trans (FB_mk1 (a:=1) (D:=1) (by decide) (by decide) (by decide)).2 (by decide)⟩
 have hC:=fun v1 v2 v3 v4 g1 g2 g3 g4=>FCmp_tr q (mkRat ((1:Nat):Int) 1) v1 v2 v3 v4 g1 g2 g3 g4 (hq.le (by decide)) (h1F.le (by decide)) (Nat.le_trans (cmp_dg hq h1F) (by decide))
 rw [← mk_one 1 (by decide)] at h
 clear hz h1F
 generalize mkRat ((1:Nat):Int) 1 = q1 at *
 unfold FQ2 at hone
 generalize (q - q1).num.sign = s1 at *
 have hsg:q.num.sign ≤ 0 ↔ ¬ 0 < q.num.sign:=by omega
 generalize q.num.sign = s2 at *
 by_cases hs1:0 ≤ s1
 ·refine Tr.enter env _ Tryz.func43 (by kernel_rfl) rfl Tryz.ntmps43 rfl (by repeat (first | exact has00 | refine has01 ?_)) fun w0=>?_
  repeat' first|(refine gca ?_;first|(refine ca hR ?_;rintro _ _ ⟨rfl,rfl⟩)|(refine ca hK ?_;rintro _ _ ⟨rfl,rfl⟩)|(refine ca hone ?_;rintro _ _ ⟨o1,o2,rfl,ho1,ho2,rfl⟩)|(refine ca (hC e1 e2 o1 o2 he1 he2 ho1 ho2) ?_;rintro _ _ ⟨rfl,rfl⟩)|(refine ca hS ?_;rintro _ _ ⟨rfl,rfl⟩))|refine bx fun c0=>?_|refine al fun c=>?_|refine lda (vs:=[.bool (decide (q.num < 0)),e1,e2]) ?_|refine lda ?_|refine bdz ?_|refine srz ?_|(refine wo ?_;first|(refine ao ?_;first|refine oa ?_)|refine oa ?_|refine sr ?_|refine gn ?_|(refine gsi (fun hB=>?_) (fun hB=>?_) <;> try (exfalso;omega)))|(refine gc ?_;first|refine ct ?_|refine cf ?_)|refine sq ?_|refine rg ?_|refine xc ?_|refine nl ?_|refine sk ?_|refine rt ?_
  exact rcac (vs:=[.bool false,nS,nS]) ⟨rfl,rfl⟩
 ·have hs2:s2 ≤ 0:=by omega
  refine Tr.enter env _ Tryz.func43 (by kernel_rfl) rfl Tryz.ntmps43 rfl (by repeat (first | exact has00 | refine has01 ?_)) fun w0=>?_
  repeat' first|(refine gca ?_;first|(refine ca hR ?_;rintro _ _ ⟨rfl,rfl⟩)|(refine ca hK ?_;rintro _ _ ⟨rfl,rfl⟩)|(refine ca hone ?_;rintro _ _ ⟨o1,o2,rfl,ho1,ho2,rfl⟩)|(refine ca (hC e1 e2 o1 o2 he1 he2 ho1 ho2) ?_;rintro _ _ ⟨rfl,rfl⟩)|(refine ca hS ?_;rintro _ _ ⟨rfl,rfl⟩))|refine bx fun c0=>?_|refine al fun c=>?_|refine lda (vs:=[.bool (decide (q.num < 0)),e1,e2]) ?_|refine lda (vs:=[.bool (decide (q.num < 0)),e1]) ?_|refine lda ?_|refine bdz ?_|refine srz ?_|(refine wo ?_;first|(refine ao ?_;first|refine oa ?_)|refine oa ?_|refine sr ?_|refine gy ?_|(refine gsi (fun hB=>?_) (fun hB=>?_) <;> try (exfalso;omega)))|(refine gc ?_;first|refine cf ?_|(refine ci (fun hB=>?_) (fun hB=>?_) <;> try (exfalso;omega)))|refine sq ?_|refine rg ?_|refine xc ?_|refine nl ?_|refine sk ?_|refine rt ?_
  exact rcac (vs:=[.bool false,nS,nS]) ⟨rfl,rfl⟩
end Go.Art
namespace Go.Art
open Go Go.Proofs Go.RowKit
theorem least_some {F:Nat→Rat} {q:Rat} {i:Nat} (h:(F i - q).num.sign ≤ 0):∀ m s,s ≤ i→i < s + m→(∀ j,s ≤ j→j < i→¬ (F j - q).num.sign ≤ 0)→leastR F q s m = some i
 | 0,s,h1,h2,_=>by omega
 | m + 1,s,h1,h2,h3=>by
  unfold leastR
  by_cases e:s = i
  ·subst e;rw [if_pos h]
  ·rw [if_neg (h3 s (Nat.le_refl s) (by omega))]
   exact least_some h m (s + 1) (by omega) (by omega) fun j g1 g2=>h3 j (by omega) g2
theorem least_none {F:Nat→Rat} {q:Rat}:∀ m s,(∀ j,s ≤ j→j < s + m→¬ (F j - q).num.sign ≤ 0)→leastR F q s m = none
 | 0,_,_=>rfl
 | m + 1,s,h=>by
  unfold leastR
  rw [if_neg (h s (Nat.le_refl s) (by omega))]
  exact least_none m (s + 1) fun j g1 g2=>h j (by omega) (by omega)
def leastW (F:Nat→Rat) (q:Rat) (n:Nat):Int × Fr3 × Int:=match leastR F q 0 (n + 1) with
 | some i=>((i:Int),rqf (F i),0)
 | none=>(0,rqn,14)
theorem leastW_some {F:Nat→Rat} {q:Rat} {n i:Nat} (h:leastR F q 0 (n + 1) = some i):leastW F q n = ((i:Int),rqf (F i),0):=by unfold leastW;rw [h]
theorem leastW_none {F:Nat→Rat} {q:Rat} {n:Nat} (h:leastR F q 0 (n + 1) = none):leastW F q n = (0,rqn,14):=by unfold leastW;rw [h]
structure LsG where
 d:Bool
 x:Int
 f:Fr3
 e:Int
 v1:Value
 v2:Value
attribute [local irreducible] Fit pt own ro vw mpc lpt vels rels mow lrc dfr
attribute [local irreducible] lmp lme mit velg relg bnd owl dfrl gow shB grB
abbrev TEr':TypeId:=27
abbrev LW (r:Int × Fr3 × Int) (u:Value) (D:List Ch):Prop:=∃ v1 v2,u = tup3 (I r.1) (.agg #[.bool r.2.1.1,v1,v2]) (I r.2.2)∧v1.oneCell' = true∧v2.oneCell' = true∧D = [own T64 v1 (Us r.2.1.2.1),own T64 v2 (Us r.2.1.2.2)]
set_option maxHeartbeats 1000000 in
theorem Least_ok (tv:Value) (htv:tv.oneCell' = true) (t:List Int) (k n:Nat) (q:Rat) (e1 e2:Value) (he1:e1.oneCell' = true) (he2:e2.oneCell' = true) (hz:solE t k = 0) (hk:k ≤ 40) (hl:t.length ≤ 12) (hn:n ≤ 12) (hq:FB q 1000) (h:(q - 1).num.sign < 0∧0 < q.num.sign) :
  Tr Tryz.prog 43 [tv,I k,rv q e1 e2,I n] [vw tv (Is t),vw e1 (Us (dg q.num.natAbs)),vw e2 (Us (dg q.den))] [] (LW (leastW (failQ t k) q n)):=by
 have hk1:=(solE_zero hz).1
 have hR:=curefuses_tr tv t k n
 rw [show ripE t k n = 0 by unfold ripE;rw [if_neg (by omega)];exact hz] at hR
 have hK:=FCheck_tr q e1 e2 he1 he2 (hq.le (by decide))
 have hone:=FPair_tr 1 1 (by decide) (by decide) (by decide)
 have hS:=ISign_tr q.num e1 he1 (Nat.le_trans hq.1 (by decide))
 have h1F:FB (mkRat ((1:Nat):Int) 1) 1000:=⟨Nat.le_trans (FB_mk1 (a:=1) (D:=1) (by decide) (by decide) (by decide)).1 (by decide),Nat.le_trans (FB_mk1 (a:=1) (D:=1) (by decide) (by decide) (by decide)).2 (by decide)⟩
 have hC:=fun v1 v2 v3 v4 g1 g2 g3 g4=>FCmp_tr q (mkRat ((1:Nat):Int) 1) v1 v2 v3 v4 g1 g2 g3 g4 (hq.le (by decide)) (h1F.le (by decide)) (Nat.le_trans (cmp_dg hq h1F) (by decide))
 rw [← mk_one 1 (by decide)] at h
 have hP:=points_tr tv htv (k:Int) ((n + 1:Nat):Int)
 have hrunL:=fun p1 p2 p3=>@SeqR.run _ _ _ _ _ (points1_seq p1 p2 p3 tv htv t k (n + 1) hz hk hl (by omega))
 have hD:=fun i (hi:i < n + 1) v1 v2 v3 v4 g1 g2 g3 g4=>FCmp_tr (failQ t k i) q v1 v2 v3 v4 g1 g2 g3 g4 (failQ_FBc hz hk hl (by omega)) (hq.le (by decide)) (Nat.le_trans (cmp_dg (failQ_FBc hz hk hl (show i ≤ 12 by omega)) hq) (by decide))
 have hcl:=curL_len t k (n + 1)
 have hget:=fun i (hi:i < n + 1)=>curL_get (t:=t) (k:=k) hi
 have hn1:(n:Int) + 1 = ((n + 1:Nat):Int):=rfl
 clear hz h1F
 generalize mkRat ((1:Nat):Int) 1 = q1 at *
 unfold FQ2 at hone
 generalize (q - q1).num.sign = s1 at *
 generalize q.num.sign = s2 at *
 obtain ⟨hs1,hs2⟩:=h
 generalize curL t k (n + 1) = L at *
 generalize failQ t k = F at *
 refine Tr.enterM env _ Tryz.func43 (by kernel_rfl) rfl Tryz.ntmps43 rfl (by repeat (first | exact has00 | refine has01 ?_)) fun w0=>?_
 repeat' first|(refine gca ?_;first|(refine ca hR ?_;rintro _ _ ⟨rfl,rfl⟩)|(refine ca hK ?_;rintro _ _ ⟨rfl,rfl⟩)|(refine ca hone ?_;rintro _ _ ⟨o1,o2,rfl,ho1,ho2,rfl⟩)|(refine ca (hC e1 e2 o1 o2 he1 he2 ho1 ho2) ?_;rintro _ _ ⟨rfl,rfl⟩)|(refine ca hS ?_;rintro _ _ ⟨rfl,rfl⟩)|(refine ca hP ?_;rintro _ _ ⟨p1,p2,p3,rfl,rfl⟩))|refine bx fun c0=>?_|refine al fun c=>?_|refine lda (vs:=[.bool (decide (q.num < 0)),e1,e2]) ?_|refine lda (vs:=[.bool (decide (q.num < 0)),e1]) ?_|refine lda ?_|refine srz ?_|(refine aw (m:=(n:Int) + 1) ?_;rw [hn1])|(refine wo ?_;first|(refine ao ?_;first|refine oa ?_)|refine oa ?_|refine gy ?_|(refine gsi (fun hB=>?_) (fun hB=>?_) <;> try (exfalso;omega)))|(refine gc ?_;first|refine cf ?_|(refine ci (fun hB=>?_) (fun hB=>?_) <;> try (exfalso;omega)))|refine sq ?_|refine rg ?_|refine xc ?_|refine nl ?_|refine sk ?_|refine bk ?_
 rename_i c8 c9 c10 hs3
 refine TC.im (own_nil T64 _) (TC.im (own_nil T64 _) ?_)
 have hrun:=@hrunL p1 p2 p3
 clear hrunL hP hR hK hone hC hS
 refine TC.range [lbd [lpt c0 [.bool (decide (q.num < 0)),e1,e2] TRt,vw e1 (Us (dg q.num.natAbs)),vw e2 (Us (dg q.den))],lbd [lpt p1 [I ((n + 1:Nat):Int)] TLI,lpt p2 [tv] TLs,lpt p3 [I k] TLI,vw tv (Is t)]] [pt c8 [I 0] TLI,pt c9 [.bool false,nS,nS] TRt,pt c10 [I 0] TEr',own T64 nS (Us []),own T64 nS (Us [])] (fun l2 rec Dm pend B'=>∃ v1 v2,v1.oneCell' = true∧v2.oneCell' = true∧((∃ i,leastR F q 0 (n + 1) = some i∧pend = some .ret∧B' = [dfr Dm,pt c8 [I (i:Nat)] TLI,pt c9 (rrow (F i) (v1,v2)) TRt,pt c10 [I 0] TEr',own T64 v1 (Us (dg (F i).num.natAbs)),own T64 v2 (Us (dg (F i).den))])∨(leastR F q 0 (n + 1) = none∧pend = none∧B' = [dfr Dm,pt c8 [I 0] TLI,pt c9 [.bool false,v1,v2] TRt,pt c10 [I 0] TEr',own T64 v1 (Us []),own T64 v2 (Us [])]))) ?_ ?_ (hp:=has1 (lbd_of (has1 hasA (has1 hasA (has1 hasA has0)))) (has1 (lbd_of (has1 hasA (has1 hasA (has1 hasA (has1 hasA has0))))) has0))
 rotate_left
 ·rintro l2 rec Dm pend B' ⟨v1,v2,hv1,hv2,⟨i,hi,rfl,rfl⟩ | ⟨hi,rfl,rfl⟩⟩
  ·show TC env _ _ _ _ _ _
   refine TC.im (dfrl_nil _) ?_
   refine TC.im (dfrl_push (D:=Dm) (Ds:=[]) fitA) ?_
   rw [leastW_some hi]
   generalize F i = y at *
   repeat' first|refine rt ?_
   exact mcac (Ds:=[Dm]) (vs:=rrow y (v1,v2)) ⟨v1,v2,rfl,hv1,hv2,rfl⟩
  ·show TX env _ _ _ _ _ _
   refine TX.im (dfrl_nil _) ?_
   refine TX.im (dfrl_push (D:=Dm) (Ds:=[]) fitA) ?_
   rw [leastW_none hi]
   repeat' first|refine bdz ?_|refine srz ?_ (hj:=Nat.le_of_ble_eq_true rfl)|(refine wo ?_;first|refine sr ?_)|refine sq ?_|refine rg ?_|refine xc ?_|refine nl ?_|refine rt ?_|refine xb ?_
   refine TX.im (own_nil T64 _) (TX.im (own_nil T64 _) ?_)
   exact mcac (Ds:=[Dm]) (vs:=[.bool false,nS,nS]) ⟨nS,nS,rfl,rfl,rfl,rfl⟩
 intro rec l2 Dm hr
 refine Tr.unb (hrun (α:=LsG) (lbd [lpt c0 [.bool (decide (q.num < 0)),e1,e2] TRt,vw e1 (Us (dg q.num.natAbs)),vw e2 (Us (dg q.den))]) l2 (fun g=>bnd [lrc l2 rec (if g.d then .done else .ready) (if g.d then some .ret else none),dfr Dm,pt c8 [I g.x] TLI,pt c9 [.bool g.f.1,g.v1,g.v2] TRt,pt c10 [I 0] TEr',own T64 g.v1 (Us g.f.2.1),own T64 g.v2 (Us g.f.2.2)]) (fun g j=>g = ⟨false,0,rqn,0,nS,nS⟩∧∀ i,i < j→¬ (F i - q).num.sign ≤ 0) (fun g=>g.d = true∧g.v1.oneCell' = true∧g.v2.oneCell' = true∧∃ i,leastR F q 0 (n + 1) = some i∧g.x = (i:Nat)∧g.f = rqf (F i)) ⟨false,0,rqn,0,nS,nS⟩ ⟨rfl,fun i h=>absurd h (Nat.not_lt_zero i)⟩ (fun p=>bnd_nob (by repeat (first | exact nb0 | refine nb1 ?_))) ?_) ?_
 rotate_left
 ·rintro _ _ ⟨⟨d,x,f,e,v1,v2⟩,rfl,⟨h1,h2⟩ | ⟨h1,h2,h3,i,h4,h5,h6⟩⟩
  ·cases h1
   exact ⟨_,rfl,.ready,none,_,rfl,by decide,nS,nS,rfl,rfl,.inr ⟨least_none _ _ fun j _ g2=>h2 j (by rw [hcl];omega),rfl,rfl⟩⟩
  ·dsimp only at h1 h2 h3 h5 h6
   subst h1 h5 h6
   exact ⟨_,rfl,.done,some .ret,_,rfl,by decide,v1,v2,h2,h3,.inl ⟨i,h4,rfl,rfl⟩⟩
 clear hrun
 rintro g j x1 x2 hx1 hx2 ⟨rfl,hno⟩ hj
 rw [hcl] at hj
 have hDj:=hD j hj x1 x2 e1 e2 hx1 hx2 he1 he2
 have hL:=hget j hj
 rw [hL]
 clear hget hD hL
 refine Ty.bndL (K:=[own T64 x1 (Us (dg (F j).num.natAbs)),own T64 x2 (Us (dg (F j).den))]) (C:=[lrc l2 rec .ready none,dfr Dm,pt c8 [I 0] TLI,pt c9 [.bool false,nS,nS] TRt,pt c10 [I 0] TEr',own T64 nS (Us []),own T64 nS (Us [])]) ?_
 refine Ty.pre (pre:=[lpt c0 [.bool (decide (q.num < 0)),e1,e2] TRt,vw e1 (Us (dg q.num.natAbs)),vw e2 (Us (dg q.den))]) ?_ (has_lbds (C:=[lpt c0 [.bool (decide (q.num < 0)),e1,e2] TRt,vw e1 (Us (dg q.num.natAbs)),vw e2 (Us (dg q.den))]) (List.Mem.head _) _ (by repeat (first | exact has00 | refine has01 ?_)) fun c hc=>hc) (by repeat (first | exact has00 | refine has01 ?_))
 refine Ty.intro env hr (by repeat (first | exact has00 | refine has01 ?_)) fun w1=>?_
 by_cases hle:(F j - q).num.sign ≤ 0
 rotate_left
 ·have hno':∀ i,i < j + 1→¬ (F i - q).num.sign ≤ 0:=fun i hi=>by
   rcases Nat.lt_or_ge i j with g | g
   ·exact hno i g
   ·obtain rfl:i = j:=by omega
    exact hle
  clear hno
  generalize (F j - q).num.sign = sj at *
  generalize F j = y at *
  repeat' first|(refine gca ?_;first|(refine ca hDj ?_;rintro _ _ ⟨rfl,rfl⟩))|refine al fun c17=>?_|refine xbeg ?_|refine lda (cs:=rrow y (x1,x2)) ?_|refine ldla (vs:=rrow q (e1,e2)) ?_|refine srz ?_ (hj:=Nat.le_of_ble_eq_true rfl)|(refine wo ?_;first|(refine ao ?_;first|refine oa ?_)|refine oa ?_)|(refine gc ?_;first|(refine ci (fun hB=>?_) (fun hB=>?_) <;> try (exfalso;omega)))|refine sq ?_|refine rg ?_|refine xc ?_|refine nl ?_|refine sk ?_|refine bk ?_|refine xb ?_
  exact yn (D:=[lrc l2 rec .ready none,dfr Dm,pt c8 [I 0] TLI,pt c9 [.bool false,nS,nS] TRt,pt c10 [I 0] TEr',own T64 nS (Us []),own T64 nS (Us [])]) ⟨⟨false,0,rqn,0,nS,nS⟩,rfl,.inl ⟨rfl,rfl,hno'⟩⟩
 have hsm:leastR F q 0 (n + 1) = some j:=least_some hle (n + 1) 0 (Nat.zero_le _) (by omega) fun i _ hi=>hno i hi
 clear hno
 generalize (F j - q).num.sign = sj at *
 obtain ⟨y,hy⟩ : ∃ y,y = F j:=⟨_,rfl⟩
 rw [← hy] at hDj ⊢
 repeat' first|(refine gca ?_;first|(refine ca hDj ?_;rintro _ _ ⟨rfl,rfl⟩))|refine al fun c17=>?_|refine xbeg ?_|refine lda (cs:=rrow y (x1,x2)) ?_|refine ldla (vs:=rrow q (e1,e2)) ?_|refine srz ?_ (hj:=Nat.le_of_ble_eq_true rfl)|(refine wo ?_;first|(refine ao ?_;first|refine oa ?_)|refine oa ?_)|(refine gc ?_;first|(refine ci (fun hB=>?_) (fun hB=>?_) <;> try (exfalso;omega)))|refine sq ?_|refine rg ?_|refine xc ?_|refine nl ?_|refine bk ?_
 refine rs (fun _=>True) ?_ (fun _ _=>trivial)
 refine kra 0 ?_
 refine t2 1 2 ?_ ?_
 ·refine lda (vs:=rrow y (x1,x2)) ?_
  refine nl ?_
  refine te (fun _ _=>trivial) ?_
  refine t1 2 ?_
  refine sr ?_
  refine nl ?_
  refine te (fun _ _=>trivial) ?_
  refine t1 3 ?_
  refine srz ?_ (hj:=Nat.le_of_ble_eq_true rfl)
  refine nl ?_
  refine te (fun _ _=>trivial) ?_
  refine t1 4 ?_
  refine sr ?_
  refine nl ?_
  refine te (fun _ _=>trivial) ?_
  refine t0 ?_
  repeat' first|refine xc ?_|refine rt ?_
  exact yr (D:=[lrc l2 rec .done (some .ret),dfr Dm,pt c8 [I j] TLI,pt c9 (rrow y (x1,x2)) TRt,pt c10 [I 0] TEr',own T64 x1 (Us (dg y.num.natAbs)),own T64 x2 (Us (dg y.den))]) ⟨⟨true,j,rqf y,0,x1,x2⟩,rfl,.inr ⟨rfl,rfl,hx1,hx2,j,hsm,rfl,by rw [hy]⟩⟩
 ·refine sr ?_
  refine nl ?_
  refine te (fun _ _=>trivial) ?_
  refine t1 1 ?_
  refine lda (vs:=rrow y (x1,x2)) ?_
  refine nl ?_
  refine te (fun _ _=>trivial) ?_
  refine t1 3 ?_
  refine srz ?_ (hj:=Nat.le_of_ble_eq_true rfl)
  refine nl ?_
  refine te (fun _ _=>trivial) ?_
  refine t1 4 ?_
  refine sr ?_
  refine nl ?_
  refine te (fun _ _=>trivial) ?_
  refine t0 ?_
  repeat' first|refine xc ?_|refine rt ?_
  exact yr (D:=[lrc l2 rec .done (some .ret),dfr Dm,pt c8 [I j] TLI,pt c9 (rrow y (x1,x2)) TRt,pt c10 [I 0] TEr',own T64 x1 (Us (dg y.num.natAbs)),own T64 x2 (Us (dg y.den))]) ⟨⟨true,j,rqf y,0,x1,x2⟩,rfl,.inr ⟨rfl,rfl,hx1,hx2,j,hsm,rfl,by rw [hy]⟩⟩
end Go.Art
namespace Go.Art
open Go Go.Proofs Go.RowKit
theorem curL_one:curL [1,1] 2 (2 + 1) = [mkRat ((1:Nat):Int) 1,mkRat ((1:Nat):Int) 1,mkRat ((3:Nat):Int) 8]:=by decide +kernel
theorem least_one:leastW (failQ [1,1] 2) (mkRat ((1:Nat):Int) 2) 9 = (((2:Nat):Int),rqf (mkRat ((3:Nat):Int) 8),0):=by decide +kernel
theorem half_at:(mkRat ((1:Nat):Int) 2 - 1).num.sign < 0∧0 < (mkRat ((1:Nat):Int) 2).num.sign:=by decide +kernel
theorem solE_c1:solE [1,1] ((2:Nat):Int) = 0:=by decide
attribute [local irreducible] Fit pt own ro vw mpc lpt vels rels mow lrc dfr
attribute [local irreducible] lmp lme mit velg relg bnd owl dfrl massW setsW massD smlT solE failQ stL curL leastW
theorem is26_tr (t:Fr3) (n1 d1:Value) (x y:Nat) (hx:x < 9223372036854775808) (hy:y < 9223372036854775808) (hy0:y ≠ 0) (h:t = rqf (mkRat x y)):Tr Tryz.prog 49 [.agg #[.bool t.1,n1,d1],I x,I y] [vw n1 (Us t.2.1),vw d1 (Us t.2.2)] []
  fun v D=>v = .bool true∧D = []:=by
 subst h
 have hP:=FPair_tr x y hx hy hy0
 unfold FQ2 at hP
 generalize mkRat (x:Int) y = q at *
 refine Tr.enter env _ Tryz.func49 (by kernel_rfl) rfl Tryz.ntmps49 rfl (by repeat (first | exact has00 | refine has01 ?_)) fun w0=>?_
 repeat' first|(refine gca ?_;first|(refine ca hP ?_;rintro _ _ ⟨vn,vd,rfl,hvn,hvd,rfl⟩)|(refine ca (SameRatioT_tr (rqf q) n1 d1 vn vd) ?_;rintro _ _ ⟨rfl,rfl⟩))|refine bx fun b1=>?_|refine al fun b2=>?_|refine lda ?_|refine srz ?_|(refine wo ?_;first|(refine ao ?_;first|refine oa ?_)|refine oa ?_|refine gy ?_)|refine sq ?_|refine rg ?_|refine xc ?_|refine nl ?_|refine rt ?_
 exact r1 ⟨rfl,rfl⟩
theorem half26_tr:Tr Tryz.prog 51 [] [] [] (FQ (mkRat ((1:Nat):Int) 2)):=by
 have hP:=FPair_tr 1 2 (by decide) (by decide) (by decide)
 unfold FQ2 at hP
 unfold FQ
 generalize mkRat ((1:Nat):Int) 2 = s at *
 refine Tr.enter env _ Tryz.func51 (by kernel_rfl) rfl Tryz.ntmps51 rfl (by repeat (first | exact has00 | refine has01 ?_)) fun w0=>?_
 repeat' first|(refine gca ?_;first|(refine ca hP ?_;rintro _ _ ⟨n1,n2,rfl,hn1,hn2,rfl⟩))|refine al fun b2=>?_|refine lda ?_|refine srz ?_|(refine wo ?_;first|refine oa ?_)|refine sq ?_|refine rg ?_|refine xc ?_|refine nl ?_|refine rt ?_
 exact rca1 (cs:=[.bool (decide (s.num < 0)),n1,n2]) (vs:=[.bool (decide (s.num < 0)),n1,n2]) (T:=TRt) ⟨n1,n2,rfl,hn1,hn2,rfl⟩
theorem leasts26_tr (tv:Value) (htv:tv.oneCell' = true) (t:List Int) (k n w x y:Nat) (q:Rat) (e1 e2:Value) (he1:e1.oneCell' = true) (he2:e2.oneCell' = true) (hz:solE t k = 0) (hk:k ≤ 40) (hl:t.length ≤ 12) (hn:n ≤ 12) (hq:FB q 1000) (h:(q - 1).num.sign < 0∧0 < q.num.sign)
  (hw:leastW (failQ t k) q n = ((w:Int),rqf (mkRat (x:Int) y),0)) (hx:x < 9223372036854775808) (hy:y < 9223372036854775808) (hy0:y ≠ 0) :
  Tr Tryz.prog 50 [tv,I k,rv q e1 e2,I n,I w,I x,I y,I 0] [vw tv (Is t),vw e1 (Us (dg q.num.natAbs)),vw e2 (Us (dg q.den))] [] fun v D=>v = .bool true∧D = []:=by
 have hL:=Least_ok tv htv t k n q e1 e2 he1 he2 hz hk hl hn hq h
 have hI:=fun a b=>is26_tr (rqf (mkRat (x:Int) y)) a b x y hx hy hy0 rfl
 rw [hw] at hL
 clear hw h
 generalize mkRat (x:Int) y = p at *
 unfold LW at hL
 dsimp only at hL
 refine Tr.enter env _ Tryz.func50 (by kernel_rfl) rfl Tryz.ntmps50 rfl (by repeat (first | exact has00 | refine has01 ?_)) fun w0=>?_
 repeat' first|(refine gca ?_;first|(refine ca hL ?_;rintro _ _ ⟨n1,n2,rfl,hn1,hn2,rfl⟩)|(refine ca (hI n1 n2) ?_;rintro _ _ ⟨rfl,rfl⟩))|refine bx fun b1=>?_|refine al fun b2=>?_|refine lda (vs:=[.bool (decide (q.num < 0)),e1,e2]) ?_|refine lda ?_|refine srz ?_|(refine wo ?_;first|(refine ao ?_;first|refine oa ?_)|refine oa ?_|refine gy ?_|(refine gsi (fun hB=>?_) (fun hB=>?_) <;> try (exfalso;omega)))|(refine gc ?_;first|refine cf ?_)|refine sq ?_|refine rg ?_|refine xc ?_|refine nl ?_|refine sk ?_|refine rt ?_
 all_goals exact r1 ⟨rfl,rfl⟩
theorem cvA_tr (s:Value) (hs:s.oneCell' = true):Tr Tryz.prog 45 [s,I ((2:Nat):Int),I ((2:Nat):Int)] [vw s (Is [1,1])] [] fun w D=>∃ v h0 h1 h2,w = tup2 v (I 0)∧D = [oww TRt 3 v 3 (rcs [mkRat ((1:Nat):Int) 1,mkRat ((1:Nat):Int) 1,mkRat ((3:Nat):Int) 8] [h0,h1,h2]),ofr [h0,h1,h2] [mkRat ((1:Nat):Int) 1,mkRat ((1:Nat):Int) 1,mkRat ((3:Nat):Int) 8]]:=
 (Curve_ok s hs [1,1] 2 2 solE_c1 (by decide) (by decide) (by decide)).mono fun w D h=>by
  obtain ⟨v,hs,rfl,hv,hl,rfl⟩:=h
  obtain ⟨h0,h1,h2,rfl⟩:=len3 hl
  exact ⟨v,h0,h1,h2,rfl,by rw [curL_one]⟩
theorem awake26_tr:Tr Tryz.prog 41 [] [] [] fun v D=>v = .bool true∧D = []:=by
 have hA:=cvA_tr
 have hI1:=fun a b=>is26_tr (rqf (mkRat ((1:Nat):Int) 1)) a b 1 1 (by decide) (by decide) (by decide) rfl
 have hI3:=fun a b=>is26_tr (rqf (mkRat ((3:Nat):Int) 8)) a b 3 8 (by decide) (by decide) (by decide) rfl
 have hH:=half26_tr
 have hL:=fun s a b hs ha hb=>leasts26_tr s hs [1,1] 2 9 2 3 8 (mkRat ((1:Nat):Int) 2) a b ha hb solE_c1 (by decide) (by decide) (by decide) (FB.le (B:=1) (FB_mk1 (a:=1) (D:=2) (by decide) (by decide) (by decide)) (by decide)) half_at least_one (by decide) (by decide) (by decide)
 unfold FQ at hH
 generalize mkRat ((1:Nat):Int) 1 = q1 at *
 generalize mkRat ((3:Nat):Int) 8 = q3 at *
 generalize mkRat ((1:Nat):Int) 2 = q2 at *
 refine Tr.enter env _ Tryz.func41 (by kernel_rfl) rfl Tryz.ntmps41 rfl (by repeat (first | exact has00 | refine has01 ?_)) fun w0=>?_
 repeat' first|(refine gca ?_;first|(refine ca (hA v hv) ?_;rintro _ _ ⟨sv,a0,a1,a2,rfl,rfl⟩))|refine slz fun v hv=>?_|(refine wo ?_;first|(refine ao ?_;first|refine oa ?_)|refine oa ?_|refine gy ?_)|refine sq ?_|refine rg ?_|refine xc ?_|refine nl ?_
 have fa:=fun (F:List Ch) (h:ofr [a0,a1,a2] [q1,q1,q3] ∈ F) (i:Nat) (hi:i < 3)=>has_fr (has_ofr (hs:=[a0,a1,a2]) (qs:=[q1,q1,q3]) rfl h) rfl (i:=i) hi
 repeat' first|(refine gca ?_;first|(refine ca (hI1 a0.1 a0.2) ?_ (hp:=has1 (fa _ memA 0 (by decide)).1 (has1 (fa _ memA 0 (by decide)).2 has0));rintro _ _ ⟨rfl,rfl⟩)|(refine ca (hI1 a1.1 a1.2) ?_ (hp:=has1 (fa _ memA 1 (by decide)).1 (has1 (fa _ memA 1 (by decide)).2 has0));rintro _ _ ⟨rfl,rfl⟩)|(refine ca (hI3 a2.1 a2.2) ?_ (hp:=has1 (fa _ memA 2 (by decide)).1 (has1 (fa _ memA 2 (by decide)).2 has0));rintro _ _ ⟨rfl,rfl⟩)|(refine ca hH ?_;rintro _ _ ⟨h1,h2,rfl,hh1,hh2,rfl⟩)|(refine ca (hL v2 h1 h2 hv2 hh1 hh2) ?_;rintro _ _ ⟨rfl,rfl⟩))|refine lnw (v:=sv) ?_ (hm:=has_oww memA)|refine ixws (v:=sv) ?_ (hm:=has_oww memA)|refine ldaw (v:=sv) (m:=0) (sz:=3) (vs:=rrow q1 a0) rfl ?_ (hm:=has_oww memA)|refine ldaw (v:=sv) (m:=3) (sz:=3) (vs:=rrow q1 a1) rfl ?_ (hm:=has_oww memA)|refine ldaw (v:=sv) (m:=6) (sz:=3) (vs:=rrow q3 a2) rfl ?_ (hm:=has_oww memA)|refine slz fun v2 hv2=>?_|(refine wo ?_;first|(refine ao ?_;first|refine oa ?_)|refine oa ?_|refine gy ?_)|refine xc ?_|refine nl ?_|refine rt ?_
 exact r1 ⟨rfl,rfl⟩
end Go.Art
namespace Go.Art
open Go Go.Proofs Go.RowKit
theorem least_two:leastW (failQ [1] 2) (mkRat ((1:Nat):Int) 2) 9 = (((2:Nat):Int),rqf (mkRat ((1:Nat):Int) 2),0):=by decide +kernel
theorem least_three:leastW (failQ [1] 2) (mkRat ((1:Nat):Int) 2) 1 = (0,rqn,14):=by decide +kernel
theorem one_at:¬ ((mkRat ((1:Nat):Int) 1 - 1).num.sign < 0∧0 < (mkRat ((1:Nat):Int) 1).num.sign):=by decide +kernel
theorem nought_at:¬ ((mkRat ((0:Nat):Int) 1 - 1).num.sign < 0∧0 < (mkRat ((0:Nat):Int) 1).num.sign):=by decide +kernel
theorem curL_two:curL [1] 2 (2 + 1) = [mkRat ((1:Nat):Int) 1,mkRat ((1:Nat):Int) 1,mkRat ((1:Nat):Int) 2]:=by decide +kernel
theorem curL_three:curL [1] 1 (2 + 1) = [mkRat ((1:Nat):Int) 1,mkRat ((0:Nat):Int) 1,mkRat ((0:Nat):Int) 1]:=by decide +kernel
theorem mean_one:meanQ [1] 1 3 = mkRat ((1:Nat):Int) 1:=by decide +kernel
theorem mean_two:meanQ [1] 2 2 = mkRat ((2:Nat):Int) 1:=by decide +kernel
theorem solE_c2:solE [1] ((2:Nat):Int) = 0:=by decide
theorem solE_c3:solE [1] ((1:Nat):Int) = 0:=by decide
theorem ripE_c1:ripE [1] 0 1 = 3:=by decide
theorem ripE_c2:ripE [] 1 1 = 13:=by decide
attribute [local irreducible] Fit pt own ro vw mpc lpt vels rels mow lrc dfr
attribute [local irreducible] lmp lme mit velg relg bnd owl dfrl massW setsW massD smlT solE failQ stL curL leastW meanQ
theorem leasts26_none (tv:Value) (htv:tv.oneCell' = true) (t:List Int) (k n:Nat) (q:Rat) (e1 e2:Value) (he1:e1.oneCell' = true) (he2:e2.oneCell' = true) (hz:solE t k = 0) (hk:k ≤ 40) (hl:t.length ≤ 12) (hn:n ≤ 12) (hq:FB q 1000) (h:(q - 1).num.sign < 0∧0 < q.num.sign)
  (hw:leastW (failQ t k) q n = (0,rqn,14)) :
  Tr Tryz.prog 50 [tv,I k,rv q e1 e2,I n,I 0,I 0,I 1,I 14] [vw tv (Is t),vw e1 (Us (dg q.num.natAbs)),vw e2 (Us (dg q.den))] [] fun v D=>v = .bool true∧D = []:=by
 have hL:=Least_ok tv htv t k n q e1 e2 he1 he2 hz hk hl hn hq h
 rw [hw] at hL
 clear hw h
 unfold LW at hL
 dsimp only at hL
 refine Tr.enter env _ Tryz.func50 (by kernel_rfl) rfl Tryz.ntmps50 rfl (by repeat (first | exact has00 | refine has01 ?_)) fun w0=>?_
 repeat' first|(refine gca ?_;first|(refine ca hL ?_;rintro _ _ ⟨n1,n2,rfl,hn1,hn2,rfl⟩))|refine bx fun b1=>?_|refine al fun b2=>?_|refine lda (vs:=[.bool (decide (q.num < 0)),e1,e2]) ?_|refine lda ?_|refine srz ?_|(refine wo ?_;first|(refine ao ?_;first|refine oa ?_)|refine oa ?_|refine gy ?_)|(refine gc ?_;first|refine ct ?_)|refine sq ?_|refine rg ?_|refine xc ?_|refine nl ?_|refine rt ?_
 all_goals exact r1 ⟨rfl,rfl⟩
theorem leasts26_range (tv:Value) (t:List Int) (k n:Nat) (q:Rat) (e1 e2:Value) (he1:e1.oneCell' = true) (he2:e2.oneCell' = true) (hz:solE t k = 0) (hk:k ≤ 40) (hn:n ≤ 12) (hq:FB q 1000) (h:¬ ((q - 1).num.sign < 0∧0 < q.num.sign)) :
  Tr Tryz.prog 50 [tv,I k,rv q e1 e2,I n,I 0,I 0,I 1,I 3] [vw tv (Is t),vw e1 (Us (dg q.num.natAbs)),vw e2 (Us (dg q.den))] [] fun v D=>v = .bool true∧D = []:=by
 have hL:=Least_range tv t k n q e1 e2 he1 he2 hz (by omega) (by omega) hq h
 clear h
 refine Tr.enter env _ Tryz.func50 (by kernel_rfl) rfl Tryz.ntmps50 rfl (by repeat (first | exact has00 | refine has01 ?_)) fun w0=>?_
 repeat' first|(refine gca ?_;first|(refine ca hL ?_;rintro _ _ ⟨rfl,rfl⟩))|refine bx fun b1=>?_|refine al fun b2=>?_|refine lda (vs:=[.bool (decide (q.num < 0)),e1,e2]) ?_|refine lda ?_|refine srz ?_|(refine wo ?_;first|(refine ao ?_;first|refine oa ?_)|refine oa ?_|refine gy ?_)|(refine gc ?_;first|refine ct ?_)|refine sq ?_|refine rg ?_|refine xc ?_|refine nl ?_|refine rt ?_
 all_goals exact r1 ⟨rfl,rfl⟩
theorem cvB_tr (s:Value) (hs:s.oneCell' = true):Tr Tryz.prog 45 [s,I ((2:Nat):Int),I ((2:Nat):Int)] [vw s (Is [1])] [] fun w D=>∃ v h0 h1 h2,w = tup2 v (I 0)∧D = [oww TRt 3 v 3 (rcs [mkRat ((1:Nat):Int) 1,mkRat ((1:Nat):Int) 1,mkRat ((1:Nat):Int) 2] [h0,h1,h2]),ofr [h0,h1,h2] [mkRat ((1:Nat):Int) 1,mkRat ((1:Nat):Int) 1,mkRat ((1:Nat):Int) 2]]:=
 (Curve_ok s hs [1] 2 2 solE_c2 (by decide) (by decide) (by decide)).mono fun w D h=>by
  obtain ⟨v,hs,rfl,hv,hl,rfl⟩:=h
  obtain ⟨h0,h1,h2,rfl⟩:=len3 hl
  exact ⟨v,h0,h1,h2,rfl,by rw [curL_two]⟩
theorem cvC_tr (s:Value) (hs:s.oneCell' = true):Tr Tryz.prog 45 [s,I ((1:Nat):Int),I ((2:Nat):Int)] [vw s (Is [1])] [] fun w D=>∃ v h0 h1 h2,w = tup2 v (I 0)∧D = [oww TRt 3 v 3 (rcs [mkRat ((1:Nat):Int) 1,mkRat ((0:Nat):Int) 1,mkRat ((0:Nat):Int) 1] [h0,h1,h2]),ofr [h0,h1,h2] [mkRat ((1:Nat):Int) 1,mkRat ((0:Nat):Int) 1,mkRat ((0:Nat):Int) 1]]:=
 (Curve_ok s hs [1] 1 2 solE_c3 (by decide) (by decide) (by decide)).mono fun w D h=>by
  obtain ⟨v,hs,rfl,hv,hl,rfl⟩:=h
  obtain ⟨h0,h1,h2,rfl⟩:=len3 hl
  exact ⟨v,h0,h1,h2,rfl,by rw [curL_three]⟩
set_option maxHeartbeats 2000000 in
theorem CurveKnown_tr:Tr Tryz.prog 11 [] [] [] fun v D=>v = .bool true∧D = []:=by
 have hB:=cvB_tr
 have hC:=cvC_tr
 have hM1:=fun s hs=>Mean_ok s hs [1] 1 3 solE_c3 (by decide) (by decide) (by decide)
 have hM2:=fun s hs=>Mean_ok s hs [1] 2 2 solE_c2 (by decide) (by decide) (by decide)
 rw [mean_one] at hM1
 rw [mean_two] at hM2
 unfold FQ2 at hM1 hM2
 have hE1:=fun s=>Curve_err s [1] 0 1 (by rw [ripE_c1];decide)
 have hE2:=Curve_err nS [] 1 1 (by rw [ripE_c2];decide)
 rw [ripE_c1] at hE1
 rw [ripE_c2] at hE2
 have hP11:=FPair_tr 1 1 (by decide) (by decide) (by decide)
 have hP01:=FPair_tr 0 1 (by decide) (by decide) (by decide)
 unfold FQ2 at hP11 hP01
 have hH:=half26_tr
 unfold FQ at hH
 have f1:∀ x y:Nat,x < 3→y < 3→y ≠ 0→FB (mkRat (x:Int) y) 1000:=fun x y a b c=>FB.le (B:=1) (FB_mk1 (a:=x) (D:=y) c (by omega) (by omega)) (by decide)
 have hL1:=fun s a b hs ha hb=>leasts26_tr s hs [1] 2 9 2 1 2 (mkRat ((1:Nat):Int) 2) a b ha hb solE_c2 (by decide) (by decide) (by decide) (f1 1 2 (by decide) (by decide) (by decide)) half_at least_two (by decide) (by decide) (by decide)
 have hL2:=fun s a b hs ha hb=>leasts26_none s hs [1] 2 1 (mkRat ((1:Nat):Int) 2) a b ha hb solE_c2 (by decide) (by decide) (by decide) (f1 1 2 (by decide) (by decide) (by decide)) half_at least_three
 have hL3:=fun s a b ha hb=>leasts26_range s [1] 2 9 (mkRat ((1:Nat):Int) 1) a b ha hb solE_c2 (by decide) (by decide) (f1 1 1 (by decide) (by decide) (by decide)) one_at
 have hL4:=fun s a b ha hb=>leasts26_range s [1] 2 9 (mkRat ((0:Nat):Int) 1) a b ha hb solE_c2 (by decide) (by decide) (f1 0 1 (by decide) (by decide) (by decide)) nought_at
 clear f1
 have hI11:=fun a b=>is26_tr (rqf (mkRat ((1:Nat):Int) 1)) a b 1 1 (by decide) (by decide) (by decide) rfl
 have hI01:=fun a b=>is26_tr (rqf (mkRat ((0:Nat):Int) 1)) a b 0 1 (by decide) (by decide) (by decide) rfl
 have hI12:=fun a b=>is26_tr (rqf (mkRat ((1:Nat):Int) 2)) a b 1 2 (by decide) (by decide) (by decide) rfl
 have hI21:=fun a b=>is26_tr (rqf (mkRat ((2:Nat):Int) 1)) a b 2 1 (by decide) (by decide) (by decide) rfl
 generalize mkRat ((1:Nat):Int) 1 = q11 at *
 generalize mkRat ((0:Nat):Int) 1 = q01 at *
 generalize mkRat ((1:Nat):Int) 2 = q12 at *
 generalize mkRat ((2:Nat):Int) 1 = q21 at *
 refine Tr.enter env _ Tryz.func11 (by kernel_rfl) rfl Tryz.ntmps11 rfl (by repeat (first | exact has00 | refine has01 ?_)) fun w0=>?_
 repeat' first|refine slz fun v hv=>?_|(refine wo ?_;first|refine oa ?_)|refine sq ?_|refine rg ?_|refine xc ?_|refine nl ?_
 rename_i vo hvo
 repeat' first|(refine gca ?_;first|(refine ca (hB v hv) ?_;rintro _ _ ⟨bv,b0,b1,b2,rfl,rfl⟩)|(refine ca (hC vo hvo) ?_;rintro _ _ ⟨cv,c0,c1,c2,rfl,rfl⟩)|(refine ca (hM1 vo hvo) ?_;rintro _ _ ⟨m1,m2,rfl,hm1,hm2,rfl⟩)|(refine ca (hM2 v hv) ?_;rintro _ _ ⟨m3,m4,rfl,hm3,hm4,rfl⟩))|refine al fun c=>?_|refine srz ?_|(refine wo ?_;first|(refine ao ?_;first|refine oa ?_)|refine oa ?_|refine gy ?_)|refine sq ?_|refine rg ?_|refine xc ?_|refine nl ?_
 have fb:=fun (F:List Ch) (h:ofr [b0,b1,b2] [q11,q11,q12] ∈ F) (i:Nat) (hi:i < 3)=>has_fr (has_ofr (hs:=[b0,b1,b2]) (qs:=[q11,q11,q12]) rfl h) rfl (i:=i) hi
 have fc:=fun (F:List Ch) (h:ofr [c0,c1,c2] [q11,q01,q01] ∈ F) (i:Nat) (hi:i < 3)=>has_fr (has_ofr (hs:=[c0,c1,c2]) (qs:=[q11,q01,q01]) rfl h) rfl (i:=i) hi
 repeat' first|(refine gca ?_;first|(refine ca (hI12 b2.1 b2.2) ?_ (hp:=has1 (fb _ memA 2 (by decide)).1 (has1 (fb _ memA 2 (by decide)).2 has0));rintro _ _ ⟨rfl,rfl⟩)|(refine ca (hI11 c0.1 c0.2) ?_ (hp:=has1 (fc _ memA 0 (by decide)).1 (has1 (fc _ memA 0 (by decide)).2 has0));rintro _ _ ⟨rfl,rfl⟩)|(refine ca (hI01 c1.1 c1.2) ?_ (hp:=has1 (fc _ memA 1 (by decide)).1 (has1 (fc _ memA 1 (by decide)).2 has0));rintro _ _ ⟨rfl,rfl⟩)|(refine ca (hI01 c2.1 c2.2) ?_ (hp:=has1 (fc _ memA 2 (by decide)).1 (has1 (fc _ memA 2 (by decide)).2 has0));rintro _ _ ⟨rfl,rfl⟩)|(refine ca (hI11 m1 m2) ?_;rintro _ _ ⟨rfl,rfl⟩)|(refine ca (hI21 m3 m4) ?_;rintro _ _ ⟨rfl,rfl⟩))|refine lnw (v:=bv) ?_ (hm:=has_oww memA)|refine ixws (v:=bv) ?_ (hm:=has_oww memA)|refine lnw (v:=cv) ?_ (hm:=has_oww memA)|refine ixws (v:=cv) ?_ (hm:=has_oww memA)|refine ldaw (v:=bv) (m:=6) (sz:=3) (vs:=rrow q12 b2) rfl ?_ (hm:=has_oww memA)|refine ldaw (v:=cv) (m:=0) (sz:=3) (vs:=rrow q11 c0) rfl ?_ (hm:=has_oww memA)|refine ldaw (v:=cv) (m:=3) (sz:=3) (vs:=rrow q01 c1) rfl ?_ (hm:=has_oww memA)|refine ldaw (v:=cv) (m:=6) (sz:=3) (vs:=rrow q01 c2) rfl ?_ (hm:=has_oww memA)|refine lda (vs:=rrow q11 (m1,m2)) ?_|refine lda (vs:=rrow q21 (m3,m4)) ?_|(refine wo ?_;first|(refine ao ?_;first|refine oa ?_)|refine oa ?_|refine gy ?_)|(refine gc ?_;first|refine cf ?_)|refine sq ?_|refine rg ?_|refine xc ?_|refine nl ?_|refine sk ?_
 refine TO.im (own_nil TLI _) ?_
 repeat' first|(refine gca ?_;first|(refine ca hP11 ?_;rintro _ _ ⟨p1,p2,rfl,hp1,hp2,rfl⟩)|(refine ca hP01 ?_;rintro _ _ ⟨p3,p4,rfl,hp3,hp4,rfl⟩)|(refine ca (hE1 vo) ?_;rintro _ _ ⟨rfl,rfl⟩)|(refine ca hE2 ?_;rintro _ _ ⟨rfl,rfl⟩)|(refine ca awake26_tr ?_;rintro _ _ ⟨rfl,rfl⟩)|(refine ca hH ?_;rintro _ _ ⟨h1,h2,rfl,hh1,hh2,rfl⟩)|(refine ca (hL1 v h1 h2 hv hh1 hh2) ?_;rintro _ _ ⟨rfl,rfl⟩)|(refine ca (hL2 v h1 h2 hv hh1 hh2) ?_;rintro _ _ ⟨rfl,rfl⟩)|(refine ca (hL3 v p1 p2 hp1 hp2) ?_;rintro _ _ ⟨rfl,rfl⟩)|(refine ca (hL4 v p3 p4 hp3 hp4) ?_;rintro _ _ ⟨rfl,rfl⟩))|refine al fun c=>?_|refine lda (vs:=rrow q11 (p1,p2)) ?_|refine lda (vs:=rrow q01 (p3,p4)) ?_|refine srz ?_|(refine wo ?_;first|(refine ao ?_;first|refine oa ?_)|refine oa ?_|refine gy ?_)|refine sq ?_|refine rg ?_|refine xc ?_|refine nl ?_|refine rt ?_
 exact r1 ⟨rfl,rfl⟩
end Go.Art
namespace Go.Art
open Go Go.Proofs Go.RowKit
attribute [local irreducible] Fit pt own ro vw mpc lpt vels rels mow lrc dfr
attribute [local irreducible] lmp lme mit velg relg bnd owl dfrl massW setsW massD smlT solE failQ stL curL leastW meanQ
theorem small26_tr (tv:Value) (tbl:List Int) (kk:Int) (k:Nat) (hk:1 + pick kk 5 = k):Tr Tryz.prog 52 [tv,I kk] [vw tv (Is tbl)] [] fun u D=>∃ o,u = tup2 o (I k)∧o.oneCell' = true∧D = [own TLI o (Is (smlT 10 tbl k))]:=by
 have hpk:=pickM_in (x:=kk) (m:=5) (by decide)
 have hPk:=Pick_tr kk 5 (by decide)
 refine Tr.enter env _ Tryz.func52 (by kernel_rfl) rfl Tryz.ntmps52 rfl (by repeat (first | exact has00 | refine has01 ?_)) fun w0=>?_
 refine TC.leni (v:=tv) (l:=tbl) fun htl=>?_
 refine TC.im (own_nil TLI _) ?_
 repeat' first|(refine gca ?_;first|(refine ca hPk ?_;rintro _ _ ⟨rfl,rfl⟩))|(refine aw (m:=1 + pick kk 5) ?_;rw [hk])|(refine wo ?_;first|refine oa ?_)|refine sq ?_|refine rg ?_|refine xc ?_|refine nl ?_|refine bk ?_
 refine TC.loop (ι:=Nat × Value) (fun g=>[(7,I g.1),(6,g.2)]) (fun g=>[own TLI g.2 (Is (smlT 10 tbl g.1))]) (fun g=>g.1 ≤ k∧g.1 ≤ tbl.length∧g.2.oneCell' = true) (fun g=>k - g.1) (0,nS) [0,1] ⟨Nat.zero_le _,Nat.zero_le _,rfl⟩ ?_ (hf:=by dsimp only;rw [smlT_zero 10 tbl];exact fitA)
 rintro ⟨i,o⟩ ⟨h1,h2,ho⟩
 dsimp only at h1 h2 ho ⊢
 by_cases hlt:i < k∧i < tbl.length
 ·have hms:=smlT_succ (m:=10) hlt.2
  have hml:=smlT_len 10 tbl i
  generalize hy:tbl.getD i 0 = y at *
  repeat' first|(refine gca ?_;first|(refine ca (Pick_tr y 10 (by decide)) ?_;rintro _ _ ⟨rfl,rfl⟩))|refine lie hy ?_|refine slii [pick y 10] fun v1=>?_|(refine api (l:=smlT 10 tbl i) (news:=[pick y 10]) (fun o2=>?_) (hl:=by simp only [List.length_cons,List.length_nil];omega);refine TO.one (v:=o2) (xs:=Is (smlT 10 tbl i ++ [pick y 10])) fun ho2=>?_)|(refine wo ?_;first|(refine ao ?_;first|refine aw ?_|refine oa ?_)|refine oa ?_|refine lnm ?_|refine ixmn ?_|refine gy ?_|(refine gsi (fun hB=>?_) (fun hB=>?_) <;> try (exfalso;omega)))|(refine gc ?_;first|(refine ci (fun hB=>?_) (fun hB=>?_) <;> try (exfalso;omega)))|refine sq ?_|refine rg ?_|refine xc ?_|refine nl ?_|refine sk ?_|refine bk ?_|refine xb ?_
  exact lp (i + 1,o2) ⟨hlt.1,hlt.2,ho2⟩ (hf:=by dsimp only;rw [hms];exact fitA)
 ·have hmi:smlT 10 tbl i = smlT 10 tbl k:=by rw [← smlT_min 10 tbl k];congr 1;omega
  rw [hmi]
  repeat' first|(refine wo ?_;first|(refine ao ?_;first|refine oa ?_)|refine oa ?_|refine lnm ?_|refine gy ?_|refine gn ?_|(refine gsi (fun hB=>?_) (fun hB=>?_) <;> try (exfalso;omega)))|(refine gc ?_;first|refine cf ?_|(refine ci (fun hB=>?_) (fun hB=>?_) <;> try (exfalso;omega)))|refine sq ?_|refine rg ?_|refine xc ?_|refine nl ?_|refine xe ?_|refine rt ?_
  all_goals exact r2 ⟨o,rfl,ho,rfl⟩
end Go.Art
namespace Go.Art
open Go Go.Proofs Go.RowKit
theorem failQ_zero {t:List Int} {k:Nat} (hz:solE t k = 0):failQ t k 0 = mkRat ((1:Nat):Int) 1:=by
 rw [failQ_eq hz,natG_zero,failW_none (by have:=(solE_zero hz).1;omega),if_pos rfl,Nat.pow_zero]
theorem failQ_falls {t:List Int} {k:Nat} (hz:solE t k = 0) (n:Nat):(failQ t k (n + 1) - failQ t k n).num.sign ≤ 0:=by
 have hO0:=oneS_pos hz
 have hmore:=natG_more (W:=failW k) (itemS_sum hz) (fun b s _ h=>failW_more k b s.1 h) n [] 1
 have hpos:∀ i,oneS t k ^ i ≠ 0:=fun i=>Nat.ne_of_gt (Nat.pow_pos (Nat.pos_of_ne_zero hO0))
 have hm2:natG (failW k) (itemS t k) (n + 1) [] 1 * oneS t k ^ n ≤ natG (failW k) (itemS t k) n [] 1 * oneS t k ^ (n + 1):=by
  rw [Nat.pow_succ,Nat.mul_comm (oneS t k ^ n) (oneS t k),← Nat.mul_assoc]
  exact Nat.mul_le_mul_right _ hmore
 rw [failQ_eq hz,failQ_eq hz]
 exact sub_le (hpos (n + 1)) (hpos n) hm2
theorem failQ_nonneg {t:List Int} {k:Nat} (hz:solE t k = 0) (n:Nat):0 ≤ failQ t k n:=by
 obtain ⟨a,_,h⟩:=failQ_nat hz n
 rw [h]
 exact FrQ.nonneg (E:=oneS t k ^ n) ⟨a,rfl⟩
theorem failQ_sign {t:List Int} {k:Nat} (hz:solE t k = 0) (n:Nat):0 ≤ (failQ t k n).num.sign:=by
 have h:=Rat.num_nonneg.2 (failQ_nonneg hz n)
 rcases Int.lt_or_eq_of_le h with g | g
 ·rw [Int.sign_eq_one_of_pos g];decide
 ·rw [← g];decide
theorem failQ_le1 {t:List Int} {k:Nat} (hz:solE t k = 0) (n:Nat):failQ t k n ≤ 1:=by
 obtain ⟨a,h1,h⟩:=failQ_nat hz n
 have h0:=Nat.pow_pos (n:=n) (Nat.pos_of_ne_zero (oneS_pos hz))
 have h2:FrQ (oneS t k ^ n) (1 - failQ t k n):=⟨oneS t k ^ n - a,by
  rw [h]
  obtain ⟨b,hb⟩:=Nat.exists_eq_add_of_le h1
  have e1:=nz (Nat.ne_of_gt h0)
  rw [hb] at e1 ⊢
  rw [Nat.add_sub_cancel_left]
  rw [Rat.natCast_add] at e1 ⊢
  grind⟩
 have h3:=h2.nonneg
 grind
theorem foldl_sR2:∀ (l:List Rat) (a:Rat),l.foldl (fun a q=>q + a) a = a + sR id l
 | [],a=>(Rat.add_zero a).symm
 | x :: l,a=>by rw [List.foldl_cons,foldl_sR2 l];show x + a + sR id l = a + (x + sR id l);grind
theorem mean_sR (t:List Int) (k e:Nat):meanQ t k e = sR (fun i=>failQ t k i) (List.range e):=by
 unfold meanQ curL
 rw [foldl_sR2,Rat.zero_add,sR_map]
 rfl
theorem mean_hi {t:List Int} {k:Nat} (hz:solE t k = 0) (e:Nat):meanQ t k e ≤ (e:Rat):=by
 rw [mean_sR]
 have h:=sR_le (f:=fun i=>failQ t k i) (g:=fun _=>1) (l:=List.range e) fun i _=>failQ_le1 hz i
 rw [sR_const,List.length_range,Rat.mul_one] at h
 exact h
theorem mean_lo {t:List Int} {k:Nat} (hz:solE t k = 0) {e:Nat} (he:1 ≤ e):1 ≤ meanQ t k e:=by
 obtain ⟨m,rfl⟩ : ∃ m,e = m + 1:=⟨e - 1,by omega⟩
 rw [mean_sR,sR_shift,failQ_zero hz,mk_one 1 (by decide)]
 have h:0 ≤ sR (fun a=>failQ t k (a + 1)) (List.range m):=sR_nonneg fun i _=>failQ_nonneg hz (i + 1)
 grind
theorem sgn_le {p q:Rat} (h:p ≤ q):(p - q).num.sign ≤ 0:=by
 have h1:0 ≤ -(p - q):=by grind
 have h2:(p - q).num ≤ 0:=by
  have:=Rat.num_nonneg.2 h1
  rw [Rat.neg_num] at this
  omega
 rcases Int.lt_or_eq_of_le h2 with g | g
 ·rw [Int.sign_eq_neg_one_of_neg g];decide
 ·rw [g];decide
open Go Go.Proofs Go.RowKit
def sIx (x:List Rat) (m:Nat):List Nat:=(List.range m).filter fun i=>decide (x.getD i 0 ≠ 0)
abbrev srow (c r:Nat) (q:Rat) (h:HV):List Value:=[I (c:Int),I (r:Int),.bool (decide (q.num < 0)),h.1,h.2]
def scs (n:Nat) (x:List Rat) (is:List Nat) (hs:List HV):List Value:=(List.zipWith (fun i h=>srow (i / (n + 1)) (i % (n + 1)) (x.getD i 0) h) is hs).flatten
structure SsG where
 es:List (Option HV)
 v:Value
 is:List Nat
 hs:List HV
structure SsI (x:List Rat) (ez:List (Option HV)) (N i:Nat) (g:SsG):Prop where
 ii:g.is = sIx x i
 ov:g.v.oneCell' = true
 hl:g.hs.length = g.is.length
 el:g.es.length = N
 es:∀ j,i ≤ j→j < N→g.es.getD j none = ez.getD j none
structure SdG where
 d:Bool
 v:Value
 is:List Nat
 hs:List HV
attribute [local irreducible] Fit pt own ro vw mpc lpt vels rels mow lrc dfr
attribute [local irreducible] lmp lme mit velg relg bnd owl dfrl gow shB grB
abbrev TSt:TypeId:=45
abbrev TSs:TypeId:=41
abbrev ssD (n:Nat) (x:List Rat) (v:Value) (is:List Nat) (hs:List HV):List Ch:=[oww TSt 5 v is.length (scs n x is hs),ofr hs (is.map fun i=>x.getD i 0)]
end Go.Art
namespace Go.Art
open Go Go.Proofs Go.RowKit
attribute [local irreducible] Fit pt own ro vw mpc lpt vels rels mow lrc dfr
attribute [local irreducible] lmp lme mit velg relg bnd owl dfrl massW setsW massD smlT solE failV failQ stL
end Go.Art
namespace Go.Art
open Go Go.Proofs Go.RowKit
structure WholeF (n:Nat) (x:List Rat) (is:List Nat):Prop where
 sum:sR (fun i=>x.getD i 0) is = 1
 pre:∀ i,FB (sR (fun i=>x.getD i 0) (is.take i)) 8589934592
 one:∀ i,i < is.length→FB (x.getD (is.getD i 0) 0) 8589934592
 at_:∀ i,i < is.length→is.getD i 0 / (n + 1) + is.getD i 0 % (n + 1) = n
theorem rsub3 {α:Type} {l r:List α} {m a:Nat} (h:(l.drop m).take a = r) (j b:Nat) (hj:j + b ≤ a):(l.drop (m + j)).take b = (r.drop j).take b:=by
 subst h
 rw [List.drop_take,List.take_take,Nat.min_eq_left (by omega),List.drop_drop]
open Go Go.Proofs Go.RowKit
section
variable {P:Program} {E:Env P} {n:Sh} {X:Cx} {s:List K} {fr:Fr} {A A':List Ch} {ops:Array Oper} {rest:List Oper} {d m N sz by_:Nat} {ty t t' el:TypeId} {pos:String} {after:Array Edge} {v u z:Value} {x y:Operand} {xs vs:List Value} {dt:TypeDesc} {k1 k':IntKind} {w:World}
end
structure WgG where
 i:Nat
 a:Value
 b:Value
attribute [local irreducible] Fit pt own ro vw mpc lpt vels rels mow lrc dfr
attribute [local irreducible] lmp lme mit velg relg bnd owl dfrl massW setsW massD smlT solE failV failQ stL natG itemS oneS
end Go.Art
namespace Go.Art
open Go Go.Proofs Go.RowKit
theorem mean_all {t:List Int} {k e:Nat} (hz:solE t k = 0) (hk:k ≤ 40) (hl:t.length ≤ 12) (he:e ≤ 13):FB (meanQ t k e) 8589934592:=by
 have:=mean_FB hz hk hl he (Nat.le_refl e)
 rwa [List.take_of_length_le (by rw [curL_len];exact Nat.le_refl e)] at this
theorem mk_nat (m:Nat):mkRat (m:Int) 1 = (m:Rat):=by rw [Rat.mkRat_eq_div];rw [show ((1:Nat):Rat) = 1 from rfl];push_cast;grind
attribute [local irreducible] Fit pt own ro vw mpc lpt vels rels mow lrc dfr
attribute [local irreducible] lmp lme mit velg relg bnd owl dfrl massW setsW massD smlT solE failQ stL curL leastW meanQ
set_option maxHeartbeats 2000000 in
theorem CurveFalls_tr (tv:Value) (tbl:List Int) (kk nn:Int):Tr Tryz.prog 12 [tv,I kk,I nn] [vw tv (Is tbl)] [] fun v D=>v = .bool true∧D = []:=by
 have hpk:=pickM_in (x:=kk) (m:=5) (by decide)
 have hpn:=pickM_in (x:=nn) (m:=8) (by decide)
 obtain ⟨k,hk⟩ : ∃ k:Nat,1 + pick kk 5 = k:=⟨(1 + pick kk 5).toNat,by omega⟩
 obtain ⟨n,hn⟩ : ∃ n:Nat,pick nn 8 = n:=⟨(pick nn 8).toNat,by omega⟩
 have hT:=small26_tr tv tbl kk k hk
 have hlen:=smlT_len 10 tbl k
 generalize smlT 10 tbl k = t at *
 have hC:=fun o=>SoCheck_tr o t k
 have h13:=@solE_13 t k
 by_cases hz:solE t k = 0
 rotate_left
 ·rw [h13 hz] at hC
  refine Tr.enter env _ Tryz.func12 (by kernel_rfl) rfl Tryz.ntmps12 rfl (by repeat (first | exact has00 | refine has01 ?_)) fun w0=>?_
  repeat' first|(refine gca ?_;first|(refine ca CurveKnown_tr ?_;rintro _ _ ⟨rfl,rfl⟩)|(refine ca (Pick_tr nn 8 (by decide)) ?_;rintro _ _ ⟨rfl,rfl⟩;rw [hn])|(refine ca hT ?_;rintro _ _ ⟨o,rfl,ho,rfl⟩)|(refine ca (hC o) ?_;rintro _ _ ⟨rfl,rfl⟩))|(refine wo ?_;first|(refine ao ?_;first|refine oa ?_)|refine oa ?_)|(refine gc ?_;first|refine ct ?_)|refine sq ?_|refine rg ?_|refine xc ?_|refine nl ?_|refine rt ?_
  exact r1 ⟨rfl,rfl⟩
 rw [hz] at hC
 have hCv:=fun o ho=>Curve_ok o ho t k n hz (by omega) (by omega) (by omega)
 have hM:=fun o ho=>Mean_ok o ho t k n hz (by omega) (by omega) (by omega)
 have hcl:=curL_len t k (n + 1)
 have hget:=fun i (hi:i < n + 1)=>curL_get (t:=t) (k:=k) hi
 have hq0:=failQ_zero hz
 have hfb:=fun i (hi:i < n + 1)=>failQ_FBc (t:=t) (k:=k) (n:=i) hz (by omega) (by omega) (by omega)
 have hsg:=fun i=>failQ_sign hz i
 have hSg:=fun i (hi:i < n + 1) v hv=>ISign_tr (failQ t k i).num v hv (Nat.le_trans (hfb i hi).1 (by decide))
 have hfall:=fun i=>failQ_falls hz i
 have hCm:=fun i (hi:i + 1 < n + 1) v1 v2 v3 v4 g1 g2 g3 g4=>FCmp_tr (failQ t k (i + 1)) (failQ t k i) v1 v2 v3 v4 g1 g2 g3 g4 (hfb (i + 1) hi) (hfb i (by omega)) (Nat.le_trans (cmp_dg (hfb (i + 1) hi) (hfb i (by omega))) (by decide))
 have hmF:=mean_all (e:=n) hz (by omega) (by omega) (by omega)
 obtain ⟨lo,hlo⟩ : ∃ lo:Nat,min n 1 = lo:=⟨_,rfl⟩
 have hP1:=FPair_tr lo 1 (by omega) (by decide) (by decide)
 have hP2:=FPair_tr n 1 (by omega) (by decide) (by decide)
 have f1:∀ x:Nat,x < 10→FB (mkRat (x:Int) 1) 1000:=fun x a=>FB.le (B:=1) (FB_mk1 (a:=x) (D:=1) (by decide) (by omega) (by decide)) (by decide)
 have hD1:=fun v1 v2 v3 v4 g1 g2 g3 g4=>FCmp_tr (mkRat (lo:Int) 1) (meanQ t k n) v1 v2 v3 v4 g1 g2 g3 g4 ((f1 lo (by omega)).le (by decide)) hmF (Nat.le_trans (cmp_dg (f1 lo (by omega)) hmF) (by decide))
 have hD2:=fun v1 v2 v3 v4 g1 g2 g3 g4=>FCmp_tr (meanQ t k n) (mkRat (n:Int) 1) v1 v2 v3 v4 g1 g2 g3 g4 hmF ((f1 n (by omega)).le (by decide)) (Nat.le_trans (cmp_dg hmF (f1 n (by omega))) (by decide))
 have hs1:(mkRat (lo:Int) 1 - meanQ t k n).num.sign ≤ 0:=sgn_le (by
  rw [mk_nat]
  rcases Nat.eq_zero_or_pos n with h | h
  ·rw [show lo = 0 by omega,show ((0:Nat):Rat) = 0 from rfl,mean_sR];exact sR_nonneg fun i _=>failQ_nonneg hz i
  ·rw [show lo = 1 by omega,show ((1:Nat):Rat) = 1 from rfl];exact mean_lo hz h)
 have hs2:(meanQ t k n - mkRat (n:Int) 1).num.sign ≤ 0:=sgn_le (by rw [mk_nat];exact mean_hi hz n)
 clear f1 hmF hz h13 hfb
 generalize (mkRat (lo:Int) 1 - meanQ t k n).num.sign = sa at *
 generalize (meanQ t k n - mkRat (n:Int) 1).num.sign = sb at *
 generalize meanQ t k n = mq at *
 have hI:=fun a b=>is26_tr (rqf (mkRat ((1:Nat):Int) 1)) a b 1 1 (by decide) (by decide) (by decide) rfl
 generalize mkRat (lo:Int) 1 = ql at *
 generalize mkRat (n:Int) 1 = qn at *
 unfold FQ2 at hM hP1 hP2
 rw [← hq0] at hI
 clear hq0
 generalize curL t k (n + 1) = L at *
 generalize failQ t k = F at *
 have hn1:(n:Int) + 1 = ((n + 1:Nat):Int):=rfl
 refine Tr.enter env _ Tryz.func12 (by kernel_rfl) rfl Tryz.ntmps12 rfl (by repeat (first | exact has00 | refine has01 ?_)) fun w0=>?_
 repeat' first|(refine gca ?_;first|(refine ca CurveKnown_tr ?_;rintro _ _ ⟨rfl,rfl⟩)|(refine ca (Pick_tr nn 8 (by decide)) ?_;rintro _ _ ⟨rfl,rfl⟩;rw [hn])|(refine ca hT ?_;rintro _ _ ⟨o,rfl,ho,rfl⟩)|(refine ca (hC o) ?_;rintro _ _ ⟨rfl,rfl⟩)|(refine ca (hCv o ho) ?_;rintro _ _ ⟨lv,lh,rfl,hlv,hlh,rfl⟩))|refine lnw (v:=lv) (N:=n + 1) ?_ (hm:=has_oww memA)|(refine wo ?_;first|(refine ao ?_;first|refine aw ?_|refine oa ?_)|refine oa ?_|refine gy ?_|(refine gsn (fun hB=>?_) (fun hB=>?_) <;> try (exfalso;omega)))|(refine gc ?_;first|refine cf ?_)|refine sq ?_|refine rg ?_|refine xc ?_|refine nl ?_|refine sk ?_
 have hrow:=fun i (hi:i < n + 1)=>rcs_row (hs:=lh) (qs:=L) (by omega) (i:=i) (by omega)
 have hgt:=fun (A:List Ch) (h:ofr lh L ∈ A) i (hi:i < n + 1)=>has_fr (has_ofr (hs:=lh) (qs:=L) (by omega) h) (by omega) (i:=i) (by omega)
 have hone:=hrow 0 (by omega)
 have hg0:=fun A h=>hgt A h 0 (by omega)
 rw [hget 0 (by omega)] at hone hg0
 repeat' first|(refine gca ?_;first|(refine ca (hI (lh.getD 0 nS2).1 (lh.getD 0 nS2).2) ?_ (hp:=has1 (hg0 _ memA).1 (has1 (hg0 _ memA).2 has0));rintro _ _ ⟨rfl,rfl⟩))|refine ixws (v:=lv) (N:=n + 1) ?_ (hm:=has_oww memA)|refine ldaw (v:=lv) (m:=3 * 0) (sz:=3) hone ?_ (hm:=has_oww memA)|(refine wo ?_;first|refine oa ?_|refine gy ?_)|(refine gc ?_;first|refine cf ?_)|refine sq ?_|refine rg ?_|refine xc ?_|refine nl ?_|refine sk ?_|refine bk ?_
 clear hone hg0 hI
 refine TC.loop (ι:=Nat) (fun i=>[(10,I i)]) (fun _=>[]) (fun i=>i ≤ n + 1) (fun i=>n + 1 - i) 0 [0,1,2,7,8] (Nat.zero_le _) ?_
 rintro i hi
 by_cases hlt:i < n + 1
 ·have hr:=hrow i hlt
  have hg:=fun A h=>hgt A h i hlt
  rw [hget i hlt] at hr hg
  refine TC.fact (fun w hw=>fr_one (hs:=lh) (qs:=L) (has_ofr (by omega) memA) (by omega) (i:=i) (by omega) w hw) fun hone=>?_
  have hSi:=hSg i hlt _ hone.1
  have hsi:=hsg i
  by_cases h0:i = 0
  ·clear hrow hgt hget hSg hCm hfall hM hP1 hP2 hD1 hD2
   generalize lh.getD i nS2 = hh at *
   obtain ⟨x1,x2⟩:=hh
   dsimp only at hg hSi
   have hr2:=rsub3 hr 0 2 (by decide)
   generalize (F i).num.sign = si at *
   generalize F i = y at *
   generalize rcs L lh = xs at *
   unfold iv at hSi
   repeat' first|(refine gca ?_;first|(refine ca hSi ?_ (hp:=has1 (hg _ memA).1 has0);rintro _ _ ⟨rfl,rfl⟩))|refine lnw (v:=lv) (N:=n + 1) (xs:=xs) ?_ (hm:=has_oww memA)|refine ixws (v:=lv) (N:=n + 1) (xs:=xs) ?_ (hm:=has_oww memA)|refine faf (v:=lv) ?_|refine ldaw (v:=lv) (sz:=2) (vs:=[.bool (decide (y.num < 0)),x1]) hr2 ?_ (hm:=has_oww memA)|(refine wo ?_;first|(refine ao ?_;first|refine aw ?_|refine oa ?_)|refine oa ?_)|(refine gc ?_;first|(refine ci (fun hB=>?_) (fun hB=>?_) <;> try (exfalso;omega)))|refine sq ?_|refine rg ?_|refine xc ?_|refine nl ?_|refine sk ?_|refine bk ?_|refine xb ?_
   exact lp (i + 1) (by omega)
  ·obtain ⟨j,rfl⟩ : ∃ j,i = j + 1:=⟨i - 1,by omega⟩
   have hrj:=hrow j (by omega)
   have hgj:=fun A h=>hgt A h j (by omega)
   rw [hget j (by omega)] at hrj hgj
   refine TC.fact (fun w hw=>fr_one (hs:=lh) (qs:=L) (has_ofr (by omega) memA) (by omega) (i:=j) (by omega) w hw) fun honj=>?_
   have hCj:=hCm j hlt _ _ _ _ hone.1 hone.2 honj.1 honj.2
   have hfj:=hfall j
   have hj1:((j + 1:Nat):Int) - 1 = (j:Int):=by omega
   clear hrow hgt hget hSg hCm hfall hM hP1 hP2 hD1 hD2
   generalize lh.getD (j + 1) nS2 = hh at *
   obtain ⟨x1,x2⟩:=hh
   generalize lh.getD j nS2 = hj at *
   obtain ⟨y1,y2⟩:=hj
   dsimp only at hg hgj hSi hCj
   have hr2:=rsub3 hr 0 2 (by decide)
   generalize (F (j + 1) - F j).num.sign = sj at *
   generalize (F (j + 1)).num.sign = si at *
   generalize F (j + 1) = y at *
   generalize F j = z at *
   generalize rcs L lh = xs at *
   unfold iv at hSi
   repeat' first|(refine gca ?_;first|(refine ca hSi ?_ (hp:=has1 (hg _ memA).1 has0);rintro _ _ ⟨rfl,rfl⟩))|refine lnw (v:=lv) (N:=n + 1) (xs:=xs) ?_ (hm:=has_oww memA)|refine ixws (v:=lv) (N:=n + 1) (xs:=xs) ?_ (hm:=has_oww memA)|refine faf (v:=lv) ?_|refine ldaw (v:=lv) (sz:=2) (vs:=[.bool (decide (y.num < 0)),x1]) hr2 ?_ (hm:=has_oww memA)|(refine wo ?_;first|(refine ao ?_;first|refine oa ?_)|refine oa ?_)|(refine gc ?_;first|(refine ci (fun hB=>?_) (fun hB=>?_) <;> try (exfalso;omega)))|refine sq ?_|refine rg ?_|refine xc ?_|refine nl ?_|refine sk ?_|refine bk ?_
   repeat' first|refine qixws (v:=lv) (N:=n + 1) (xs:=xs) ?_ (hm:=has_oww memA)|refine qldaw (v:=lv) (m:=3 * (j + 1)) (sz:=3) hr ?_ (hm:=has_oww memA)|refine qldaw (v:=lv) (m:=3 * j) (sz:=3) hrj ?_ (hm:=has_oww memA)|(refine qaw (m:=(j:Int)) ?_ (h:=by rw [← hj1];rfl))|(refine qca (v:=tup2 (I sj) (I 0)) hCj (fun u D h=>h) ?_ (hp:=has1 (hg _ memA).1 (has1 (hg _ memA).2 (has1 (hgj _ memA).1 (has1 (hgj _ memA).2 has0)))))|(refine wo ?_;first|(refine ao ?_;first|refine aw ?_|refine oa ?_)|refine oa ?_|refine gy ?_)|(refine gc ?_;first|(refine ci (fun hB=>?_) (fun hB=>?_) <;> try (exfalso;omega)))|refine sq ?_|refine rg ?_|refine xc ?_|refine nl ?_|refine sk ?_|refine xb ?_|refine rq ?_|refine nq ?_|(refine wq ?_;first|refine qa ?_)
   exact lp (j + 1 + 1) (by omega)
 ·obtain rfl:i = n + 1:=by omega
  clear hgt hrow hget hSg hCm hsg hfall
  repeat' first|(refine gca ?_;first|(refine ca (hM o ho) ?_;rintro _ _ ⟨m1,m2,rfl,hm1,hm2,rfl⟩)|(refine ca hP1 ?_;rintro _ _ ⟨p1,p2,rfl,hp1,hp2,rfl⟩)|(refine ca hP2 ?_;rintro _ _ ⟨p3,p4,rfl,hp3,hp4,rfl⟩)|(refine ca (hD1 p1 p2 m1 m2 hp1 hp2 hm1 hm2) ?_;rintro _ _ ⟨rfl,rfl⟩)|(refine ca (hD2 m1 m2 p3 p4 hm1 hm2 hp3 hp4) ?_;rintro _ _ ⟨rfl,rfl⟩))|refine lnw (v:=lv) (N:=n + 1) ?_ (hm:=has_oww memA)|refine al fun c=>?_|refine srz ?_|(refine mnn ?_;rw [show min (n:Int) 1 = (lo:Int) by omega])|refine lda ?_|(refine wo ?_;first|(refine ao ?_;first|refine oa ?_)|refine oa ?_|refine gy ?_|(refine gsi (fun hB=>?_) (fun hB=>?_) <;> try (exfalso;omega)))|(refine gc ?_;first|(refine ci (fun hB=>?_) (fun hB=>?_) <;> try (exfalso;omega)))|refine sq ?_|refine rg ?_|refine xc ?_|refine nl ?_|refine xe ?_|refine rt ?_
  all_goals exact r1 ⟨congrArg Value.bool (decide_eq_true hs2),rfl⟩
end Go.Art
namespace Go.Art
open Go Go.Proofs Go.RowKit
theorem least_no {F:Nat→Rat} {q:Rat}:∀ m s,leastR F q s m = none→∀ j,s ≤ j→j < s + m→¬ (F j - q).num.sign ≤ 0
 | 0,s,_,j,h1,h2=>by omega
 | m + 1,s,h,j,h1,h2=>by
  unfold leastR at h
  by_cases e:(F s - q).num.sign ≤ 0
  ·rw [if_pos e] at h;cases h
  ·rw [if_neg e] at h
   by_cases g:j = s
   ·rw [g];exact e
   ·exact least_no m (s + 1) h j (by omega) (by omega)
theorem least_yes {F:Nat→Rat} {q:Rat} {i:Nat}:∀ m s,leastR F q s m = some i→s ≤ i∧i < s + m∧(F i - q).num.sign ≤ 0∧∀ j,s ≤ j→j < i→¬ (F j - q).num.sign ≤ 0
 | 0,s,h=>by cases h
 | m + 1,s,h=>by
  unfold leastR at h
  by_cases e:(F s - q).num.sign ≤ 0
  ·rw [if_pos e] at h;cases h;exact ⟨Nat.le_refl _,by omega,e,fun j a b=>by omega⟩
  ·rw [if_neg e] at h
   obtain ⟨h1,h2,h3,h4⟩:=least_yes m (s + 1) h
   exact ⟨by omega,by omega,h3,fun j a b=>by
    by_cases g:j = s
    ·rw [g];exact e
    ·exact h4 j (by omega) b⟩
theorem num_le {p q:Rat} (h:(p - q).num ≤ 0):p ≤ q:=by
 have h2:0 ≤ (-(p - q)).num:=by rw [Rat.neg_num];omega
 have h3:=Rat.num_nonneg.1 h2
 grind
theorem le_sgn {p q:Rat} (h:(p - q).num.sign ≤ 0):p ≤ q:=num_le (by
 rcases Int.lt_or_le 0 (p - q).num with g | g
 ·rw [Int.sign_eq_one_of_pos g] at h;omega
 ·exact g)
theorem lt_sgn {p q:Rat} (h:(p - q).num.sign < 0):¬ q ≤ p:=fun g=>by
 have h1:0 ≤ p - q:=by grind
 have h2:=Rat.num_nonneg.2 h1
 rcases Int.lt_or_eq_of_le h2 with g | g
 ·rw [Int.sign_eq_one_of_pos g] at h;omega
 ·rw [← g] at h;revert h;decide
theorem least_more {F:Nat→Rat} {x y:Rat} {n i:Nat} (hxy:x ≤ y) (h:leastR F x 0 (n + 1) = some i):∃ m,leastR F y 0 (n + 1) = some m∧m ≤ i:=by
 obtain ⟨_,h2,h3,_⟩:=least_yes _ _ h
 have h4:(F i - y).num.sign ≤ 0:=sgn_le (by have:=le_sgn h3;grind)
 cases hm:leastR F y 0 (n + 1) with
 | none=>exact absurd h4 (least_no _ _ hm i (Nat.zero_le _) h2)
 | some m=>
  refine ⟨m,rfl,?_⟩
  obtain ⟨_,_,_,g⟩:=least_yes _ _ hm
  rcases Nat.lt_or_ge i m with a | a
  ·exact absurd h4 (g i (Nat.zero_le _) a)
  ·exact a
theorem thou_in:∀ a:Nat,a < 1000→1 ≤ a→(mkRat (a:Int) 1000 - 1).num.sign < 0∧0 < (mkRat (a:Int) 1000).num.sign:=by decide +kernel
theorem thou_le {a b:Nat} (h:a ≤ b):mkRat (a:Int) 1000 ≤ mkRat (b:Int) 1000:=by
 obtain ⟨c,rfl⟩:=Nat.exists_eq_add_of_le h
 have h1:0 ≤ mkRat ((a + c:Nat):Int) 1000 - mkRat (a:Int) 1000:=by
  refine FrQ.nonneg (E:=1000) ⟨c,?_⟩
  rw [Rat.mkRat_eq_div,Rat.mkRat_eq_div]
  push_cast
  grind
 grind
theorem thou_FB {a:Nat} (h:a < 1000):FB (mkRat (a:Int) 1000) 1000:=FB.le (B:=1) (FB_mk1 (a:=a) (D:=1000) (by decide) (by omega) (by decide)) (by decide)
attribute [local irreducible] Fit pt own ro vw mpc lpt vels rels mow lrc dfr
attribute [local irreducible] lmp lme mit velg relg bnd owl dfrl massW setsW massD smlT solE failQ stL curL leastW meanQ
set_option maxHeartbeats 2000000 in
theorem CurveSure_tr (tv:Value) (tbl:List Int) (kk aa bb nn:Int):Tr Tryz.prog 13 [tv,I kk,I aa,I bb,I nn] [vw tv (Is tbl)] [] fun v D=>v = .bool true∧D = []:=by
 have hpk:=pickM_in (x:=kk) (m:=5) (by decide)
 have hpn:=pickM_in (x:=nn) (m:=8) (by decide)
 have hpa:=pickM_in (x:=aa) (m:=999) (by decide)
 have hpb:=pickM_in (x:=bb) (m:=999) (by decide)
 obtain ⟨k,hk⟩ : ∃ k:Nat,1 + pick kk 5 = k:=⟨(1 + pick kk 5).toNat,by omega⟩
 obtain ⟨n,hn⟩ : ∃ n:Nat,pick nn 8 = n:=⟨(pick nn 8).toNat,by omega⟩
 obtain ⟨ma,hma⟩ : ∃ ma:Nat,1 + pick aa 999 = ma:=⟨(1 + pick aa 999).toNat,by omega⟩
 obtain ⟨mb,hmb⟩ : ∃ mb:Nat,1 + pick bb 999 = mb:=⟨(1 + pick bb 999).toNat,by omega⟩
 have hT:=small26_tr tv tbl kk k hk
 have hlen:=smlT_len 10 tbl k
 generalize smlT 10 tbl k = t at *
 have hC:=fun o=>SoCheck_tr o t k
 have h13:=@solE_13 t k
 by_cases hz:solE t k = 0
 rotate_left
 ·rw [h13 hz] at hC
  refine Tr.enter env _ Tryz.func13 (by kernel_rfl) rfl Tryz.ntmps13 rfl (by repeat (first | exact has00 | refine has01 ?_)) fun w0=>?_
  repeat' first|(refine gca ?_;first|(refine ca CurveKnown_tr ?_;rintro _ _ ⟨rfl,rfl⟩)|(refine ca (Pick_tr nn 8 (by decide)) ?_;rintro _ _ ⟨rfl,rfl⟩;rw [hn])|(refine ca (Pick_tr aa 999 (by decide)) ?_;rintro _ _ ⟨rfl,rfl⟩)|(refine ca (Pick_tr bb 999 (by decide)) ?_;rintro _ _ ⟨rfl,rfl⟩)|(refine ca hT ?_;rintro _ _ ⟨o,rfl,ho,rfl⟩)|(refine ca (hC o) ?_;rintro _ _ ⟨rfl,rfl⟩))|(refine aw (m:=1 + pick aa 999) ?_;rw [hma])|(refine aw (m:=1 + pick bb 999) ?_;rw [hmb])|(refine wo ?_;first|(refine ao ?_;first|refine oa ?_)|refine oa ?_)|(refine gc ?_;first|refine ct ?_)|refine sq ?_|refine rg ?_|refine xc ?_|refine nl ?_|refine rt ?_
  exact r1 ⟨rfl,rfl⟩
 rw [hz] at hC
 obtain ⟨lo,hlo⟩ : ∃ lo:Nat,min ma mb = lo:=⟨_,rfl⟩
 obtain ⟨hi,hhi⟩ : ∃ hi:Nat,max ma mb = hi:=⟨_,rfl⟩
 have hCv:=fun o ho=>Curve_ok o ho t k n hz (by omega) (by omega) (by omega)
 have hLx:=fun o ho e1 e2 g1 g2=>Least_ok o ho t k n (mkRat (lo:Int) 1000) e1 e2 g1 g2 hz (by omega) (by omega) (by omega) (thou_FB (by omega)) (thou_in lo (by omega) (by omega))
 have hLy:=fun o ho e1 e2 g1 g2=>Least_ok o ho t k n (mkRat (hi:Int) 1000) e1 e2 g1 g2 hz (by omega) (by omega) (by omega) (thou_FB (by omega)) (thou_in hi (by omega) (by omega))
 have hPx:=FPair_tr lo 1000 (by omega) (by decide) (by decide)
 have hPy:=FPair_tr hi 1000 (by omega) (by decide) (by decide)
 have hFx:=(thou_FB (a:=lo) (by omega)).le (C:=8589934592) (by decide)
 have hxy:=thou_le (a:=lo) (b:=hi) (by omega)
 have hx1:=(thou_in lo (by omega) (by omega)).1
 have hcl:=curL_len t k (n + 1)
 have hget:=fun i (hi:i < n + 1)=>curL_get (t:=t) (k:=k) hi
 have hq0:=failQ_zero hz
 rw [mk_one 1 (by decide)] at hq0
 have hCm:=fun i (hi:i < n + 1) v1 v2 v3 v4 g1 g2 g3 g4=>FCmp_tr (failQ t k i) (mkRat (lo:Int) 1000) v1 v2 v3 v4 g1 g2 g3 g4 (failQ_FBc hz (by omega) (by omega) (by omega)) hFx (Nat.le_trans (cmp_dg (failQ_FBc hz (by omega) (by omega) (by omega)) (thou_FB (a:=lo) (by omega))) (by decide))
 have hmn:min (ma:Int) (mb:Int) = (lo:Int):=by omega
 have hmx:max (ma:Int) (mb:Int) = (hi:Int):=by omega
 clear hFx hz h13
 generalize mkRat (lo:Int) 1000 = x at *
 generalize mkRat (hi:Int) 1000 = y at *
 unfold FQ2 at hPx hPy
 generalize curL t k (n + 1) = L at *
 generalize failQ t k = F at *
 have hn1:(n:Int) + 1 = ((n + 1:Nat):Int):=rfl
 have hLs:∀ {v:Value} {lh:List HV} (hlh:lh.length = n + 1) (A:List Ch),ofr lh L ∈ A→∀ i,i < n + 1→Has A (vw (lh.getD i nS2).1 (Us (dg (F i).num.natAbs)))∧Has A (vw (lh.getD i nS2).2 (Us (dg (F i).den))):=fun {v lh} hlh A h i hi=>by
  have:=has_fr (has_ofr (hs:=lh) (qs:=L) (by omega) h) (by omega) (i:=i) (by omega)
  rwa [hget i hi] at this
 cases hR:leastR F x 0 (n + 1) with
 | none=>
  have hno:=least_no _ _ hR n (Nat.zero_le _) (by omega)
  rw [leastW_none hR] at hLx
  have hCn:=hCm n (by omega)
  clear hR hCm hx1 hxy hq0
  generalize leastW F y n = ly at *
  obtain ⟨y1,y2,y3⟩:=ly
  unfold LW at hLx hLy
  dsimp only at hLx hLy
  generalize (F n - x).num.sign = sn at *
  refine Tr.enter env _ Tryz.func13 (by kernel_rfl) rfl Tryz.ntmps13 rfl (by repeat (first | exact has00 | refine has01 ?_)) fun w0=>?_
  repeat' first|(refine gca ?_;first|(refine ca CurveKnown_tr ?_;rintro _ _ ⟨rfl,rfl⟩)|(refine ca (Pick_tr nn 8 (by decide)) ?_;rintro _ _ ⟨rfl,rfl⟩;rw [hn])|(refine ca (Pick_tr aa 999 (by decide)) ?_;rintro _ _ ⟨rfl,rfl⟩)|(refine ca (Pick_tr bb 999 (by decide)) ?_;rintro _ _ ⟨rfl,rfl⟩)|(refine ca hT ?_;rintro _ _ ⟨o,rfl,ho,rfl⟩)|(refine ca (hC o) ?_;rintro _ _ ⟨rfl,rfl⟩)|(refine ca hPx ?_;rintro _ _ ⟨x1,x2,rfl,hx1,hx2,rfl⟩)|(refine ca hPy ?_;rintro _ _ ⟨z1,z2,rfl,hz1,hz2,rfl⟩)|(refine ca (hCv o ho) ?_;rintro _ _ ⟨lv,lh,rfl,hlv,hlh,rfl⟩)|(refine ca (hLx o ho x1 x2 hx1 hx2) ?_;rintro _ _ ⟨n1,d1,rfl,hn1',hd1',rfl⟩)|(refine ca (hLy o ho z1 z2 hz1 hz2) ?_;rintro _ _ ⟨n2,d2,rfl,hn2,hd2,rfl⟩))|(refine aw (m:=1 + pick aa 999) ?_;rw [hma])|(refine aw (m:=1 + pick bb 999) ?_;rw [hmb])|refine al fun c=>?_|refine srz ?_|refine lda ?_|(refine mnn ?_;rw [hmn])|(refine mxx ?_;rw [hmx])|refine lnw (v:=lv) (N:=n + 1) ?_ (hm:=has_oww memA)|(refine wo ?_;first|(refine ao ?_;first|refine aw ?_|refine oa ?_)|refine oa ?_|refine gy ?_)|(refine gc ?_;first|refine ct ?_|refine cf ?_|(refine cn (fun hB=>?_) (fun hB=>?_) <;> try (exfalso;omega)))|refine sq ?_|refine rg ?_|refine xc ?_|refine nl ?_|refine sk ?_
  have hr:=rcs_row (hs:=lh) (qs:=L) (by omega) (i:=n) (by omega)
  rw [hget n (by omega)] at hr
  have hg:=fun A h=>hLs (v:=lv) hlh A h n (by omega)
  refine TC.fact (fun w hw=>fr_one (hs:=lh) (qs:=L) (has_ofr (by omega) memA) (by omega) (i:=n) (by omega) w hw) fun hone=>?_
  have hCn:=hCn _ _ x1 x2 hone.1 hone.2 hx1 hx2
  clear hLs hget
  generalize lh.getD n nS2 = hh at *
  generalize rcs L lh = xs at *
  repeat' first|refine qixws (v:=lv) (N:=n + 1) (xs:=xs) ?_ (hm:=has_oww memA)|refine qldaw (v:=lv) (m:=3 * n) (sz:=3) hr ?_ (hm:=has_oww memA)|refine qlda ?_|(refine qca (v:=tup2 (I sn) (I 0)) hCn (fun u D h=>h) ?_ (hp:=has1 (hg _ memA).1 (has1 (hg _ memA).2 (has1 hasA (has1 hasA has0)))))|(refine wo ?_;first|(refine ao ?_;first|refine oa ?_)|refine oa ?_|refine gy ?_)|refine sq ?_|refine rg ?_|refine xc ?_|refine nl ?_|refine rt ?_|refine rq ?_|refine nq ?_|(refine wq ?_;first|refine qa ?_)
  all_goals exact r1 ⟨congrArg Value.bool (decide_eq_true (show 0 < sn by omega)),rfl⟩
 | some i=>
  obtain ⟨_,hi1,hi2,hi3⟩:=least_yes _ _ hR
  have hi0:1 ≤ i:=by
   rcases Nat.eq_zero_or_pos i with e | e
   ·subst e
    rw [hq0] at hi2
    exact absurd (le_sgn hi2) (lt_sgn hx1)
   ·exact e
  obtain ⟨m,hm,hmi⟩:=least_more hxy hR
  rw [leastW_some hR] at hLx
  rw [leastW_some hm] at hLy
  have hCi:=hCm i (by omega)
  obtain ⟨j,rfl⟩ : ∃ j,i = j + 1:=⟨i - 1,by omega⟩
  have hCj:=hCm j (by omega)
  have hj3:=hi3 j (Nat.zero_le _) (by omega)
  clear hR hCm hx1 hxy hq0 hm hi3
  unfold LW at hLx hLy
  dsimp only at hLx hLy
  have hSR:=fun a b c d=>SameRatioT_tr (rqf (F (j + 1))) a b c d
  unfold rqf at hSR
  dsimp only at hSR
  generalize (F (j + 1) - x).num.sign = si at *
  generalize (F j - x).num.sign = sj at *
  refine Tr.enter env _ Tryz.func13 (by kernel_rfl) rfl Tryz.ntmps13 rfl (by repeat (first | exact has00 | refine has01 ?_)) fun w0=>?_
  repeat' first|(refine gca ?_;first|(refine ca CurveKnown_tr ?_;rintro _ _ ⟨rfl,rfl⟩)|(refine ca (Pick_tr nn 8 (by decide)) ?_;rintro _ _ ⟨rfl,rfl⟩;rw [hn])|(refine ca (Pick_tr aa 999 (by decide)) ?_;rintro _ _ ⟨rfl,rfl⟩)|(refine ca (Pick_tr bb 999 (by decide)) ?_;rintro _ _ ⟨rfl,rfl⟩)|(refine ca hT ?_;rintro _ _ ⟨o,rfl,ho,rfl⟩)|(refine ca (hC o) ?_;rintro _ _ ⟨rfl,rfl⟩)|(refine ca hPx ?_;rintro _ _ ⟨x1,x2,rfl,hx1,hx2,rfl⟩)|(refine ca hPy ?_;rintro _ _ ⟨z1,z2,rfl,hz1,hz2,rfl⟩)|(refine ca (hCv o ho) ?_;rintro _ _ ⟨lv,lh,rfl,hlv,hlh,rfl⟩)|(refine ca (hLx o ho x1 x2 hx1 hx2) ?_;rintro _ _ ⟨n1,d1,rfl,hn1',hd1',rfl⟩)|(refine ca (hLy o ho z1 z2 hz1 hz2) ?_;rintro _ _ ⟨n2,d2,rfl,hn2,hd2,rfl⟩))|(refine aw (m:=1 + pick aa 999) ?_;rw [hma])|(refine aw (m:=1 + pick bb 999) ?_;rw [hmb])|refine al fun c=>?_|refine srz ?_|refine lda ?_|(refine mnn ?_;rw [hmn])|(refine mxx ?_;rw [hmx])|refine lnw (v:=lv) (N:=n + 1) ?_ (hm:=has_oww memA)|(refine wo ?_;first|(refine ao ?_;first|refine aw ?_|refine oa ?_)|refine oa ?_|refine gy ?_)|(refine gc ?_;first|refine cf ?_|(refine cn (fun hB=>?_) (fun hB=>?_) <;> try (exfalso;omega)))|refine sq ?_|refine rg ?_|refine xc ?_|refine nl ?_|refine sk ?_
  have hr:=rcs_row (hs:=lh) (qs:=L) (by omega) (i:=j + 1) (by omega)
  have hrj:=rcs_row (hs:=lh) (qs:=L) (by omega) (i:=j) (by omega)
  rw [hget (j + 1) (by omega)] at hr
  rw [hget j (by omega)] at hrj
  have hg:=fun A h=>hLs (v:=lv) hlh A h (j + 1) (by omega)
  have hgj:=fun A h=>hLs (v:=lv) hlh A h j (by omega)
  refine TC.fact (fun w hw=>fr_one (hs:=lh) (qs:=L) (has_ofr (by omega) memA) (by omega) (i:=j + 1) (by omega) w hw) fun hone=>?_
  refine TC.fact (fun w hw=>fr_one (hs:=lh) (qs:=L) (has_ofr (by omega) memA) (by omega) (i:=j) (by omega) w hw) fun honj=>?_
  have hCj:=hCj _ _ x1 x2 honj.1 honj.2 hx1 hx2
  have hCi:=hCi n1 d1 x1 x2 hn1' hd1' hx1 hx2
  have hj1:((j + 1:Nat):Int) - 1 = (j:Int):=by omega
  clear hLs hget
  generalize lh.getD (j + 1) nS2 = hh at *
  generalize lh.getD j nS2 = hj at *
  generalize rcs L lh = xs at *
  repeat' first|(refine gca ?_;first|(refine ca hCi ?_;rintro _ _ ⟨rfl,rfl⟩))|refine qixws (v:=lv) (N:=n + 1) (xs:=xs) ?_ (hm:=has_oww memA)|refine qldaw (v:=lv) (m:=3 * (j + 1)) (sz:=3) hr ?_ (hm:=has_oww memA)|refine qldaw (v:=lv) (m:=3 * j) (sz:=3) hrj ?_ (hm:=has_oww memA)|refine qlda ?_|refine lda ?_|(refine qaw (m:=(j:Int)) ?_ (h:=by rw [← hj1];rfl))|(refine qca (v:=.bool true) (hSR hh.1 hh.2 n1 d1) (fun u D h=>h) ?_ (hp:=has1 (hg _ memA).1 (has1 (hg _ memA).2 (has1 hasA (has1 hasA has0)))))|(refine qca (v:=tup2 (I sj) (I 0)) hCj (fun u D h=>h) ?_ (hp:=has1 (hgj _ memA).1 (has1 (hgj _ memA).2 (has1 hasA (has1 hasA has0)))))|(refine wo ?_;first|(refine ao ?_;first|refine oa ?_)|refine oa ?_|refine gy ?_|(refine gsi (fun hB=>?_) (fun hB=>?_) <;> try (exfalso;omega)))|(refine gc ?_;first|refine cf ?_)|refine sq ?_|refine rg ?_|refine xc ?_|refine nl ?_|refine sk ?_|refine rt ?_|refine rq ?_|refine nq ?_|(refine wq ?_;first|(refine qao ?_;first|refine qa ?_)|refine qa ?_|refine qgy ?_|(refine qgsi (fun hB=>?_) (fun hB=>?_) <;> try (exfalso;omega)))
  all_goals exact r1 ⟨congrArg Value.bool (decide_eq_true (show 0 < sj by omega)),rfl⟩
end Go.Art
