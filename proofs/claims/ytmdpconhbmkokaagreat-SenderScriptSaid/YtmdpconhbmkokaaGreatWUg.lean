/- Texts put together: Oi Rd Si KPick Sj Rt Lp Lq St Sv Tw Hf Hg Hh Gc Gp Ga Gl Gs. Conditions: none. -/
import Derived.Test.YtmdpconhbmkokaaGreatWUf
set_option linter.unusedSimpArgs false
set_option linter.unusedVariables false
namespace Go.Art
open Go Go.RowKit
section
variable {H:Type} {enc:TypeId × Value→H} {P:Program} {w:World} {base fuel:Nat} {t e:TypeId} {k:IntKind} {cs:List Value} {x:DataW H × List MemPlace}
theorem Env.cells (E:Env P) {z:Value} {s b:Nat} (h:lk E.inf t = some (z,s,b)):P.cellsOf t = s:=by
 obtain ⟨i,h1,_,h2,_⟩:=E.info h
 simp [Program.cellsOf,h1,h2]
theorem leaf_int (E:Env P) (h:DataW.trod enc P w base (fun _=>true) true fuel t cs = some x) (ht:lk E.und t = some (.int k):=by rfl):∃ n,cs = [.int k n]∧(Lit.int k n).wf = true:=by
 obtain ⟨n,h1,_,h2⟩:=DataW.trod_int (E.un ht) h
 exact ⟨n,h1,h2⟩
theorem leaf_field (E:Env P) {fs:Array Field} (h:DataW.trod enc P w base (fun _=>true) true fuel t cs = some x) (ht:lk E.und t = some (.struct fs):=by rfl) {i:Nat} {f:Field} {z:Value} {s b:Nat} (hf:fs[i]? = some f) (he:lk E.inf f.type = some (z,s,b)) :
  ∃ n y,DataW.trod enc P w base (fun _=>true) true n f.type ((cs.drop f.offset).take s) = some y:=by
 obtain ⟨xs,n,_,_,_,hl,hx⟩:=DataW.trod_struct (E.un ht) h
 have h1:=hx i f hf
 rw [E.cells he] at h1
 have:i < xs.length:=by rw [hl];exact (Array.getElem?_eq_some_iff.1 hf).1
 exact ⟨n,xs[i],by rw [h1,List.getElem?_eq_getElem this]⟩
theorem leaf_len (E:Env P) {fs:Array Field} (h:DataW.trod enc P w base (fun _=>true) true fuel t cs = some x) (ht:lk E.und t = some (.struct fs):=by rfl) {z:Value} {s b:Nat} (he:lk E.inf t = some (z,s,b)):cs.length = s:=by
 obtain ⟨xs,n,_,_,h1,_⟩:=DataW.trod_struct (E.un ht) h
 rw [h1,E.cells he]
theorem leaf_row (E:Env P) (h:DataW.trod enc P w base (fun _=>true) true fuel t cs = some x) {z:Value} {b:Nat} (ht:lk E.und t = some (.slice e):=by rfl) (he:lk E.und e = some (.int k):=by rfl) (hc:lk E.inf e = some (z,1,b):=by rfl) :
  ∃ (v:Value) (l:List Int),cs = [v]∧Sl w v (l.map (.int k))∧(∀ n ∈ l,(Lit.int k n).wf = true)∧v.oneCell' = true:=by
 rcases Go.ChangeShapes.open_ints (E.un ht) (E.un he) (E.cells hc) h with ⟨rfl,_⟩ | ⟨a,len,cap,zs,rfl,_,hl,hm,hz,_,hcell,hw⟩
 ·exact ⟨_,[],rfl,Sl.nil w,by simp,rfl⟩
 ·simp only [if_true] at hz
  refine ⟨_,zs.take len,rfl,⟨some a,cap,by simp;omega,by simp;omega,hm,fun i u hi=>⟨a,rfl,?_⟩⟩,fun n hn=>hw n (List.mem_of_mem_take hn),rfl⟩
  have hlt:i < len∧i < zs.length:=by
   have:=(List.getElem?_eq_some_iff.1 hi).1
   simp at this;omega
  rw [hcell i hlt.2]
  simp [hlt.1,hlt.2] at hi
  rw [← hi];simp [List.getD_eq_getElem?_getD,hlt.2]
theorem leaf_rows (E:Env P) (h:DataW.trod enc P w base (fun _=>true) true fuel t cs = some x) {z:Value} {s b:Nat} (ht:lk E.und t = some (.slice e):=by rfl) (hc:lk E.inf e = some (z,s,b):=by rfl) :
  ∃ (v:Value) (rs:List (List Value)),cs = [v]∧SlW w v rs.length rs.flatten∧(∀ r ∈ rs,r.length = s)∧(∀ (i:Nat) (r:List Value),rs[i]? = some r→∃ n y,DataW.trod enc P w base (fun _=>true) true n e r = some y)∧v.oneCell' = true:=by
 rcases Deep.open_slice (E.un ht) h with ⟨rfl,_⟩ | ⟨a,len,cap,m,n,D,Pl,rfl,_,hl,hm,hmm,_,hx⟩
 ·exact ⟨_,[],rfl,⟨none,0,rfl,Nat.le_refl _,Nat.zero_le _,fun h=>absurd h (Nat.lt_irrefl _),fun i u hi=>by simp at hi⟩,by simp,fun i r h=>by simp at h,rfl⟩
 ·simp only [if_true] at hmm
  subst hmm
  rw [E.cells hc] at hx
  obtain ⟨R,hR⟩:=Deep.choose_lt (α:=List Value) (n:=m) (p:=fun i cs'=>w.cells? base (a.add (i * s)) s = some cs'∧DataW.trod enc P w base (fun _=>true) true n e cs' = some (D i,Pl i)) hx
  have hlen:∀ i,i < m→(R i).length = s:=fun i hi=>(World.cells?_some (hR i hi).1).2.1
  refine ⟨_,(List.range len).map R,rfl,⟨some a,m,by simp,by simpa using hl,hm,fun _=>⟨a,rfl⟩,fun i u hi=>⟨a,rfl,?_⟩⟩,?_,?_,rfl⟩
  ·have key:∀ (k:Nat),k ≤ m→∀ i u,(((List.range k).map R).flatten)[i]? = some u→w.cell? (a.add i) = some u:=by
    intro k
    induction k with
    | zero=>intro _ i u h;simp at h
    | succ k ih=>
     intro hk i u h
     rw [List.range_succ,List.map_append,List.flatten_append] at h
     have hfl:(((List.range k).map R).flatten).length = k * s:=by
      have:∀ j,j ≤ k→(((List.range j).map R).flatten).length = j * s:=by
       intro j
       induction j with
       | zero=>intro _;simp
       | succ j ihj=>intro hj;rw [List.range_succ,List.map_append,List.flatten_append,List.length_append,ihj (by omega)];simp [hlen j (by omega),Nat.succ_mul]
      exact this k (Nat.le_refl _)
     by_cases hlt:i < k * s
     ·rw [List.getElem?_append_left (by omega)] at h
      exact ih (by omega) i u h
     ·rw [List.getElem?_append_right (by omega),hfl] at h
      simp at h
      have hs:i - k * s < s:=by
       have:=(List.getElem?_eq_some_iff.1 h).1
       rw [hlen k (by omega)] at this;exact this
      have h3:=(World.cells?_some (hR k (by omega)).1).2.2 (i - k * s) hs
      rw [Deep.add_add,show k * s + (i - k * s) = i by omega,h] at h3
      exact h3
   exact key len hl i u hi
  ·intro r hr
   obtain ⟨i,hi,rfl⟩:=List.mem_map.1 hr
   exact hlen i (by have:=List.mem_range.1 hi;omega)
  ·intro i r hi
   simp only [List.getElem?_map,Option.map_eq_some_iff] at hi
   obtain ⟨j,hj,rfl⟩:=hi
   have hj':i < len:=by simpa using (List.getElem?_eq_some_iff.1 hj).1
   rw [List.getElem?_range hj'] at hj
   cases hj
   exact ⟨n,_,(hR i (by omega)).2⟩
theorem wide_agg (E:Env P) {fs:Array Field} {r:Reach} {v:Value} (h:Value.okWide P w r base t v) (ht:lk E.und t = some (.struct fs):=by rfl):∃ cs,v = .agg cs:=by
 unfold Value.okWide at h
 rw [E.un ht] at h
 obtain ⟨cs,rfl,_⟩:=h
 exact ⟨cs,rfl⟩
theorem wide_sl (E:Env P) {r:Reach} {v:Value} (h:Value.okWide P w r base t v) (ht:lk E.und t = some (.slice e):=by rfl):v.cells.toList = [v]:=by
 obtain ⟨a,l,c,rfl⟩:=Go.WideShapes.okWide_slice (E.un ht) h
 rfl
end
end Go.Art
namespace Go.Art
open Go Go.RowKit
structure SatL (A:List Ch) (w:World):Prop where
 s:Sat A w
 l:∀ c ∈ A,∀ b,¬ c.wr b
theorem SatL.nil (w:World):SatL [] w:=⟨Sat.nil w,fun _ h=>nomatch h⟩
theorem SatL.cons {c:Ch} {A:List Ch} {w:World} [hc:Lent c] (h:c.P w) (k:SatL A w):SatL (c :: A) w:=
 ⟨Sat.cons.2 ⟨h,fun a ha=>⟨fun b hb=>absurd hb (hc.lent b).1,fun b hb=>absurd hb (k.l a ha b)⟩,k.s⟩,fun x hx b=>by rcases List.mem_cons.1 hx with rfl | hx;exact (hc.lent b).1;exact k.l x hx b⟩
structure IsMat (k:IntKind) (w:World) (v:Value) (hs:List Value) (ls:List (List Int)):Prop where
 sl:Sl w v hs
 len:hs.length = ls.length
 el:∀ i,i < ls.length→Sl w (hs.getD i nS) ((ls.getD i []).map (.int k))∧∀ n ∈ ls.getD i [],(Lit.int k n).wf = true
theorem getD_map_range {α:Type} (f:Nat→α) (n i:Nat) (z:α) (h:i < n):((List.range n).map f).getD i z = f i:=by simp [List.getD_eq_getElem?_getD,h]
theorem isMat_of {H:Type} {enc:TypeId × Value→H} {P:Program} {w:World} {base fuel:Nat} {t e q:TypeId} {k:IntKind} {a:Option Addr} {len cap:Nat} {x:DataW H × List MemPlace} (ht:P.underlying t = some (.slice e)) (he:P.underlying e = some (.slice q)) (hq:P.underlying q = some (.int k))
  (ce:P.cellsOf e = 1) (cq:P.cellsOf q = 1) (h:DataW.trod enc P w base (fun _=>true) true fuel t [.slice a len cap] = some x):∃ hs ls,IsMat k w (.slice a len cap) hs ls:=by
 rcases Deep.open_int_rows ht he hq ce cq h with ⟨hcs,_⟩ | ⟨ad,l,c,A,L,C,Z,hcs,_,hl,hm,_,hr⟩
 ·injection hcs with hcs;injection hcs with h1 h2 h3
  subst h1 h2 h3
  exact ⟨[],[],Sl.nil w,rfl,fun i hi=>by simp at hi⟩
 ·injection hcs with hcs;injection hcs with h1 h2 h3
  subst h1 h2 h3
  refine ⟨(List.range len).map fun r=>.slice (A r) (L r) (C r),(List.range len).map fun r=>(Z r).take (L r),?_,by simp,fun i hi=>?_⟩
  ·refine ⟨some ad,cap,by simp,by simpa using hl,hm,fun i u hi=>⟨ad,rfl,?_⟩⟩
   simp only [List.getElem?_map,Option.map_eq_some_iff] at hi
   obtain ⟨r,hr1,rfl⟩:=hi
   have:i < len:=by
    have:=(List.getElem?_eq_some_iff.1 hr1).1
    simpa using this
   rw [List.getElem?_range this] at hr1;cases hr1
   exact (hr i (by omega)).1
  ·have hi':i < len:=by simpa using hi
   obtain ⟨_,h4,h5,h6,h7,h8,h9⟩:=hr i (by omega)
   rw [getD_map_range _ _ _ _ hi',getD_map_range _ _ _ _ hi']
   refine ⟨?_,fun n hn=>h7 n (List.mem_of_mem_take hn)⟩
   cases hA:A i with
   | none=>
    have hc:=h8 hA
    have hz:Z i = []:=List.eq_nil_of_length_eq_zero (by omega)
    have h0:L i = 0:=by omega
    rw [hz,hc,h0];exact Sl.nil w
   | some a'=>
    refine ⟨some a',C i,by simp;omega,by simp;omega,h5,fun j u hj=>⟨a',rfl,?_⟩⟩
    simp only [List.getElem?_map,Option.map_eq_some_iff] at hj
    obtain ⟨z,hz1,rfl⟩:=hj
    rw [List.getElem?_take] at hz1
    split at hz1
    ·rw [(h9 a' hA).2 j (by omega)]
     simp [List.getD_eq_getElem?_getD,hz1]
    ·cases hz1
open Go Go.Proofs Go.RowKit
def InAll (w:World) (v:Value):Prop:=
 ∃ (m:MfS) (tv dv:Value) (d:List Int) (ses bud tmo:Int),v = .agg #[I m.size,I m.sym,I m.k,I m.seed,tv,dv,I ses,I bud,I tmo]∧tv.oneCell' = true∧dv.oneCell' = true∧Sl w tv (Is m.t)∧Sl w dv (By d) ∧
  inB d∧m.seed ≤ 9223372036854775807∧(-9223372036854775808 ≤ m.sym∧m.sym ≤ 9223372036854775807)∧(-9223372036854775808 ≤ tmo∧tmo ≤ 9223372036854775807)
theorem wf_i {n:Int} (h:(Lit.int .i64 n).wf = true) : -9223372036854775808 ≤ n∧n ≤ 9223372036854775807:=by have:=Go.bounds_i64 h;omega
theorem wf_b {l:List Int} (h:∀ n ∈ l,(Lit.int .u8 n).wf = true):inB l:=fun n hn=>by have:=Go.bounds_u8 (h n hn);omega
set_option maxRecDepth 20000 in
theorem inAll_of {H:Type} {enc:TypeId × Value→H} {w:World} {r:Reach} {base:Nat} {v:Value} {d:DataW H} {ps:List MemPlace} (hv:Value.okWide Tryz.prog w r base 27 v)
  (h:DataW.Trod enc Tryz.prog w 0 (fun _=>true) true 27 v d ps):InAll w v:=by
 obtain ⟨cs,rfl⟩:=wide_agg env hv
 obtain ⟨fuel,h⟩:=h
 have h:DataW.trod enc Tryz.prog w 0 (fun _=>true) true fuel 27 cs.toList = some (d,ps):=h
 have hl:=leaf_len env h rfl rfl
 have hc:cs = cs.toList.toArray:=by simp
 rw [hc]
 generalize cs.toList = l at *
 match l,hl with
 | [c0,c1,c2,c3,c4,c5,c6,c7,c8],_=>
  obtain ⟨_,_,g0⟩:=leaf_field env h (i:=0) rfl rfl rfl
  obtain ⟨_,_,g1⟩:=leaf_field env h (i:=1) rfl rfl rfl
  obtain ⟨_,_,g2⟩:=leaf_field env h (i:=2) rfl rfl rfl
  obtain ⟨_,_,g3⟩:=leaf_field env h (i:=3) rfl rfl rfl
  obtain ⟨_,_,g4⟩:=leaf_field env h (i:=4) rfl rfl rfl
  obtain ⟨_,_,k0⟩:=leaf_field env g0 (i:=0) rfl rfl rfl
  obtain ⟨_,_,k1⟩:=leaf_field env g0 (i:=1) rfl rfl rfl
  obtain ⟨_,_,k2⟩:=leaf_field env g0 (i:=2) rfl rfl rfl
  obtain ⟨_,_,k3⟩:=leaf_field env g0 (i:=3) rfl rfl rfl
  obtain ⟨_,_,k4⟩:=leaf_field env g0 (i:=4) rfl rfl rfl
  obtain ⟨size,e0,b0⟩:=leaf_int env k0
  obtain ⟨sym,e1,b1⟩:=leaf_int env k1
  obtain ⟨k,e2,b2⟩:=leaf_int env k2
  obtain ⟨seed,e3,b3⟩:=leaf_int env k3
  obtain ⟨tv,t,e4,s4,b4,o4⟩:=leaf_row env k4
  obtain ⟨dv,dl,e5,s5,b5,o5⟩:=leaf_row env g1
  obtain ⟨ses,e6,b6⟩:=leaf_int env g2
  obtain ⟨bud,e7,b7⟩:=leaf_int env g3
  obtain ⟨tmo,e8,b8⟩:=leaf_int env g4
  injection e0 with e0;injection e1 with e1;injection e2 with e2;injection e3 with e3;injection e4 with e4;injection e5 with e5;injection e6 with e6;injection e7 with e7;injection e8 with e8
  subst e0 e1 e2 e3 e4 e5 e6 e7 e8
  exact ⟨⟨size,sym,k,seed,t⟩,c4,c5,dl,ses,bud,tmo,rfl,o4,o5,s4,s5,wf_b b5,(wf_i b3).2,wf_i b1,wf_i b8⟩
def InActs (w:World) (v:Value):Prop:=
 ∃ (ts:List Int) (hs:List Value) (ls:List (List Int)),ts.length = ls.length∧SlW w v ls.length (pc ((Is ts).zip hs))∧elgP y8 hs ls w∧(∀ l ∈ ls,inB l)∧∀ h ∈ hs,h.oneCell' = true
set_option maxRecDepth 20000 in
theorem acts_rows {H:Type} {enc:TypeId × Value→H} {w:World}:∀ (rs:List (List Value)),(∀ r ∈ rs,r.length = 2) →
  (∀ (i:Nat) (r:List Value),rs[i]? = some r→∃ n y,DataW.trod enc Tryz.prog w 0 (fun _=>true) true n 46 r = some y) →
  ∃ (ts:List Int) (hs:List Value) (ls:List (List Int)),ts.length = ls.length∧rs.length = ls.length∧rs.flatten = pc ((Is ts).zip hs)∧elgP y8 hs ls w∧(∀ l ∈ ls,inB l)∧∀ h ∈ hs,h.oneCell' = true
 | [],_,_=>⟨[],[],[],rfl,rfl,rfl,⟨rfl,fun i hi=>by simp at hi⟩,by simp,by simp⟩
 | r :: rs,hl,hx=>by
  obtain ⟨ts,hs,ls,h1,h2,h3,h4,h5,h6⟩:=acts_rows rs (fun r hr=>hl r (by simp [hr])) (fun i r hi=>hx (i + 1) r (by simpa using hi))
  obtain ⟨_,_,g⟩:=hx 0 r rfl
  have h0:=hl r (by simp)
  match r,h0 with
  | [c0,c1],_=>
   obtain ⟨_,_,g0⟩:=leaf_field env g (i:=0) rfl rfl rfl
   obtain ⟨_,_,g1⟩:=leaf_field env g (i:=1) rfl rfl rfl
   obtain ⟨n,e0,b0⟩:=leaf_int env g0
   obtain ⟨bv,bl,e1,s1,b1,o1⟩:=leaf_row env g1
   injection e0 with e0;injection e1 with e1
   subst e0 e1
   refine ⟨n :: ts,c1 :: hs,bl :: ls,by simp [h1],by simp [h2],by simp [h3,pc],⟨by simp [h4.1],fun i hi=>?_⟩,?_,?_⟩
   ·cases i with
    | zero=>exact s1
    | succ i=>exact h4.2 i (by simpa using hi)
   ·intro l hm
    rcases List.mem_cons.1 hm with rfl | hm
    ·exact wf_b b1
    ·exact h5 l hm
   ·intro l hm
    rcases List.mem_cons.1 hm with rfl | hm
    ·exact o1
    ·exact h6 l hm
set_option maxRecDepth 20000 in
theorem inActs_of {H:Type} {enc:TypeId × Value→H} {w:World} {r:Reach} {base:Nat} {v:Value} {d:DataW H} {ps:List MemPlace} (hv:Value.okWide Tryz.prog w r base 28 v)
  (h:DataW.Trod enc Tryz.prog w 0 (fun _=>true) true 28 v d ps):InActs w v:=by
 obtain ⟨fuel,h⟩:=h
 rw [wide_sl env hv] at h
 obtain ⟨v',rs,e,hs,hl,hx,_⟩:=leaf_rows env h rfl rfl
 injection e with e
 subst e
 obtain ⟨ts,hs',ls,h1,h2,h3,h4,h5,h6⟩:=acts_rows rs hl hx
 exact ⟨ts,hs',ls,h1,by rw [← h2,← h3];exact hs,h4,h5,h6⟩
theorem acts_get {ts:List Int} {hs:List Value} {i:Nat} (h1:i < ts.length) (h2:i < hs.length):((Is ts).zip hs)[i]? = some (I (ts.getD i 0),hs.getD i nS):=by
 rw [List.getElem?_eq_getElem (by simp;omega)]
 simp [List.getD_eq_getElem?_getD,h1,h2]
theorem act0 {ts:List Int} {hs:List Value} {i:Nat} (h1:i < ts.length) (h2:i < hs.length):(pc ((Is ts).zip hs))[2 * i]? = some (I (ts.getD i 0)):=pc_get0 _ _ _ (acts_get h1 h2)
theorem act1 {ts:List Int} {hs:List Value} {i:Nat} (h1:i < ts.length) (h2:i < hs.length):(pc ((Is ts).zip hs))[2 * i + 1]? = some (hs.getD i nS):=pc_get1 _ _ _ (acts_get h1 h2)
theorem act2 {ts:List Int} {hs:List Value} {i:Nat} (h1:i < ts.length) (h2:i < hs.length):((pc ((Is ts).zip hs)).drop (2 * i)).take 2 = [I (ts.getD i 0),hs.getD i nS]:=by
 have a:=act0 h1 h2
 have b:=act1 h1 h2
 have la:=(List.getElem?_eq_some_iff.1 a)
 have lb:=(List.getElem?_eq_some_iff.1 b)
 obtain ⟨la1,la2⟩:=la
 obtain ⟨lb1,lb2⟩:=lb
 rw [List.drop_eq_getElem_cons la1,List.drop_eq_getElem_cons lb1,la2,lb2]
 rfl
theorem acts_sat {w:World} {v:Value} {ts:List Int} {hs:List Value} {ls:List (List Int)} {A:List Ch} (h1:SlW w v ls.length (pc ((Is ts).zip hs))) (h2:elgP y8 hs ls w) (k:SatL A w):SatL (vwf v ls.length (pc ((Is ts).zip hs)) :: velg y8 hs ls :: A) w:=
 SatL.cons h1 (SatL.cons h2 k)
open Go Go.Proofs Go.RowKit
attribute [local irreducible] Fit pt own ro vw mpc lpt vels rels mow lrc dfr
theorem Pick_tr (x m:Int) (hm:m ≤ 9223372036854775807):Tr Tryz.prog 60 [I x,I m] [] [] fun v D=>v = I (pick x m)∧D = []:=by
 have hf:m ≤ 0∨(0 < m∧0 ≤ x % m∧x % m < m∧(x.tmod m < 0→x.tmod m = x % m - m)∧(¬ x.tmod m < 0→x.tmod m = x % m)):=by
  by_cases h:m ≤ 0
  ·exact .inl h
  ·have h1:=tmod_pick x m (by omega)
   refine .inr ⟨by omega,Int.emod_nonneg x (by omega),Int.emod_lt_of_pos x (by omega),fun hc=>?_,fun hc=>?_⟩
   ·rw [if_pos hc] at h1;exact h1
   ·rw [if_neg hc] at h1;exact h1
 refine Tr.enter env _ Tryz.func60 (by kernel_rfl) rfl Tryz.ntmps60 rfl (by repeat (first | exact has00 | refine has01 ?_)) fun w0=>?_
 repeat' first|refine amodw ?_|(refine wo ?_;first|(refine ao ?_;first|refine aw ?_|refine oa ?_)|refine oa ?_)|(refine gc ?_;first|(refine ci (fun hB=>?_) (fun hB=>?_) <;> try (exfalso;omega)))|refine sq ?_|refine rg ?_|refine xc ?_|refine nl ?_|refine sk ?_|refine rt ?_
 all_goals refine r1 ⟨?_,rfl⟩;simp only [pick]
 ·rw [if_pos hB]
 ·rw [if_neg (by omega)];congr 1;omega
 ·rw [if_neg (by omega)];congr 1;omega
end Go.Art
set_option maxRecDepth 2000
namespace Go.Art.Sn
open Go Go.Proofs Go.RowKit Go.Art
attribute [local irreducible] Fit pt own ro vw mpc lpt vels rels mow lrc dfr
attribute [local irreducible] lmp lme mit velg relg vwf
set_option maxHeartbeats 4000000 in
theorem LongT_tr (m:MfS) (tv dv:Value) (d:List Int) (ses bud tmo:Int) (v:Value) (ts:List Int) (hs:List Value) (ls:List (List Int)) (hts:ts.length = ls.length) (htv:tv.oneCell' = true) (hdv:dv.oneCell' = true) :
  Tr Tryz.prog 4 [.agg #[I m.size,I m.sym,I m.k,I m.seed,tv,dv,I ses,I bud,I tmo],v] [vw tv (Is m.t),vw dv (By d),vwf v ls.length (pc ((Is ts).zip hs)),velg y8 hs ls] []
   fun r D=>∃ b,r = .bool b∧D = []∧(b = false→d.length ≤ 2000∧ls.length ≤ 30∧m.t.length ≤ 40∧∀ i,i < ls.length→(ls.getD i []).length ≤ 400):=by
 obtain ⟨size,sym,k,seed,t⟩:=m
 dsimp only
 have hmul:(0 < k∧k ≤ 200∧0 < sym∧sym ≤ 65535)→-9223372036854775808 ≤ k * sym∧k * sym ≤ 9223372036854775807:=fun ⟨h1,h2,h3,h4⟩=>by
  have a:=Int.mul_le_mul h2 h4 (by omega) (by omega)
  have b:=Int.mul_nonneg (show 0 ≤ k by omega) (show 0 ≤ sym by omega)
  omega
 have hbl:=By_len d
 have hil:=Is_len t
 refine Tr.enter env _ Tryz.func4 (by kernel_rfl) rfl Tryz.ntmps4 rfl (by repeat (first | exact has00 | refine has01 ?_)) fun w0=>?_
 refine TC.elg (g:=y8) (hs:=hs) (ls:=ls) (fun hhl=>?_)
 refine TC.lenf (v:=v) (N:=ls.length) (xs:=pc ((Is ts).zip hs)) (fun hln=>?_)
 refine sq ?_
 refine rg ?_
 refine bx fun q=>?_
 refine oa ?_
 refine nl ?_
 refine xc ?_
 refine sq_cut (31 ≤ ls.length∨∀ j,j < ls.length→(ls.getD j []).length ≤ 400) [(1,v),(2,ptr q),(4,.bool false)] (fun hp=>?_) fun kb=>?_
 ·repeat' first|refine lnf ?_|(refine ln (xs:=By d) ?_;rw [hbl])|(refine aw ?_ (hb:=hmul (by omega)))|(refine wo ?_;first|(refine ao ?_;first|refine oa ?_)|refine oa ?_|refine ld ?_|refine lnm ?_|refine gy ?_|refine gn ?_|refine gu ?_|(refine gsi (fun hB=>?_) (fun hB=>?_) <;> try (exfalso;omega)))|(refine gc ?_;first|refine cf ?_|(refine ci (fun hB=>?_) (fun hB=>?_) <;> try (exfalso;omega)))|refine sq ?_|refine rg ?_|refine xc ?_|refine nl ?_|refine sk ?_|refine rt ?_
  all_goals first
   | (exfalso;omega)
   | exact r1 ⟨true,rfl,rfl,fun h=>by cases h⟩
   | (refine r1 ⟨_,rfl,rfl,fun h=>?_⟩;have h2:=of_decide_eq_false h;exact ⟨by omega,by omega,by omega,by rcases hp with hp | hp;omega;exact hp⟩)
 repeat' first|(refine wo ?_;first|refine oa ?_)|refine sq ?_|refine rg ?_|refine xc ?_|refine nl ?_|refine bk ?_
 refine TC.loop (ι:=Nat) (fun i=>[(5,I i)]) (fun _=>[]) (fun i=>i ≤ ls.length∧∀ j,j < i→(ls.getD j []).length ≤ 400) (fun i=>ls.length - i) 0 [0,1,2,4] ⟨by omega,by omega⟩ ?_ (hf:=by exact fitA)
 rintro i ⟨hi,hI⟩
 by_cases hlt:i < ls.length
 ·have hbi:=By_len (ls.getD i [])
  repeat' first|exact kb (by left;omega) _ (by (repeat (refine Sub.cons rfl (by first | rfl | go_num) ?_));exact Sub.nil)|refine lnf ?_|refine ixfn ?_|refine faf ?_|(refine ldf (act1 (ts:=ts) (hs:=hs) (i:=i) (by omega) (by omega)) ?_)|(refine ln (xs:=By (ls.getD i [])) ?_;rw [hbi])|(refine wo ?_;first|(refine ao ?_;first|refine aw ?_|refine oa ?_)|refine oa ?_|refine gy ?_|(refine gsi (fun hB=>?_) (fun hB=>?_) <;> try (exfalso;omega)))|(refine gc ?_;first|(refine ci (fun hB=>?_) (fun hB=>?_) <;> try (exfalso;omega)))|refine sq ?_|refine rg ?_|refine xc ?_|refine nl ?_|refine sk ?_|refine bk ?_|refine xe ?_|refine rt ?_|refine xb ?_
  all_goals first
   | (exfalso;omega)
   | exact r1 ⟨true,rfl,rfl,fun h=>by cases h⟩
   | exact lp (i + 1) ⟨by omega,fun j hj=>by rcases (by omega:j < i∨j = i) with h | rfl;exact hI j h;omega⟩
 ·repeat' first|exact kb (by right;intro j hj;exact hI j (by omega)) _ (by (repeat (refine Sub.cons rfl (by first | rfl | go_num) ?_));exact Sub.nil)|refine lnf ?_|(refine wo ?_;first|(refine ao ?_;first|refine oa ?_)|refine oa ?_|refine gn ?_|(refine gsi (fun hB=>?_) (fun hB=>?_) <;> try (exfalso;omega)))|(refine gc ?_;first|refine cf ?_)|refine sq ?_|refine rg ?_|refine xc ?_|refine nl ?_|refine xe ?_
  all_goals first | (exfalso;omega)
theorem ticks_tr (n:Int) (bv:Value):Tr Tryz.prog 29 [.agg #[I n,bv]] [] [] fun v D=>v = I (pick n 21)∧D = []:=by
 refine Tr.enter env _ Tryz.func29 (by kernel_rfl) rfl Tryz.ntmps29 rfl (by repeat (first | exact has00 | refine has01 ?_)) fun w0=>?_
 repeat' first|(refine gca ?_;first|(refine ca (Pick_tr n 21 (by decide)) ?_;rintro _ _ ⟨rfl,rfl⟩))|refine bx fun q=>?_|(refine wo ?_;first|refine oa ?_|refine ld ?_)|refine sq ?_|refine rg ?_|refine xc ?_|refine nl ?_|refine rt ?_
 exact r1 ⟨rfl,rfl⟩
end Go.Art.Sn
namespace Go.Art
open Go Go.Proofs Go.RowKit
end Go.Art
set_option maxRecDepth 2000
namespace Go.Art.Sn
open Go Go.Proofs Go.RowKit Go.Art
attribute [local irreducible] Fit pt own ro vw mpc lpt vels rels mow lrc dfr
attribute [local irreducible] lmp lme mit velg relg
theorem takes9_tr0 (p:Nat) (h:SH) (s s':SP) (hk:s.ok h) (k0 s0 b0 p0 r0:Int) (pv:Value) (pl B:List Int) (bn pn rn sn0:Int) (wv:Value) (hB:(putR k0 9 b0 p0 r0 pl).1 = B) (hBl:B.length ≤ 1099511627776) (hBi:inB B) (hp:pv.oneCell' = true)
  (ht:s.take B = ((s',[]),0)) :
  Tr Tryz.prog 42 [ptr p,.agg #[I k0,I s0,I b0,I p0,I r0,pv],.agg #[I 0,I sn0,I bn,I pn,I rn,wv]] [vw pv (By pl)] (sndP p h s) fun v D=>v = .bool true∧D = sndP p h s':=by
 have hP:=PPut_tr k0 9 b0 p0 r0 pv pl hp
 rw [hB] at hP
 have hT:=fun b hb=>Take_tr p h s hk b B hBl hBi hb
 rw [ht] at hT
 dsimp only at hT
 refine Tr.enter env _ Tryz.func42 (by kernel_rfl) rfl Tryz.ntmps42 rfl (by repeat (first | exact has00 | refine has01 ?_)) fun w0=>?_
 repeat' first|(refine gca ?_;first|(refine ca hP ?_;rintro _ _ ⟨o1,rfl,ho1,rfl⟩)|(refine ca (hT o1 ho1) ?_;rintro _ _ ⟨o,os,rfl,ho,hos,rfl⟩;(have hos2:=List.eq_nil_of_length_eq_zero hos);subst hos2)|(refine ca (told0_tr o sn0 bn pn rn wv) ?_;rintro _ _ ⟨rfl,rfl⟩))|refine bx fun b=>?_|refine lda ?_|(refine wo ?_;first|refine oa ?_|refine sr ?_)|refine sq ?_|refine rg ?_|refine xc ?_|refine nl ?_|refine rt ?_
 exact r1 ⟨rfl,rfl⟩
/-! ### The chapter's states -/
def mS (st sil bud last:Int) (sent:List Int) (ack:List Bool) (tmo:Int):SP:=⟨9,bud,tmo,last,sil,st,m3,[5,6,7],sent,ack,m3.bytes⟩
theorem new9 (bud tmo:Int):SP.new m3 [5,6,7] 9 bud tmo = mS 1 0 bud (-1) [0,0] [false,false] tmo:=by
 have:m3.blocks = 2:=by kernel_rfl
 unfold SP.new;rw [this];rfl
theorem g_open:pgetR (putR 5 9 0 0 0 m3.bytes).1 = (⟨5,9,0,0,0,m3.bytes⟩,0):=by kernel_rfl
theorem tkA1:(mS 1 0 3 (-1) [0,0] [false,false] 5).tick = (mS 1 1 3 (-1) [0,0] [false,false] 5,[(putR 5 9 0 0 0 m3.bytes).1]):=by kernel_rfl
theorem a2:(mS 1 1 3 (-1) [0,0] [false,false] 5).take (putR 2 9 2 0 0 []).1 = ((mS 2 0 3 (-1) [0,0] [false,false] 5,[]),0):=by kernel_rfl
theorem rise_full {is:List Int} {k:Int} (h:Rise is k):∀ i:Nat,i < is.length→(i:Int) ≤ is.getD i 0
 | 0,hi=>by have:=(h.lt _ (mem_getD.2 ⟨0,hi,rfl⟩)).1;omega
 | i + 1,hi=>by
  have h1:=rise_full h i (by omega)
  have h2:=h.up (i + 1) hi
  unfold lastOf at h2
  rw [if_neg (by omega),Nat.add_sub_cancel] at h2
  omega
theorem rise_two {is:List Int} (h:Rise is 2) (hl:is.length = 2):is = [0,1]:=by
 have h0:=rise_full h 0 (by omega)
 have h1:=rise_full h 1 (by omega)
 have h2:=h.up 1 (by omega)
 have h3:=h.lt _ (mem_getD.2 ⟨1,by omega,rfl⟩)
 unfold lastOf at h2
 rw [if_neg (by omega)] at h2
 match is,hl with
 | [a,b],_=>
  simp at h0 h1 h2 h3
  have e1:a = 0:=by omega
  have e2:b = 1:=by omega
  rw [e1,e2]
theorem set01 (seed blk id:Int):setT [0,1] 2 seed blk id = [0,1]:=by
 obtain ⟨_,h2,h3,h4⟩:=setR_ok (t:=[0,1]) (k:=2) (by decide) (seedOf (c64 seed) (c64 blk) (c64 id))
 change Rise (setT [0,1] 2 seed blk id) 2 at h2
 change 1 ≤ (setT [0,1] 2 seed blk id).length∧(setT [0,1] 2 seed blk id).length ≤ 2 at h3
 change 0 < List.getD [0,1] ((setT [0,1] 2 seed blk id).length - 1) 0 at h4
 refine rise_two h2 ?_
 have:(setT [0,1] 2 seed blk id).length ≠ 1:=fun e=>by rw [e] at h4;exact absurd h4 (by decide)
 omega
theorem tick_data {s:SP} {a:Nat} (ha:s.alive) (hti:¬ s.tmo ≤ s.sil + 1) (hto:turnO s.ack s.last = some a) (h1:¬ s.st = 1) (h2:0 < s.bud) :
  s.tick = ({ s with sil:=s.sil + 1,bud:=s.bud - 1,last:=a,sent:=s.sent.set a (s.sent.getD a 0 + 1) },[(putR 1 s.ses a (s.sent.getD a 0) 0 (pktW s.m.t (s.m.syms s.d a) s.m.seed a (s.sent.getD a 0)).1).1]):=by
 rw [SP.tick,if_pos ha,if_neg hti,hto];dsimp only;rw [if_neg h1,if_pos h2]
theorem pk3 (ls:List (List Int)) (seed blk id:Int) (hid:0 ≤ id∧id ≤ 4294967295) (hl:ls.length = 2):pktW [0,1] ls seed blk id = (sumL ls [0,1],0):=by
 rw [pktW,if_pos (show numOk id from hid),hl]
 rw [show setT [0,1] ((2:Nat):Int) seed blk id = [0,1] from set01 seed blk id]
theorem tkA2:(mS 2 0 3 (-1) [0,0] [false,false] 5).tick = (mS 2 1 2 0 [1,0] [false,false] 5,[(putR 1 9 0 0 0 [3]).1]):=by
 rw [tick_data (a:=0) (by decide) (by decide) (by kernel_rfl) (by decide) (by decide)]
 rw [show (mS 2 0 3 (-1) [0,0] [false,false] 5).m.t = [0,1] from rfl,pk3 _ _ _ _ (by decide) (by kernel_rfl)]
 kernel_rfl
theorem g_data:pgetR (putR 1 9 0 0 0 [3]).1 = (⟨1,9,0,0,0,[3]⟩,0):=by kernel_rfl
end Go.Art.Sn
set_option maxRecDepth 2000
namespace Go.Art.Sn
open Go Go.Proofs Go.RowKit Go.Art
theorem inB_of {l:List Int} (h:l.all (fun x=>decide (0 ≤ x∧x ≤ 255)) = true):inB l:=fun x hx=>of_decide_eq_true (List.all_eq_true.1 h x hx)
theorem len_of {l:List Int} (h:Nat.ble l.length 1099511627776 = true):l.length ≤ 1099511627776:=Nat.le_of_ble_eq_true h
attribute [local irreducible] Fit pt own ro vw mpc lpt vels rels mow lrc dfr
attribute [local irreducible] lmp lme mit velg relg
theorem State_is (p:Nat) (h:SH) (s:SP) (x:Int) (hx:s.st = x):Tr Tryz.prog 37 [ptr p] [lpt p [I s.ses,I s.bud,I s.tmo,h.opn,h.pts,h.ack,I s.last,I s.sil,I s.st,chv h.c] TSn] [] fun v D=>v = I x∧D = []:=by
 subst hx;exact State_tr p s.ses s.bud s.tmo s.last s.sil s.st h.opn h.pts h.ack h.c
theorem Left_is (p:Nat) (h:SH) (s:SP) (x:Int) (hx:s.bud = x):Tr Tryz.prog 18 [ptr p] [lpt p [I s.ses,I s.bud,I s.tmo,h.opn,h.pts,h.ack,I s.last,I s.sil,I s.st,chv h.c] TSn] [] fun v D=>v = I x∧D = []:=by
 subst hx;exact Left_tr p s.ses s.bud s.tmo s.last s.sil s.st h.opn h.pts h.ack h.c
theorem begun_tr:Tr Tryz.prog 16 [] [] [] fun v D=>∃ p h,v = ptr p∧(mS 2 0 3 (-1) [0,0] [false,false] 5).ok h∧D = sndP p h (mS 2 0 3 (-1) [0,0] [false,false] 5):=by
 have M:=made_tr 3 5 (by decide) (by decide)
 rw [new9] at M
 have T1:=tkA1
 have A2:=a2
 have hs2:(mS 2 0 3 (-1) [0,0] [false,false] 5).st = 2:=rfl
 have gO:=g_open
 have hOl:(putR 5 9 0 0 0 m3.bytes).1.length ≤ 1099511627776:=len_of (by kernel_rfl)
 have hOi:inB (putR 5 9 0 0 0 m3.bytes).1:=inB_of (by kernel_rfl)
 have hBl:(putR 2 9 2 0 0 []).1.length ≤ 1099511627776:=len_of (by kernel_rfl)
 have hBi:inB (putR 2 9 2 0 0 []).1:=inB_of (by kernel_rfl)
 have hMi:inB m3.bytes:=inB_of (by kernel_rfl)
 have O9:=open9_tr
 generalize mS 1 0 3 (-1) [0,0] [false,false] 5 = S0 at *
 generalize mS 1 1 3 (-1) [0,0] [false,false] 5 = S1 at *
 generalize mS 2 0 3 (-1) [0,0] [false,false] 5 = S2 at *
 generalize (putR 5 9 0 0 0 m3.bytes).1 = OB at *
 generalize hBB:(putR 2 9 2 0 0 []).1 = BB at *
 generalize m3.bytes = MB at *
 have ok1:∀ h,S0.ok h→S1.ok h:=fun h hk=>by have:=tick_ok hk;rw [T1] at this;exact this
 have ok2:∀ h,S1.ok h→S2.ok h:=fun h hk=>by have:=take_ok hk BB;rw [A2] at this;exact this
 refine Tr.enter env _ Tryz.func16 (by kernel_rfl) rfl Tryz.ntmps16 rfl (by repeat (first | exact has00 | refine has01 ?_)) fun w0=>?_
 repeat' first|(refine gca ?_;first|(refine ca M ?_;rintro _ _ ⟨p,h,rfl,hok,rfl⟩)|(refine ca O9 ?_;rintro _ _ ⟨o,rfl,ho,rfl⟩)|(refine ca (ticks9_tr1 p h S0 S1 hok OB 5 0 0 0 0 o MB T1 gO ho hOl hOi hMi (by decide)) ?_;rintro _ _ ⟨rfl,rfl⟩)|(refine ca (takes9_tr0 p h S1 S2 (ok1 h hok) 2 0 2 0 0 nS [] BB 0 0 0 0 nS hBB hBl hBi rfl A2) ?_;rintro _ _ ⟨rfl,rfl⟩)|(refine ca (State_is p h S2 2 hs2) ?_;rintro _ _ ⟨rfl,rfl⟩))|refine bdz ?_|(refine wo ?_;first|(refine ao ?_;first|refine oa ?_|refine ipe ?_)|refine oa ?_|refine gy ?_)|(refine gc ?_;first|refine cf ?_)|refine sq ?_|refine rg ?_|refine xc ?_|refine nl ?_|refine sk ?_|refine rt ?_
 exact r1 ⟨p,h,rfl,ok2 h (ok1 h hok),rfl⟩
theorem awake_tr:Tr Tryz.prog 5 [] [] [] fun v D=>v = .bool true∧D = []:=by
 have M:=begun_tr
 have T2:=tkA2
 have hb2:(mS 2 1 2 0 [1,0] [false,false] 5).bud = 2:=rfl
 have gD:=g_data
 have hOl:(putR 1 9 0 0 0 [3]).1.length ≤ 1099511627776:=len_of (by kernel_rfl)
 have hOi:inB (putR 1 9 0 0 0 [3]).1:=inB_of (by kernel_rfl)
 generalize mS 2 0 3 (-1) [0,0] [false,false] 5 = S2 at *
 generalize mS 2 1 2 0 [1,0] [false,false] 5 = S3 at *
 generalize (putR 1 9 0 0 0 [3]).1 = OB at *
 refine Tr.enter env _ Tryz.func5 (by kernel_rfl) rfl Tryz.ntmps5 rfl (by repeat (first | exact has00 | refine has01 ?_)) fun w0=>?_
 repeat' first|(refine gca ?_;first|(refine ca M ?_;rintro _ _ ⟨p,h,rfl,hok,rfl⟩)|(refine ca (ticks9_tr1 p h S2 S3 hok OB 1 0 0 0 0 o [3] T2 gD ho hOl hOi (inB_of rfl) (by decide)) ?_;rintro _ _ ⟨rfl,rfl⟩)|(refine ca (Left_is p h S3 2 hb2) ?_;rintro _ _ ⟨rfl,rfl⟩))|(refine sli (vs:=By [3]) (fun o=>?_) (h1:=By_one _);refine TO.one (v:=o) (xs:=By [3]) fun ho=>?_)|refine bdz ?_|(refine wo ?_;first|(refine ao ?_;first|refine oa ?_|refine ipn ?_)|refine oa ?_|refine gy ?_)|refine sq ?_|refine rg ?_|refine xc ?_|refine nl ?_|refine rt ?_
 exact r1 ⟨rfl,rfl⟩
end Go.Art.Sn
set_option maxRecDepth 2000
namespace Go.Art.Sn
open Go Go.Proofs Go.RowKit Go.Art
theorem ab_ok {ses r:Int} (hs:0 ≤ ses∧ses ≤ 4294967295) (hr:r = 1∨r = 2):pkOk 4 ses 0 0 r ([]:List Int).length:=by
 rcases hr with rfl | rfl
 ·exact ⟨by decide,hs,by decide,by decide,by decide,by decide,by decide⟩
 ·exact ⟨by decide,hs,by decide,by decide,by decide,by decide,by decide⟩
attribute [local irreducible] Fit pt own ro vw mpc lpt vels rels mow lrc dfr
attribute [local irreducible] lmp lme mit velg relg vwf frz prs chp SP.tick SP.take
def abO (ses:Int) (outs:List (List Int)):Prop:=outs = []∨∃ r:Int,(r = 1∨r = 2)∧outs = [(putR 4 ses 0 0 r []).1]
theorem pkB_in (kd sn bn pn rn:Int) {l:List Int} (hl:inB l):inB (pkB kd sn bn pn rn l):=by
 have h1:=beB_in 1 kd
 have h2:=beB_in 4 sn
 have h3:=beB_in 4 bn
 have h4:=beB_in 4 pn
 have h5:=beB_in 1 rn
 have h0:inB []:=inB.nil
 unfold pkB
 refine inB.app ?_ hl
 cases (decide (0 < frmR kd)) <;> cases frmB kd <;> cases frmD kd <;> simp only [cond_true,cond_false,Bool.and_true,Bool.and_false] <;> (repeat (first | assumption | apply inB.app))
theorem putR_in (kd sn bn pn rn:Int) {l:List Int} (hl:inB l):inB (putR kd sn bn pn rn l).1:=by
 unfold putR
 split
 ·exact sealF_in (pkB_in kd sn bn pn rn hl)
 ·exact inB.nil
end Go.Art.Sn
set_option maxRecDepth 2000
namespace Go.Art.Sn
open Go Go.Proofs Go.RowKit Go.Art
theorem wB_in (t:List Int) (n:Nat):inB (wB t n):=by
 unfold wB
 intro x hx
 obtain ⟨l,hl,hx⟩:=List.mem_flatten.1 hx
 obtain ⟨y,_,rfl⟩:=List.mem_map.1 hl
 exact beB_in 4 y x hx
theorem headB_in (m:MfS):inB (headB m 5):=by
 unfold headB
 repeat (first | exact inB.nil | exact beB_in _ _ | apply inB.app)
theorem bytes_in (m:MfS):inB m.bytes:=by unfold MfS.bytes;exact (headB_in m).app (wB_in m.t _)
attribute [local irreducible] Fit pt own ro vw mpc lpt vels rels mow lrc dfr
attribute [local irreducible] lmp lme mit velg relg vwf frz prs chp SP.tick SP.take
end Go.Art.Sn
set_option maxRecDepth 2000
namespace Go.Art.Sn
open Go Go.Proofs Go.RowKit Go.Art
theorem bxr_in (p q:Int):0 ≤ bxr p q∧bxr p q ≤ 255:=by
 unfold bxr
 have:=(BitVec.ofInt 8 p ^^^ BitVec.ofInt 8 q).isLt
 omega
theorem xorL_in:∀ (l m:List Int),inB (xorL l m)
 | [],_=>inB.nil
 | _ :: _,[]=>inB.nil
 | p :: l,q :: m=>inB.cons (bxr_in p q) (xorL_in l m)
theorem sumL_in (ls:List (List Int)) (is:List Int):inB (sumL ls is):=by
 unfold sumL
 cases is.length with
 | zero=>
  intro x hx
  obtain ⟨_,rfl⟩:=List.mem_replicate.1 hx
  omega
 | succ i=>exact xorL_in _ _
theorem syms_size {m:MfS} (hok:m.ok) (d:List Int) (n:Int):∀ l ∈ m.syms d n,(l.length:Int) = m.sym:=by
 intro l hl
 unfold MfS.syms chL at hl
 obtain ⟨i,_,rfl⟩:=List.mem_map.1 hl
 unfold chP
 rw [padL_len (by rw [List.length_take];omega)]
 have:=hok.2.1
 omega
theorem pkt_ok {m:MfS} (hok:m.ok) {d:List Int} {a id:Int} (hE:newE m.t a (m.syms d a) = 0) (hid:numOk id) :
  ((pktW m.t (m.syms d a) m.seed a id).1.length:Int) = m.sym∧inB (pktW m.t (m.syms d a) m.seed a id).1∧(pktW m.t (m.syms d a) m.seed a id).2 = 0:=by
 obtain ⟨hb0,hs0,hn0⟩:=newE_zero hE
 obtain ⟨hz,hr,hl1,hl2⟩:=setR_ok hs0 (seedOf (c64 m.seed) (c64 a) (c64 id))
 change Rise (setT m.t (m.syms d a).length m.seed a id) _ at hr
 have hk:=hok.2.2.1
 rw [pktW,if_pos hid]
 refine ⟨?_,sumL_in _ _,rfl⟩
 have hsz:=syms_size hok d a
 have hlen:=syms_len m d a
 have h0:((m.syms d a).getD 0 []).length = m.sym.toNat:=by
  have:=hsz _ (getD_memL (ls:=m.syms d a) (i:=0) (by omega))
  omega
 dsimp only
 unfold sumL
 rw [sumI_len (size:=m.sym.toNat) hr (fun l hl=>by have:=hsz l hl;omega) (by rw [List.length_replicate,h0]) _ (Nat.le_refl _)]
 have:=hok.2.1
 omega
theorem data_ok {m:MfS} (hok:m.ok) {d:List Int} {ses a id:Int} (hs:0 ≤ ses∧ses ≤ 4294967295) (ha:0 ≤ a∧a ≤ 4294967295) (hE:newE m.t a (m.syms d a) = 0) (hid:numOk id) :
  pkOk 1 ses a id 0 (pktW m.t (m.syms d a) m.seed a id).1.length:=by
 have h:=(pkt_ok hok hE hid).1
 have h2:=hok.2.1
 have eB:frmB 1 = true:=by decide
 have eD:frmD 1 = true:=by decide
 refine ⟨by decide,hs,?_,?_,?_,by decide,by decide⟩
 ·rw [eB,cond_true];exact ha
 ·rw [eB,eD,Bool.and_true,cond_true];exact hid
 ·rw [eD,cond_true,cond_true];omega
attribute [local irreducible] Fit pt own ro vw mpc lpt vels rels mow lrc dfr
attribute [local irreducible] lmp lme mit velg relg vwf
/-! ### What a tick sends -/
def sameS (s s':SP):Prop:=s'.last = s.last∧s'.bud = s.bud∧s'.sent = s.sent∧s'.ack = s.ack
def stayS (s s':SP):Prop:=s'.ses = s.ses∧s'.m = s.m∧s'.d = s.d∧s'.ob = s.ob∧(s'.st = s.st∨s'.st = 4∨s'.st = 5)
end Go.Art.Sn
set_option maxRecDepth 2000
namespace Go.Art.Sn
open Go Go.Proofs Go.RowKit Go.Art
structure SP.fit (s:SP):Prop where
 ses:0 ≤ s.ses∧s.ses ≤ 4294967295
 mok:s.m.ok
 seed:s.m.seed ≤ 9223372036854775807
 dl:(s.d.length:Int) = s.m.size
 nb:(s.ack.length:Int) = s.m.blocks
 n1:s.sent.length = s.ack.length
 ob:s.ob = s.m.bytes
 bud:0 ≤ s.bud∧s.bud ≤ 2147483647
 tmo:1 ≤ s.tmo∧s.tmo ≤ 2147483647
 sil:0 ≤ s.sil∧s.sil ≤ s.tmo
 last : -1 ≤ s.last∧s.last ≤ 4294967295
 sent:∀ j,0 ≤ s.sent.getD j 0∧s.sent.getD j 0 + s.bud ≤ 2147483647
theorem new_fit {m:MfS} {d:List Int} {ses bud tmo:Int} (hsd:m.seed ≤ 9223372036854775807) (h:newSE m d ses bud tmo = 0):(SP.new m d ses bud tmo).fit:=by
 unfold newSE at h
 split at h
 ·rename_i h1
  split at h
  ·rename_i h2
   have hbi:=MfS.blocks_in h1.1
   exact {
    ses:=h2.1
    mok:=h1.1
    seed:=hsd
    dl:=h1.2
    nb:=by show ((List.replicate m.blocks.toNat false).length:Int) = m.blocks;rw [List.length_replicate];omega
    n1:=by show (List.replicate m.blocks.toNat (0:Int)).length = (List.replicate m.blocks.toNat false).length;simp
    ob:=rfl
    bud:=h2.2.1
    tmo:=h2.2.2
    sil:=⟨Int.le_refl _,by show (0:Int) ≤ tmo;omega⟩
    last:=⟨Int.le_refl _,by show (-1:Int) ≤ _;omega⟩
    sent:=fun i=>by
     show 0 ≤ (List.replicate m.blocks.toNat (0:Int)).getD i 0∧(List.replicate m.blocks.toNat (0:Int)).getD i 0 + bud ≤ 2147483647
     have h0:(List.replicate m.blocks.toNat (0:Int)).getD i 0 = 0:=by
      rw [List.getD_eq_getElem?_getD,List.getElem?_replicate];split <;> rfl
     rw [h0];omega }
  ·cases h
 ·cases h
theorem tick_fit {s:SP} {h:SH} (hk:s.ok h) (hf:s.fit):s.tick.1.fit:=by
 have ho:=tick_ok hk
 obtain ⟨h1,h2,h3,h4,h5,h6,h7,_⟩:=hf
 have e:s.tick.1.ses = s.ses∧s.tick.1.m = s.m∧s.tick.1.d = s.d∧s.tick.1.ack = s.ack∧s.tick.1.ob = s.ob:=by
  unfold SP.tick
  split
  ·split
   ·exact ⟨rfl,rfl,rfl,rfl,rfl⟩
   ·split
    ·exact ⟨rfl,rfl,rfl,rfl,rfl⟩
    ·split
     ·exact ⟨rfl,rfl,rfl,rfl,rfl⟩
     ·split <;> exact ⟨rfl,rfl,rfl,rfl,rfl⟩
  ·exact ⟨rfl,rfl,rfl,rfl,rfl⟩
 obtain ⟨e1,e2,e3,e4,e5⟩:=e
 exact ⟨by rw [e1];exact h1,by rw [e2];exact h2,by rw [e2];exact h3,by rw [e2,e3];exact h4,by rw [e4,e2];exact h5,ho.n1,by rw [e5,e2];exact h7,ho.bud,ho.tmo,ho.sil,ho.last,ho.sent⟩
theorem take_fit {s:SP} {h:SH} (hk:s.ok h) (hf:s.fit) (l:List Int):(s.take l).1.1.fit:=by
 have ho:=take_ok hk l
 obtain ⟨h1,h2,h3,h4,h5,h6,h7,_⟩:=hf
 have e:(s.take l).1.1.ses = s.ses∧(s.take l).1.1.m = s.m∧(s.take l).1.1.d = s.d∧(s.take l).1.1.ack.length = s.ack.length∧(s.take l).1.1.ob = s.ob:=by
  unfold SP.take
  repeat' split
  all_goals first | exact ⟨rfl,rfl,rfl,rfl,rfl⟩ | exact ⟨rfl,rfl,rfl,List.length_set ..,rfl⟩
 obtain ⟨e1,e2,e3,e4,e5⟩:=e
 exact ⟨by rw [e1];exact h1,by rw [e2];exact h2,by rw [e2];exact h3,by rw [e2,e3];exact h4,by rw [e4,e2];exact h5,ho.n1,by rw [e5,e2];exact h7,ho.bud,ho.tmo,ho.sil,ho.last,ho.sent⟩
theorem pkt_in (t:List Int) (ls:List (List Int)) (seed blk id:Int):inB (pktW t ls seed blk id).1:=by
 unfold pktW
 split
 ·exact sumL_in _ _
 ·exact inB.nil
theorem tick_in {s:SP} (hf:s.fit):∀ l ∈ s.tick.2,inB l:=by
 have hb:inB s.ob:=by rw [hf.ob];exact bytes_in s.m
 unfold SP.tick
 repeat' split
 all_goals first
  | (intro l hl;simp at hl;done)
  | (intro l hl;rw [List.mem_singleton.1 hl];exact putR_in _ _ _ _ _ inB.nil)
  | (intro l hl;rw [List.mem_singleton.1 hl];exact putR_in _ _ _ _ _ hb)
  | (intro l hl;rw [List.mem_singleton.1 hl];exact putR_in _ _ _ _ _ (pkt_in _ _ _ _ _))
theorem take_in (s:SP) (l:List Int):∀ x ∈ (s.take l).1.2,inB x:=by
 unfold SP.take
 repeat' split
 all_goals first
  | (intro x hx;simp at hx;done)
  | (intro x hx;rw [List.mem_singleton.1 hx];exact putR_in _ _ _ _ _ inB.nil)
end Go.Art.Sn
namespace Go.Art
open Go Go.Proofs Go.RowKit
def Vw (b:Value) (l:List Int) (r:Value) (m:List Int):Prop:=∀ F,Has F (vw b (By l))→Has F (vw r (By m))
theorem Vw.nil (b:Value) (l:List Int):Vw b l nS []:=fun _ _=>has_nil
theorem Vw.sub (b:Value) (l:List Int) {lo hi:Nat} (h1:lo ≤ hi) (h2:hi ≤ l.length):Vw b l (slSub b lo hi) ((l.take hi).drop lo):=fun F h=>by
 have:=has_sub h h1 (by rw [By_len];exact h2)
 rwa [By,← List.map_take,← List.map_drop] at this
theorem Vw.from (b:Value) (l:List Int) {lo:Nat} (h:lo ≤ l.length):Vw b l (slSub b lo l.length) (l.drop lo):=by
 have:=Vw.sub b l (lo:=lo) h (Nat.le_refl _)
 rwa [List.take_length] at this
section
variable {P:Program} {E:Env P} {n:Sh} {X:Cx} {s:List K} {fr:Fr} {A:List Ch} {ops:Array Oper} {rest:List Oper} {d:Nat} {ty t t':TypeId} {pos:String} {after:Array Edge} {x y:Operand} {dt:TypeDesc} {sz by_:Nat} {z:Value} {cs vs:List Value} {b j:Nat} {T:TypeId}
theorem R_shlP {k':IntKind} {m:Int} {w:World} (c:Nat) (q:Int) (hx:ev fr x = some (I m)) (hy:ev fr y = some (.int k' (c:Int))) (hq:(2:Int) ^ c = q) (hc:c ≤ 64) (hb:0 ≤ m * q∧m * q ≤ 9223372036854775807):OpV P n fr (.binOp .shl t x y t') ty w (I (m * q)) w:=by
 have h1:=R_shlm (P:=P) (n:=n) (t:=t) (t':=t') (ty:=ty) (w:=w) hx hy ⟨by omega,show (c:Int) ≤ 64 by omega⟩
 rw [Int.toNat_natCast,hq,show IntKind.i64.wrap (m * q) = m * q by (generalize m * q = z at *;simp [IntKind.wrap,IntKind.bits,IntKind.signed];omega)] at h1
 exact h1
theorem R_u8m {m:Int} {w:World} (h:evOp E fr (.convert t t' x) = some (.int .u8 (IntKind.u8.wrap m))):OpV P n fr (.convert t t' x) ty w (y8 (m % 256)) w:=by
 have e:IntKind.u8.wrap m = m % 256:=by simp [IntKind.wrap,IntKind.bits,IntKind.signed]
 have:=R_auto (P:=P) (n:=n) (w:=w) (ty:=ty) h;rwa [e] at this
end
theorem getD_memZ {l:List Int} {i:Nat} (h:i < l.length):l.getD i 0 ∈ l:=by rw [List.getD_eq_getElem?_getD,List.getElem?_eq_getElem h];exact List.getElem_mem h
theorem tk4_in {l:List Int} (h:inB l):inB (tk4 l).1.2:=by
 unfold tk4
 split
 ·exact inB.nil
 ·exact fun x hx=>h x (List.mem_of_mem_drop hx)
theorem tk4_len (l:List Int):(tk4 l).1.2.length ≤ l.length:=by
 unfold tk4
 split
 ·exact Nat.zero_le _
 ·dsimp only;rw [List.length_drop];omega
attribute [local irreducible] Fit pt own ro vw mpc lpt vels rels mow lrc dfr
attribute [local irreducible] lmp lme mit velg relg
theorem take11_tr (b:Value) (l:List Int) (hin:inB l) (hl:l.length ≤ 1099511627776):Tr Tryz.prog 116 [b] [vw b (By l)] []
  fun v D=>∃ rv,v = .tuple #[I (tk4 l).1.1,rv,.bool (tk4 l).2]∧Vw b l rv (tk4 l).1.2∧D = []:=by
 have hbl:=By_len l
 unfold tk4
 by_cases h4:l.length < 4
 ·rw [if_pos h4]
  refine Tr.enter env _ Tryz.func116 (by kernel_rfl) rfl Tryz.ntmps116 rfl (by repeat (first | exact has00 | refine has01 ?_)) fun w0=>?_
  repeat' first|(refine ln (xs:=By l) ?_;rw [hbl])|(refine wo ?_;first|(refine ao ?_;first|refine oa ?_)|refine oa ?_)|(refine gc ?_;first|(refine ci (fun hB=>?_) (fun hB=>?_) <;> try (exfalso;omega)))|refine sq ?_|refine rg ?_|refine xc ?_|refine nl ?_|refine rt ?_
  all_goals first | (exfalso;omega) | exact r3 ⟨nS,rfl,Vw.nil _ _,rfl⟩
 ·rw [if_neg h4]
  have p0:=By_get l 0 (by omega)
  have p1:=By_get l 1 (by omega)
  have p2:=By_get l 2 (by omega)
  have p3:=By_get l 3 (by omega)
  have i0:=hin _ (getD_memZ (l:=l) (i:=0) (by omega))
  have i1:=hin _ (getD_memZ (l:=l) (i:=1) (by omega))
  have i2:=hin _ (getD_memZ (l:=l) (i:=2) (by omega))
  have i3:=hin _ (getD_memZ (l:=l) (i:=3) (by omega))
  have hV:=Vw.from b l (lo:=4) (by omega)
  generalize l.getD 0 0 = a0 at *
  generalize l.getD 1 0 = a1 at *
  generalize l.getD 2 0 = a2 at *
  generalize l.getD 3 0 = a3 at *
  dsimp only
  refine Tr.enter env _ Tryz.func116 (by kernel_rfl) rfl Tryz.ntmps116 rfl (by repeat (first | exact has00 | refine has01 ?_)) fun w0=>?_
  repeat' first|(refine ln (xs:=By l) ?_;rw [hbl])|(refine wo ?_;first|(refine ao ?_;first|refine oa ?_)|refine oa ?_)|(refine gc ?_;first|(refine ci (fun hB=>?_) (fun hB=>?_) <;> try (exfalso;omega)))|refine sq ?_|refine rg ?_|refine xc ?_|refine nl ?_|refine sk ?_
  refine rs (id:=3) (fun w=>Sl w b (By l)) ?_ (fun w hw=>has_sl hw hasA)
  refine tka 0 ?_
  refine tkx 1 (len:=l.length) (fun w h=>⟨_,h,hbl⟩) ?_
  refine tk 2 (v:=y8 a0) (hi:=rfl) (fun w h=>by exact R_load (E:=env) rfl rfl rfl (h.cell p0)) ?_
  refine tkw 3 a0 ?_
  refine tk 4 (v:=I (a0 * 16777216)) (hi:=rfl) (fun w h=>by exact R_shlP 24 16777216 rfl rfl (by decide) (by decide) (by omega)) ?_
  refine tka 5 ?_
  refine tkx 6 (len:=l.length) (fun w h=>⟨_,h,hbl⟩) ?_
  refine tk 7 (v:=y8 a1) (hi:=rfl) (fun w h=>by exact R_load (E:=env) rfl rfl rfl (h.cell p1)) ?_
  refine tkw 8 a1 ?_
  refine tk 9 (v:=I (a1 * 65536)) (hi:=rfl) (fun w h=>by exact R_shlP 16 65536 rfl rfl (by decide) (by decide) (by omega)) ?_
  refine tkw 10 (a0 * 16777216 + a1 * 65536) ?_
  refine tka 11 ?_
  refine tkx 12 (len:=l.length) (fun w h=>⟨_,h,hbl⟩) ?_
  refine tk 13 (v:=y8 a2) (hi:=rfl) (fun w h=>by exact R_load (E:=env) rfl rfl rfl (h.cell p2)) ?_
  refine tkw 14 a2 ?_
  refine tk 15 (v:=I (a2 * 256)) (hi:=rfl) (fun w h=>by exact R_shlP 8 256 rfl rfl (by decide) (by decide) (by omega)) ?_
  refine tkw 16 (a0 * 16777216 + a1 * 65536 + a2 * 256) ?_
  refine tka 17 ?_
  refine tkx 18 (len:=l.length) (fun w h=>⟨_,h,hbl⟩) ?_
  refine tk 19 (v:=y8 a3) (hi:=rfl) (fun w h=>by exact R_load (E:=env) rfl rfl rfl (h.cell p3)) ?_
  refine tkw 20 a3 ?_
  refine tkw 21 (a0 * 16777216 + a1 * 65536 + a2 * 256 + a3) ?_
  refine tka 22 ?_
  refine tk 23 (v:=slSub b (4:Int).toNat (By l).length) (hi:=rfl) (fun w h=>by exact R_sliceLo (E:=env) rfl rfl rfl rfl h (by rw [hbl];omega)) ?_
  refine tka 24 ?_
  refine tka 25 ?_
  refine tka 26 ?_
  refine t0 ?_
  repeat' first|refine xc ?_|refine rt ?_
  rw [hbl]
  exact r3 ⟨_,rfl,hV,rfl⟩
theorem RPut11_tr (kd sn bn pn rn:Int) (dv:Value) (l:List Int) (hd:dv.oneCell' = true):Tr Tryz.prog 134 [.agg #[I kd,I sn,I bn,I pn,I rn,dv]] [vw dv (By l)] []
  fun v D=>∃ o,v = tup2 o (I (putR kd sn bn pn rn l).2)∧o.oneCell' = true∧D = [own TyB o (By (putR kd sn bn pn rn l).1)]:=by
 have hC:=RCheck11_tr kd sn bn pn rn dv l hd
 by_cases hok:pkOk kd sn bn pn rn l.length
 rotate_left
 ·rw [show putR kd sn bn pn rn l = ([],2) from if_neg hok]
  rw [show pkE kd sn bn pn rn l.length = 2 from if_neg hok] at hC
  refine Tr.enter env _ Tryz.func134 (by kernel_rfl) rfl Tryz.ntmps134 rfl (by repeat (first | exact has00 | refine has01 ?_)) fun w0=>?_
  repeat' first|(refine gca ?_;first|(refine ca hC ?_;rintro _ _ ⟨rfl,rfl⟩))|refine bx fun b=>?_|refine lda ?_|(refine wo ?_;first|(refine ao ?_;first|refine oa ?_)|refine oa ?_)|(refine gc ?_;first|refine ct ?_)|refine sq ?_|refine rg ?_|refine xc ?_|refine nl ?_|refine rt ?_
  refine TX.im (own_nil TyB _) ?_
  exact r2 ⟨nS,rfl,rfl,rfl⟩
 rw [show putR kd sn bn pn rn l = (sealF (pkB kd sn bn pn rn l),0) from if_pos hok]
 rw [show pkE kd sn bn pn rn l.length = 0 from if_pos hok] at hC
 obtain ⟨hk,hsn,hbn',hpn',hl',hr'⟩:=hok
 have hbn:0 ≤ bn∧bn ≤ 4294967295:=by refine ⟨hbn'.1,Int.le_trans hbn'.2 ?_⟩;cases frmB kd <;> decide
 have hpn:0 ≤ pn∧pn ≤ 4294967295:=by refine ⟨hpn'.1,Int.le_trans hpn'.2 ?_⟩;cases (frmB kd && frmD kd) <;> decide
 have hll:l.length ≤ 65535:=by have h9:=hl'.2;cases hfd:frmD kd <;> rw [hfd] at h9 <;> simp only [cond_true,cond_false] at h9 <;> omega
 have n2:=beB_len 4 sn
 have n3:=beB_len 4 bn
 have n4:=beB_len 4 pn
 have hF:=four_tr sn hsn
 have hh:kd % 256 = kd:=by omega
 have hpb:pkB kd sn bn pn rn l = (if kd = 1 then (([kd % 256] ++ beB 4 sn) ++ beB 4 bn) ++ beB 4 pn else if kd = 2 then ([kd % 256] ++ beB 4 sn) ++ beB 4 bn else if kd = 4 then ([kd % 256] ++ beB 4 sn) ++ [rn % 256] else [kd % 256] ++ beB 4 sn) ++ l:=by
  have h5:kd = 1∨kd = 2∨kd = 3∨kd = 4∨kd = 5:=by omega
  rcases h5 with rfl | rfl | rfl | rfl | rfl <;> simp [pkB,frmB,frmD,frmR,beB]
 rw [hpb]
 clear hpb
 obtain ⟨L1,hL1⟩ : ∃ L1,L1 = [kd % 256] ++ beB 4 sn:=⟨_,rfl⟩
 obtain ⟨r1',hr1⟩ : ∃ r,r = rn % 256:=⟨_,rfl⟩
 rw [← hL1,← hr1]
 have n1:L1.length = 5:=by rw [hL1];simp [n2]
 refine Tr.enter env _ Tryz.func134 (by kernel_rfl) rfl Tryz.ntmps134 rfl (by repeat (first | exact has00 | refine has01 ?_)) fun w0=>?_
 repeat' first|(refine gca ?_;first|(refine ca hC ?_;rintro _ _ ⟨rfl,rfl⟩))|refine bx fun b=>?_|refine lda ?_|refine sq_cutX (a:=.region 3 _ _) (ι:=Value) (fun u=>u.oneCell' = true) (fun u=>[(1,ptr b),(4,u)]) (fun u=>[pt b [I kd,I sn,I bn,I pn,I rn,dv] TPk,own TyB u (By L1),vw dv (By l)]) ?_ (fun kb=>?_)|(refine wo ?_;first|(refine ao ?_;first|refine oa ?_)|refine oa ?_)|(refine gc ?_;first|refine cf ?_)|refine sq ?_|refine rg ?_|refine xc ?_|refine nl ?_|refine sk ?_
 rotate_left
 ·skip
  refine rs (fun w=>w.heap[b]? = some (.cells [I kd,I sn,I bn,I pn,I rn,dv].toArray TPk (0,0))) ?_ (fun w hw=>pt_at memA hw)
  refine tka 0 ?_
  refine tkl 1 (cs:=[I kd,I sn,I bn,I pn,I rn,dv]) (fun w h=>h) ?_
  refine tk 2 (v:=y8 (kd % 256)) (hi:=rfl) (fun w h=>by exact R_u8m (E:=env) rfl) ?_
  refine tka 4 ?_
  refine tkl 5 (cs:=[I kd,I sn,I bn,I pn,I rn,dv]) (fun w h=>h) ?_
  refine t2 3 6 ?_ ?_
  ·refine slbz (l:=[kd % 256]) fun s1 hs1=>?_
   refine nl ?_
   refine te (fun w hw=>pt_at memA hw) ?_
   refine t1 6 ?_
   refine ca hF ?_
   rintro f1 _ ⟨hf1,rfl⟩
   refine nl ?_
   refine te (fun w hw=>pt_at memA hw) ?_
   refine t1 7 ?_
   refine apb (l:=[kd % 256]) (news:=beB 4 sn) (fun v1 h1=>?_)
   refine nl ?_
   refine te (fun w hw=>pt_at memA hw) ?_
   refine tka 8 ?_
   refine t0 ?_
   refine xc ?_
   exact kb v1 h1 _ _ (by (repeat (refine Sub.cons rfl (by first | rfl | go_num) ?_));exact Sub.nil) (by rw [hL1];exact fitA)
  ·refine ca hF ?_
   rintro f1 _ ⟨hf1,rfl⟩
   refine nl ?_
   refine te (fun w hw=>pt_at memA hw) ?_
   refine t1 3 ?_
   refine slbz (l:=[kd % 256]) fun s1 hs1=>?_
   refine nl ?_
   refine te (fun w hw=>pt_at memA hw) ?_
   refine t1 7 ?_
   refine apb (l:=[kd % 256]) (news:=beB 4 sn) (fun v1 h1=>?_)
   refine nl ?_
   refine te (fun w hw=>pt_at memA hw) ?_
   refine tka 8 ?_
   refine t0 ?_
   refine xc ?_
   exact kb v1 h1 _ _ (by (repeat (refine Sub.cons rfl (by first | rfl | go_num) ?_));exact Sub.nil) (by rw [hL1];exact fitA)
 intro u hu
 by_cases k1:kd = 1
 ·subst k1
  rw [if_pos rfl]
  have hS:=fun o=>RSeal_tr o (((L1 ++ beB 4 bn) ++ beB 4 pn) ++ l) (by simp;omega)
  have hap:∀ (u:Value),Has [vw u (By l)] (vw u (By l)):=fun u=>by exact hasA
  repeat' first|(refine gca ?_;first|(refine ca hC ?_;rintro _ _ ⟨rfl,rfl⟩)|(refine ca (four_tr bn hbn) ?_;rintro f2 _ ⟨hf2,rfl⟩)|(refine ca (four_tr pn hpn) ?_;rintro f3 _ ⟨hf3,rfl⟩)|(refine ca (hS _) ?_;rintro o _ ⟨ho,rfl⟩))|refine bx fun q=>?_|refine lda ?_|(refine u8m ?_;rw [← hr1])|(refine slbz fun s2 hs2=>?_)|(refine apb (l:=L1) (news:=beB 4 bn) (fun v2 h2=>?_))|(refine apb (l:=L1 ++ beB 4 bn) (news:=beB 4 pn) (fun v3 h3=>?_))|(refine apb (l:=L1) (news:=[r1']) (fun v4 h4=>?_))|(refine apb (l:=((L1 ++ beB 4 bn) ++ beB 4 pn)) (news:=l) (fun v5 h5=>?_))|(refine wo ?_;first|(refine ao ?_;first|refine oa ?_)|refine oa ?_|refine ld ?_|refine gn ?_)|(refine gc ?_;first|refine ct ?_|refine cf ?_)|refine sq ?_|refine rg ?_|refine xc ?_|refine nl ?_|refine sk ?_|refine rt ?_
  exact r2 ⟨o,rfl,ho,rfl⟩
 by_cases k2:kd = 2
 ·subst k2
  rw [if_neg (by decide),if_pos rfl]
  have hS:=fun o=>RSeal_tr o ((L1 ++ beB 4 bn) ++ l) (by simp;omega)
  have hap:∀ (u:Value),Has [vw u (By l)] (vw u (By l)):=fun u=>by exact hasA
  repeat' first|(refine gca ?_;first|(refine ca hC ?_;rintro _ _ ⟨rfl,rfl⟩)|(refine ca (four_tr bn hbn) ?_;rintro f2 _ ⟨hf2,rfl⟩)|(refine ca (four_tr pn hpn) ?_;rintro f3 _ ⟨hf3,rfl⟩)|(refine ca (hS _) ?_;rintro o _ ⟨ho,rfl⟩))|refine bx fun q=>?_|refine lda ?_|(refine u8m ?_;rw [← hr1])|(refine slbz fun s2 hs2=>?_)|(refine apb (l:=L1) (news:=beB 4 bn) (fun v2 h2=>?_))|(refine apb (l:=L1 ++ beB 4 bn) (news:=beB 4 pn) (fun v3 h3=>?_))|(refine apb (l:=L1) (news:=[r1']) (fun v4 h4=>?_))|(refine apb (l:=(L1 ++ beB 4 bn)) (news:=l) (fun v5 h5=>?_))|(refine wo ?_;first|(refine ao ?_;first|refine oa ?_)|refine oa ?_|refine ld ?_|refine gy ?_)|(refine gc ?_;first|refine ct ?_|refine cf ?_)|refine sq ?_|refine rg ?_|refine xc ?_|refine nl ?_|refine sk ?_|refine rt ?_
  exact r2 ⟨o,rfl,ho,rfl⟩
 by_cases k4:kd = 4
 ·subst k4
  rw [if_neg (by decide),if_neg (by decide),if_pos rfl]
  have hS:=fun o=>RSeal_tr o ((L1 ++ [r1']) ++ l) (by simp;omega)
  have hap:∀ (u:Value),Has [vw u (By l)] (vw u (By l)):=fun u=>by exact hasA
  repeat' first|(refine gca ?_;first|(refine ca hC ?_;rintro _ _ ⟨rfl,rfl⟩)|(refine ca (four_tr bn hbn) ?_;rintro f2 _ ⟨hf2,rfl⟩)|(refine ca (four_tr pn hpn) ?_;rintro f3 _ ⟨hf3,rfl⟩)|(refine ca (hS _) ?_;rintro o _ ⟨ho,rfl⟩))|refine bx fun q=>?_|refine lda ?_|(refine u8m ?_;rw [← hr1])|(refine slbz fun s2 hs2=>?_)|(refine apb (l:=L1) (news:=beB 4 bn) (fun v2 h2=>?_))|(refine apb (l:=L1 ++ beB 4 bn) (news:=beB 4 pn) (fun v3 h3=>?_))|(refine apb (l:=L1) (news:=[r1']) (fun v4 h4=>?_))|(refine apb (l:=(L1 ++ [r1'])) (news:=l) (fun v5 h5=>?_))|(refine wo ?_;first|(refine ao ?_;first|refine oa ?_)|refine oa ?_|refine ld ?_|refine gy ?_)|(refine gc ?_;first|refine ct ?_|refine cf ?_)|refine sq ?_|refine rg ?_|refine xc ?_|refine nl ?_|refine sk ?_|refine rt ?_
  exact r2 ⟨o,rfl,ho,rfl⟩
 rw [if_neg k1,if_neg k2,if_neg k4]
 have hS:=fun o=>RSeal_tr o (L1 ++ l) (by simp;omega)
 repeat' first|(refine gca ?_;first|(refine ca hC ?_;rintro _ _ ⟨rfl,rfl⟩)|(refine ca (four_tr bn hbn) ?_;rintro f2 _ ⟨hf2,rfl⟩)|(refine ca (four_tr pn hpn) ?_;rintro f3 _ ⟨hf3,rfl⟩)|(refine ca (hS _) ?_;rintro o _ ⟨ho,rfl⟩))|refine bx fun q=>?_|refine lda ?_|(refine u8m ?_;rw [← hr1])|(refine slbz fun s2 hs2=>?_)|(refine apb (l:=L1) (news:=beB 4 bn) (fun v2 h2=>?_))|(refine apb (l:=L1 ++ beB 4 bn) (news:=beB 4 pn) (fun v3 h3=>?_))|(refine apb (l:=L1) (news:=[r1']) (fun v4 h4=>?_))|(refine apb (l:=L1) (news:=l) (fun v5 h5=>?_))|(refine wo ?_;first|(refine ao ?_;first|refine oa ?_)|refine oa ?_|refine ld ?_|refine gy ?_|(refine gsi (fun hB=>?_) (fun hB=>?_) <;> try (exfalso;omega)))|(refine gc ?_;first|(refine ci (fun hB=>?_) (fun hB=>?_) <;> try (exfalso;omega)))|refine sq ?_|refine rg ?_|refine xc ?_|refine nl ?_|refine sk ?_|refine rt ?_
 exact r2 ⟨o,rfl,ho,rfl⟩
end Go.Art
namespace Go.Art
open Go Go.Proofs Go.RowKit
attribute [local irreducible] Fit pt own ro vw mpc lpt vels rels mow lrc dfr
attribute [local irreducible] lmp lme mit velg relg
set_option maxHeartbeats 8000000 in
theorem RGet11_tr (b:Value) (l:List Int) (hl:l.length ≤ 1099511627776) (hin:inB l):Tr Tryz.prog 73 [b] [vw b (By l)] []
  fun v D=>∃ dv,v = tup2 (.agg #[I (pgetR l).1.kd,I (pgetR l).1.sn,I (pgetR l).1.bn,I (pgetR l).1.pn,I (pgetR l).1.rn,dv]) (I (pgetR l).2)∧dv.oneCell' = true∧D = [own TyB dv (By (pgetR l).1.l)]:=by
 have hO:=ROpen_tr b l hin hl
 have hBl:(openR l).1.length ≤ 1099511627776:=by unfold openR;split <;> (try split) <;> simp <;> omega
 have hBi:inB (openR l).1:=by
  unfold openR;split
  ·exact inB.nil
  ·split
   ·exact fun x hx=>hin x (List.mem_of_mem_take hx)
   ·exact inB.nil
 unfold pgetR
 rw [← rgB_eq hBi]
 generalize openR l = O at *
 obtain ⟨B,oe⟩:=O
 dsimp only at hO hBl hBi ⊢
 have hbB:=By_len B
 by_cases he:oe = 0
 rotate_left
 ·rw [if_neg he]
  refine Tr.enter env _ Tryz.func73 (by kernel_rfl) rfl Tryz.ntmps73 rfl (by repeat (first | exact has00 | refine has01 ?_)) fun w0=>?_
  repeat' first|(refine gca ?_;first|(refine ca hO ?_;rintro _ _ ⟨o,rfl,ho,rfl⟩))|refine al fun z=>?_|refine bdz ?_|refine srz ?_|(refine wo ?_;first|(refine ao ?_;first|refine oa ?_)|refine oa ?_)|(refine gc ?_;first|(refine cn (fun hB=>?_) (fun hB=>?_) <;> try (exfalso;omega)))|refine sq ?_|refine rg ?_|refine xc ?_|refine nl ?_|refine rt ?_
  refine TX.im (own_nil TyB _) ?_
  exact rca (vs:=[I 0,I 0,I 0,I 0,I 0,nS]) ⟨nS,rfl,rfl,rfl⟩
 subst he
 rw [if_pos rfl]
 by_cases hB0:B = []
 ·subst hB0
  refine Tr.enter env _ Tryz.func73 (by kernel_rfl) rfl Tryz.ntmps73 rfl (by repeat (first | exact has00 | refine has01 ?_)) fun w0=>?_
  repeat' first|(refine gca ?_;first|(refine ca hO ?_;rintro _ _ ⟨o,rfl,ho,rfl⟩))|refine al fun z=>?_|(refine ln (xs:=By []) ?_)|refine bdz ?_|refine srz ?_|(refine wo ?_;first|(refine ao ?_;first|refine oa ?_)|refine oa ?_)|(refine gc ?_;first|refine ct ?_|refine cf ?_)|refine sq ?_|refine rg ?_|refine xc ?_|refine nl ?_|refine sk ?_|refine rt ?_
  refine TX.im (own_nil TyB _) ?_
  exact rca (vs:=[I 0,I 0,I 0,I 0,I 0,nS]) ⟨nS,rfl,rfl,rfl⟩
 have hB1:0 < B.length:=List.length_pos_iff.2 hB0
 have hk:=hBi _ (getD_memZ (i:=0) hB1)
 have hV1:=fun o=>Vw.from o B (lo:=1) (by omega)
 have hI1:inB (B.drop 1):=fun x hx=>hBi x (List.mem_of_mem_drop hx)
 have hL1:(B.drop 1).length ≤ 1099511627776:=by rw [List.length_drop];omega
 have hT1:=fun o=>take11_tr (slSub o 1 B.length) (B.drop 1) hI1 hL1
 have hI2:=tk4_in hI1
 have hL2:(tk4 (B.drop 1)).1.2.length ≤ 1099511627776:=Nat.le_trans (tk4_len _) hL1
 have hT2:=fun v=>take11_tr v (tk4 (B.drop 1)).1.2 hI2 hL2
 have hI3:=tk4_in hI2
 have hL3:(tk4 (tk4 (B.drop 1)).1.2).1.2.length ≤ 1099511627776:=Nat.le_trans (tk4_len _) hL2
 have hT3:=fun v=>take11_tr v (tk4 (tk4 (B.drop 1)).1.2).1.2 hI3 hL3
 have hI4:=tk4_in hI3
 have hL4:(tk4 (tk4 (tk4 (B.drop 1)).1.2).1.2).1.2.length ≤ 1099511627776:=Nat.le_trans (tk4_len _) hL3
 have ek1:frmB (B.getD 0 0) = (decide (B.getD 0 0 = 1) || decide (B.getD 0 0 = 2)):=rfl
 unfold rgB
 rw [if_neg hB0]
 unfold rg4 rg3 rg2 rg1 tkIf tkR
 rw [ek1]
 have hRC:=fun sn bn pn rn dv (m:List Int) hd=>RCheck11_tr (B.getD 0 0) sn bn pn rn dv m hd
 generalize hkk:B.getD 0 0 = k at *
 generalize tk4 (B.drop 1) = t1 at *
 obtain ⟨⟨n1,r1⟩,i1⟩:=t1
 dsimp only at hT1 hI2 hL2 hT2 hI3 hL3 hT3 hI4 hL4 ⊢
 generalize tk4 r1 = t2 at *
 obtain ⟨⟨n2,r2⟩,i2⟩:=t2
 dsimp only at hT1 hT2 hI3 hL3 hT3 hI4 hL4 ⊢
 generalize ht3:tk4 r2 = t3 at *
 obtain ⟨⟨n3,r3⟩,i3⟩:=t3
 dsimp only at hT1 hT2 hT3 hI4 hL4 ⊢
 cases i1
 ·rw [if_neg (by simp)]
  refine Tr.enter env _ Tryz.func73 (by kernel_rfl) rfl Tryz.ntmps73 rfl (by repeat (first | exact has00 | refine has01 ?_)) fun w0=>?_
  repeat' first|(refine gca ?_;first|(refine ca hO ?_;rintro _ _ ⟨o,rfl,ho,rfl⟩)|(refine ca (hT1 o) ?_ (hp:=has1 (hV1 o _ hasA) has0);rintro _ _ ⟨v1,rfl,w1,rfl⟩)|(refine ca (hT2 v1) ?_ (hp:=has1 (w1 _ (hV1 o _ hasA)) has0);rintro _ _ ⟨v2,rfl,w2,rfl⟩)|(refine ca (hT3 v2) ?_ (hp:=has1 (w2 _ (w1 _ (hV1 o _ hasA))) has0);rintro _ _ ⟨v3,rfl,w3,rfl⟩))|refine al fun z=>?_|(refine ln (xs:=By B) ?_;rw [hbB])|refine bdz ?_|refine srz ?_|refine lda ?_|refine qldA ?_|(refine lb (l:=B) (j:=0) ?_;rw [hkk])|(refine sclm (l:=B) ?_)|(refine sl0 fun e0=>?_)|(refine ap (xs:=[]) (news:=By r1) (fun v9=>?_) (h1:=By_one _) (hu:=(w1 _ (hV1 o _ hasA)));refine TO.one (v:=v9) (xs:=[] ++ By r1) fun hv9=>?_)|(refine wo ?_;first|(refine ao ?_;first|refine oa ?_)|refine acw ?_|refine oa ?_|refine ixmn ?_|refine sr ?_|refine gn ?_|refine gu ?_)|(refine gc ?_;first|refine ct ?_|refine cf ?_|(refine ci (fun hB=>?_) (fun hB=>?_) <;> try (exfalso;omega)))|refine sq ?_|refine rg ?_|refine xc ?_|refine nl ?_|refine sk ?_|refine rt ?_
  refine TX.im (own_nil TyB _) ?_
  exact rca (vs:=[I 0,I 0,I 0,I 0,I 0,nS]) ⟨nS,rfl,rfl,rfl⟩
 by_cases k1:k = 1
 ·subst k1
  cases i2
  ·rw [if_neg (by simp)]
   refine Tr.enter env _ Tryz.func73 (by kernel_rfl) rfl Tryz.ntmps73 rfl (by repeat (first | exact has00 | refine has01 ?_)) fun w0=>?_
   repeat' first|(refine gca ?_;first|(refine ca hO ?_;rintro _ _ ⟨o,rfl,ho,rfl⟩)|(refine ca (hT1 o) ?_ (hp:=has1 (hV1 o _ hasA) has0);rintro _ _ ⟨v1,rfl,w1,rfl⟩)|(refine ca (hT2 v1) ?_ (hp:=has1 (w1 _ (hV1 o _ hasA)) has0);rintro _ _ ⟨v2,rfl,w2,rfl⟩)|(refine ca (hT3 v2) ?_ (hp:=has1 (w2 _ (w1 _ (hV1 o _ hasA))) has0);rintro _ _ ⟨v3,rfl,w3,rfl⟩))|refine al fun z=>?_|(refine ln (xs:=By B) ?_;rw [hbB])|refine bdz ?_|refine srz ?_|refine lda ?_|refine qldA ?_|(refine lb (l:=B) (j:=0) ?_;rw [hkk])|(refine sclm (l:=B) ?_)|(refine sl0 fun e0=>?_)|(refine ap (xs:=[]) (news:=By r2) (fun v9=>?_) (h1:=By_one _) (hu:=(w2 _ (w1 _ (hV1 o _ hasA))));refine TO.one (v:=v9) (xs:=[] ++ By r2) fun hv9=>?_)|(refine wo ?_;first|(refine ao ?_;first|refine oa ?_)|refine acw ?_|refine oa ?_|refine ld ?_|refine ixmn ?_|refine sr ?_|refine gy ?_|refine gn ?_)|(refine gc ?_;first|refine ct ?_|refine cf ?_|(refine ci (fun hB=>?_) (fun hB=>?_) <;> try (exfalso;omega)))|refine sq ?_|refine rg ?_|refine xc ?_|refine nl ?_|refine sk ?_|refine rt ?_
   refine TX.im (own_nil TyB _) ?_
   exact rca (vs:=[I 0,I 0,I 0,I 0,I 0,nS]) ⟨nS,rfl,rfl,rfl⟩
  cases i3
  ·rw [if_neg (by simp [ht3])]
   refine Tr.enter env _ Tryz.func73 (by kernel_rfl) rfl Tryz.ntmps73 rfl (by repeat (first | exact has00 | refine has01 ?_)) fun w0=>?_
   repeat' first|(refine gca ?_;first|(refine ca hO ?_;rintro _ _ ⟨o,rfl,ho,rfl⟩)|(refine ca (hT1 o) ?_ (hp:=has1 (hV1 o _ hasA) has0);rintro _ _ ⟨v1,rfl,w1,rfl⟩)|(refine ca (hT2 v1) ?_ (hp:=has1 (w1 _ (hV1 o _ hasA)) has0);rintro _ _ ⟨v2,rfl,w2,rfl⟩)|(refine ca (hT3 v2) ?_ (hp:=has1 (w2 _ (w1 _ (hV1 o _ hasA))) has0);rintro _ _ ⟨v3,rfl,w3,rfl⟩))|refine al fun z=>?_|(refine ln (xs:=By B) ?_;rw [hbB])|refine bdz ?_|refine srz ?_|refine lda ?_|refine qldA ?_|(refine lb (l:=B) (j:=0) ?_;rw [hkk])|(refine sclm (l:=B) ?_)|(refine sl0 fun e0=>?_)|(refine ap (xs:=[]) (news:=By r3) (fun v9=>?_) (h1:=By_one _) (hu:=(w3 _ (w2 _ (w1 _ (hV1 o _ hasA)))));refine TO.one (v:=v9) (xs:=[] ++ By r3) fun hv9=>?_)|(refine wo ?_;first|(refine ao ?_;first|refine oa ?_)|refine acw ?_|refine oa ?_|refine ld ?_|refine ixmn ?_|refine sr ?_|refine gy ?_|refine gn ?_)|(refine gc ?_;first|refine ct ?_|refine cf ?_|(refine ci (fun hB=>?_) (fun hB=>?_) <;> try (exfalso;omega)))|refine sq ?_|refine rg ?_|refine xc ?_|refine nl ?_|refine sk ?_|refine rt ?_
   refine TX.im (own_nil TyB _) ?_
   exact rca (vs:=[I 0,I 0,I 0,I 0,I 0,nS]) ⟨nS,rfl,rfl,rfl⟩
  simp only [ht3,decide_true,Bool.true_or,if_true,show decide ((1:Int) = 4) = false from rfl,Bool.false_eq_true,false_and,if_false]
  have hC:=fun dv hd=>hRC n1 n2 n3 0 dv r3 hd
  by_cases hok:pkOk 1 n1 n2 n3 0 (r3).length
  ·rw [show pkE 1 n1 n2 n3 0 (r3).length = 0 from if_pos hok] at hC
   refine Tr.enter env _ Tryz.func73 (by kernel_rfl) rfl Tryz.ntmps73 rfl (by repeat (first | exact has00 | refine has01 ?_)) fun w0=>?_
   repeat' first|(refine gca ?_;first|(refine ca hO ?_;rintro _ _ ⟨o,rfl,ho,rfl⟩)|(refine ca (hT1 o) ?_ (hp:=has1 (hV1 o _ hasA) has0);rintro _ _ ⟨v1,rfl,w1,rfl⟩)|(refine ca (hT2 v1) ?_ (hp:=has1 (w1 _ (hV1 o _ hasA)) has0);rintro _ _ ⟨v2,rfl,w2,rfl⟩)|(refine ca (hT3 v2) ?_ (hp:=has1 (w2 _ (w1 _ (hV1 o _ hasA))) has0);rintro _ _ ⟨v3,rfl,w3,rfl⟩)|(refine ca (hC v9 hv9) ?_;rintro _ _ ⟨rfl,rfl⟩))|refine al fun z=>?_|(refine ln (xs:=By B) ?_;rw [hbB])|refine bdz ?_|refine srz ?_|refine lda ?_|refine qldA ?_|(refine lb (l:=B) (j:=0) ?_;rw [hkk])|(refine sclm (l:=B) ?_)|(refine sl0 fun e0=>?_)|(refine ap (xs:=[]) (news:=By r3) (fun v9=>?_) (h1:=By_one _) (hu:=(w3 _ (w2 _ (w1 _ (hV1 o _ hasA)))));refine TO.one (v:=v9) (xs:=[] ++ By r3) fun hv9=>?_)|(refine wo ?_;first|(refine ao ?_;first|refine oa ?_)|refine acw ?_|refine oa ?_|refine ld ?_|refine ixmn ?_|refine sr ?_|refine gy ?_|refine gn ?_)|(refine gc ?_;first|refine ct ?_|refine cf ?_|(refine ci (fun hB=>?_) (fun hB=>?_) <;> try (exfalso;omega)))|refine sq ?_|refine rg ?_|refine xc ?_|refine nl ?_|refine sk ?_|refine rt ?_
   (try simp only [eq_self,true_and]);rw [if_pos hok]
   exact rca (vs:=[I 1,I n1,I n2,I n3,I 0,v9]) ⟨v9,rfl,hv9,rfl⟩
  ·rw [show pkE 1 n1 n2 n3 0 (r3).length = 2 from if_neg hok] at hC
   refine Tr.enter env _ Tryz.func73 (by kernel_rfl) rfl Tryz.ntmps73 rfl (by repeat (first | exact has00 | refine has01 ?_)) fun w0=>?_
   repeat' first|(refine gca ?_;first|(refine ca hO ?_;rintro _ _ ⟨o,rfl,ho,rfl⟩)|(refine ca (hT1 o) ?_ (hp:=has1 (hV1 o _ hasA) has0);rintro _ _ ⟨v1,rfl,w1,rfl⟩)|(refine ca (hT2 v1) ?_ (hp:=has1 (w1 _ (hV1 o _ hasA)) has0);rintro _ _ ⟨v2,rfl,w2,rfl⟩)|(refine ca (hT3 v2) ?_ (hp:=has1 (w2 _ (w1 _ (hV1 o _ hasA))) has0);rintro _ _ ⟨v3,rfl,w3,rfl⟩)|(refine ca (hC v9 hv9) ?_;rintro _ _ ⟨rfl,rfl⟩))|refine al fun z=>?_|(refine ln (xs:=By B) ?_;rw [hbB])|refine bdz ?_|refine srz ?_|refine lda ?_|refine qldA ?_|(refine lb (l:=B) (j:=0) ?_;rw [hkk])|(refine sclm (l:=B) ?_)|(refine sl0 fun e0=>?_)|(refine ap (xs:=[]) (news:=By r3) (fun v9=>?_) (h1:=By_one _) (hu:=(w3 _ (w2 _ (w1 _ (hV1 o _ hasA)))));refine TO.one (v:=v9) (xs:=[] ++ By r3) fun hv9=>?_)|(refine wo ?_;first|(refine ao ?_;first|refine oa ?_)|refine acw ?_|refine oa ?_|refine ld ?_|refine ixmn ?_|refine sr ?_|refine gy ?_|refine gn ?_)|(refine gc ?_;first|refine ct ?_|refine cf ?_|(refine ci (fun hB=>?_) (fun hB=>?_) <;> try (exfalso;omega)))|refine sq ?_|refine rg ?_|refine xc ?_|refine nl ?_|refine sk ?_|refine rt ?_
   (try simp only [eq_self,true_and]);rw [if_neg hok]
   refine TX.im (own_nil TyB _) ?_
   exact rca (vs:=[I 0,I 0,I 0,I 0,I 0,nS]) ⟨nS,rfl,rfl,rfl⟩
 by_cases k2:k = 2
 ·subst k2
  cases i2
  ·rw [if_neg (by simp)]
   refine Tr.enter env _ Tryz.func73 (by kernel_rfl) rfl Tryz.ntmps73 rfl (by repeat (first | exact has00 | refine has01 ?_)) fun w0=>?_
   repeat' first|(refine gca ?_;first|(refine ca hO ?_;rintro _ _ ⟨o,rfl,ho,rfl⟩)|(refine ca (hT1 o) ?_ (hp:=has1 (hV1 o _ hasA) has0);rintro _ _ ⟨v1,rfl,w1,rfl⟩)|(refine ca (hT2 v1) ?_ (hp:=has1 (w1 _ (hV1 o _ hasA)) has0);rintro _ _ ⟨v2,rfl,w2,rfl⟩)|(refine ca (hT3 v2) ?_ (hp:=has1 (w2 _ (w1 _ (hV1 o _ hasA))) has0);rintro _ _ ⟨v3,rfl,w3,rfl⟩))|refine al fun z=>?_|(refine ln (xs:=By B) ?_;rw [hbB])|refine bdz ?_|refine srz ?_|refine lda ?_|refine qldA ?_|(refine lb (l:=B) (j:=0) ?_;rw [hkk])|(refine sclm (l:=B) ?_)|(refine sl0 fun e0=>?_)|(refine ap (xs:=[]) (news:=By r2) (fun v9=>?_) (h1:=By_one _) (hu:=(w2 _ (w1 _ (hV1 o _ hasA))));refine TO.one (v:=v9) (xs:=[] ++ By r2) fun hv9=>?_)|(refine wo ?_;first|(refine ao ?_;first|refine oa ?_)|refine acw ?_|refine oa ?_|refine ld ?_|refine ixmn ?_|refine sr ?_|refine gy ?_|refine gn ?_)|(refine gc ?_;first|refine ct ?_|refine cf ?_|(refine ci (fun hB=>?_) (fun hB=>?_) <;> try (exfalso;omega)))|refine sq ?_|refine rg ?_|refine xc ?_|refine nl ?_|refine sk ?_|refine rt ?_
   refine TX.im (own_nil TyB _) ?_
   exact rca (vs:=[I 0,I 0,I 0,I 0,I 0,nS]) ⟨nS,rfl,rfl,rfl⟩
  simp only [show decide ((2:Int) = 1) = false from rfl,show decide ((2:Int) = 4) = false from rfl,decide_true,Bool.false_or,if_true,Bool.false_eq_true,false_and,if_false]
  have hC:=fun dv hd=>hRC n1 n2 0 0 dv r2 hd
  by_cases hok:pkOk 2 n1 n2 0 0 (r2).length
  ·rw [show pkE 2 n1 n2 0 0 (r2).length = 0 from if_pos hok] at hC
   refine Tr.enter env _ Tryz.func73 (by kernel_rfl) rfl Tryz.ntmps73 rfl (by repeat (first | exact has00 | refine has01 ?_)) fun w0=>?_
   repeat' first|(refine gca ?_;first|(refine ca hO ?_;rintro _ _ ⟨o,rfl,ho,rfl⟩)|(refine ca (hT1 o) ?_ (hp:=has1 (hV1 o _ hasA) has0);rintro _ _ ⟨v1,rfl,w1,rfl⟩)|(refine ca (hT2 v1) ?_ (hp:=has1 (w1 _ (hV1 o _ hasA)) has0);rintro _ _ ⟨v2,rfl,w2,rfl⟩)|(refine ca (hT3 v2) ?_ (hp:=has1 (w2 _ (w1 _ (hV1 o _ hasA))) has0);rintro _ _ ⟨v3,rfl,w3,rfl⟩)|(refine ca (hC v9 hv9) ?_;rintro _ _ ⟨rfl,rfl⟩))|refine al fun z=>?_|(refine ln (xs:=By B) ?_;rw [hbB])|refine bdz ?_|refine srz ?_|refine lda ?_|refine qldA ?_|(refine lb (l:=B) (j:=0) ?_;rw [hkk])|(refine sclm (l:=B) ?_)|(refine sl0 fun e0=>?_)|(refine ap (xs:=[]) (news:=By r2) (fun v9=>?_) (h1:=By_one _) (hu:=(w2 _ (w1 _ (hV1 o _ hasA))));refine TO.one (v:=v9) (xs:=[] ++ By r2) fun hv9=>?_)|(refine wo ?_;first|(refine ao ?_;first|refine oa ?_)|refine acw ?_|refine oa ?_|refine ld ?_|refine ixmn ?_|refine sr ?_|refine gy ?_|refine gn ?_)|(refine gc ?_;first|refine ct ?_|refine cf ?_|(refine ci (fun hB=>?_) (fun hB=>?_) <;> try (exfalso;omega)))|refine sq ?_|refine rg ?_|refine xc ?_|refine nl ?_|refine sk ?_|refine rt ?_
   (try simp only [eq_self,true_and]);rw [if_pos hok]
   exact rca (vs:=[I 2,I n1,I n2,I 0,I 0,v9]) ⟨v9,rfl,hv9,rfl⟩
  ·rw [show pkE 2 n1 n2 0 0 (r2).length = 2 from if_neg hok] at hC
   refine Tr.enter env _ Tryz.func73 (by kernel_rfl) rfl Tryz.ntmps73 rfl (by repeat (first | exact has00 | refine has01 ?_)) fun w0=>?_
   repeat' first|(refine gca ?_;first|(refine ca hO ?_;rintro _ _ ⟨o,rfl,ho,rfl⟩)|(refine ca (hT1 o) ?_ (hp:=has1 (hV1 o _ hasA) has0);rintro _ _ ⟨v1,rfl,w1,rfl⟩)|(refine ca (hT2 v1) ?_ (hp:=has1 (w1 _ (hV1 o _ hasA)) has0);rintro _ _ ⟨v2,rfl,w2,rfl⟩)|(refine ca (hT3 v2) ?_ (hp:=has1 (w2 _ (w1 _ (hV1 o _ hasA))) has0);rintro _ _ ⟨v3,rfl,w3,rfl⟩)|(refine ca (hC v9 hv9) ?_;rintro _ _ ⟨rfl,rfl⟩))|refine al fun z=>?_|(refine ln (xs:=By B) ?_;rw [hbB])|refine bdz ?_|refine srz ?_|refine lda ?_|refine qldA ?_|(refine lb (l:=B) (j:=0) ?_;rw [hkk])|(refine sclm (l:=B) ?_)|(refine sl0 fun e0=>?_)|(refine ap (xs:=[]) (news:=By r2) (fun v9=>?_) (h1:=By_one _) (hu:=(w2 _ (w1 _ (hV1 o _ hasA))));refine TO.one (v:=v9) (xs:=[] ++ By r2) fun hv9=>?_)|(refine wo ?_;first|(refine ao ?_;first|refine oa ?_)|refine acw ?_|refine oa ?_|refine ld ?_|refine ixmn ?_|refine sr ?_|refine gy ?_|refine gn ?_)|(refine gc ?_;first|refine ct ?_|refine cf ?_|(refine ci (fun hB=>?_) (fun hB=>?_) <;> try (exfalso;omega)))|refine sq ?_|refine rg ?_|refine xc ?_|refine nl ?_|refine sk ?_|refine rt ?_
   (try simp only [eq_self,true_and]);rw [if_neg hok]
   refine TX.im (own_nil TyB _) ?_
   exact rca (vs:=[I 0,I 0,I 0,I 0,I 0,nS]) ⟨nS,rfl,rfl,rfl⟩
 rw [decide_eq_false k1,decide_eq_false k2]
 simp only [Bool.or_self,Bool.false_eq_true,if_false,if_true]
 by_cases k4:k = 4
 ·subst k4
  simp only [decide_true,true_and]
  by_cases h0:0 < r1.length
  ·have h1i:=hI2 _ (getD_memZ h0)
   have hW:=fun v=>Vw.from v r1 (lo:=1) (by omega)
   have hbr:=By_len r1
   have hR0:r1.getD 0 0 = r1.getD 0 0:=rfl
   rw [if_pos h0]
   generalize hrn:r1.getD 0 0 = rn at *
   have hC:=fun dv hd=>hRC n1 0 0 rn dv (r1.drop 1) hd
   by_cases hok:pkOk 4 n1 0 0 rn ((r1.drop 1)).length
   ·rw [show pkE 4 n1 0 0 rn ((r1.drop 1)).length = 0 from if_pos hok] at hC
    refine Tr.enter env _ Tryz.func73 (by kernel_rfl) rfl Tryz.ntmps73 rfl (by repeat (first | exact has00 | refine has01 ?_)) fun w0=>?_
    repeat' first|(refine gca ?_;first|(refine ca hO ?_;rintro _ _ ⟨o,rfl,ho,rfl⟩)|(refine ca (hT1 o) ?_ (hp:=has1 (hV1 o _ hasA) has0);rintro _ _ ⟨v1,rfl,w1,rfl⟩)|(refine ca (hT2 v1) ?_ (hp:=has1 (w1 _ (hV1 o _ hasA)) has0);rintro _ _ ⟨v2,rfl,w2,rfl⟩)|(refine ca (hT3 v2) ?_ (hp:=has1 (w2 _ (w1 _ (hV1 o _ hasA))) has0);rintro _ _ ⟨v3,rfl,w3,rfl⟩)|(refine ca (hC v9 hv9) ?_;rintro _ _ ⟨rfl,rfl⟩))|(refine lb (l:=r1) (j:=0) ?_ (hh:=(w1 _ (hV1 o _ hasA)));rw [hrn])|(refine ixmn (l:=r1) ?_ (hh:=(w1 _ (hV1 o _ hasA))))|(refine sclm (l:=r1) ?_ (hs:=(w1 _ (hV1 o _ hasA))))|(refine ln (xs:=By r1) ?_ (hh:=(w1 _ (hV1 o _ hasA)));rw [hbr])|refine al fun z=>?_|(refine ln (xs:=By B) ?_;rw [hbB])|refine bdz ?_|refine srz ?_|refine lda ?_|refine qldA ?_|(refine lb (l:=B) (j:=0) ?_;rw [hkk])|(refine sclm (l:=B) ?_)|(refine sl0 fun e0=>?_)|(refine ap (xs:=[]) (news:=By (r1.drop 1)) (fun v9=>?_) (h1:=By_one _) (hu:=(hW _ _ (w1 _ (hV1 o _ hasA))));refine TO.one (v:=v9) (xs:=[] ++ By (r1.drop 1)) fun hv9=>?_)|(refine wo ?_;first|(refine ao ?_;first|refine oa ?_)|refine acw ?_|refine oa ?_|refine ld ?_|refine ixmn ?_|refine sr ?_|refine gy ?_)|(refine gc ?_;first|refine cf ?_|(refine ci (fun hB=>?_) (fun hB=>?_) <;> try (exfalso;omega)))|refine sq ?_|refine rg ?_|refine xc ?_|refine nl ?_|refine sk ?_|refine rt ?_
    (try simp only [eq_self,true_and]);rw [if_pos hok]
    exact rca (vs:=[I 4,I n1,I 0,I 0,I rn,v9]) ⟨v9,rfl,hv9,rfl⟩
   ·rw [show pkE 4 n1 0 0 rn ((r1.drop 1)).length = 2 from if_neg hok] at hC
    refine Tr.enter env _ Tryz.func73 (by kernel_rfl) rfl Tryz.ntmps73 rfl (by repeat (first | exact has00 | refine has01 ?_)) fun w0=>?_
    repeat' first|(refine gca ?_;first|(refine ca hO ?_;rintro _ _ ⟨o,rfl,ho,rfl⟩)|(refine ca (hT1 o) ?_ (hp:=has1 (hV1 o _ hasA) has0);rintro _ _ ⟨v1,rfl,w1,rfl⟩)|(refine ca (hT2 v1) ?_ (hp:=has1 (w1 _ (hV1 o _ hasA)) has0);rintro _ _ ⟨v2,rfl,w2,rfl⟩)|(refine ca (hT3 v2) ?_ (hp:=has1 (w2 _ (w1 _ (hV1 o _ hasA))) has0);rintro _ _ ⟨v3,rfl,w3,rfl⟩)|(refine ca (hC v9 hv9) ?_;rintro _ _ ⟨rfl,rfl⟩))|(refine lb (l:=r1) (j:=0) ?_ (hh:=(w1 _ (hV1 o _ hasA)));rw [hrn])|(refine ixmn (l:=r1) ?_ (hh:=(w1 _ (hV1 o _ hasA))))|(refine sclm (l:=r1) ?_ (hs:=(w1 _ (hV1 o _ hasA))))|(refine ln (xs:=By r1) ?_ (hh:=(w1 _ (hV1 o _ hasA)));rw [hbr])|refine al fun z=>?_|(refine ln (xs:=By B) ?_;rw [hbB])|refine bdz ?_|refine srz ?_|refine lda ?_|refine qldA ?_|(refine lb (l:=B) (j:=0) ?_;rw [hkk])|(refine sclm (l:=B) ?_)|(refine sl0 fun e0=>?_)|(refine ap (xs:=[]) (news:=By (r1.drop 1)) (fun v9=>?_) (h1:=By_one _) (hu:=(hW _ _ (w1 _ (hV1 o _ hasA))));refine TO.one (v:=v9) (xs:=[] ++ By (r1.drop 1)) fun hv9=>?_)|(refine wo ?_;first|(refine ao ?_;first|refine oa ?_)|refine acw ?_|refine oa ?_|refine ld ?_|refine ixmn ?_|refine sr ?_|refine gy ?_)|(refine gc ?_;first|refine ct ?_|refine cf ?_|(refine ci (fun hB=>?_) (fun hB=>?_) <;> try (exfalso;omega)))|refine sq ?_|refine rg ?_|refine xc ?_|refine nl ?_|refine sk ?_|refine rt ?_
    (try simp only [eq_self,true_and]);rw [if_neg hok]
    refine TX.im (own_nil TyB _) ?_
    exact rca (vs:=[I 0,I 0,I 0,I 0,I 0,nS]) ⟨nS,rfl,rfl,rfl⟩
  ·rw [if_neg h0]
   have e0:r1 = []:=List.eq_nil_of_length_eq_zero (by omega)
   subst e0
   have hC:=fun dv hd=>hRC n1 0 0 0 dv [] hd
   by_cases hok:pkOk 4 n1 0 0 0 ([]:List Int).length
   ·rw [show pkE 4 n1 0 0 0 ([]:List Int).length = 0 from if_pos hok] at hC
    refine Tr.enter env _ Tryz.func73 (by kernel_rfl) rfl Tryz.ntmps73 rfl (by repeat (first | exact has00 | refine has01 ?_)) fun w0=>?_
    repeat' first|(refine gca ?_;first|(refine ca hO ?_;rintro _ _ ⟨o,rfl,ho,rfl⟩)|(refine ca (hT1 o) ?_ (hp:=has1 (hV1 o _ hasA) has0);rintro _ _ ⟨v1,rfl,w1,rfl⟩)|(refine ca (hT2 v1) ?_ (hp:=has1 (w1 _ (hV1 o _ hasA)) has0);rintro _ _ ⟨v2,rfl,w2,rfl⟩)|(refine ca (hT3 v2) ?_ (hp:=has1 (w2 _ (w1 _ (hV1 o _ hasA))) has0);rintro _ _ ⟨v3,rfl,w3,rfl⟩)|(refine ca (hC v9 hv9) ?_;rintro _ _ ⟨rfl,rfl⟩))|(refine ln (xs:=By []) ?_ (hh:=(w1 _ (hV1 o _ hasA))))|(refine ap (xs:=[]) (news:=By []) (fun v9=>?_) (h1:=By_one _) (hu:=(w1 _ (hV1 o _ hasA))) (hby:=by simp) (h63:=by simp);refine TO.one (v:=v9) (xs:=[] ++ By []) fun hv9=>?_)|refine al fun z=>?_|(refine ln (xs:=By B) ?_;rw [hbB])|refine bdz ?_|refine srz ?_|refine lda ?_|refine qldA ?_|(refine lb (l:=B) (j:=0) ?_;rw [hkk])|(refine sclm (l:=B) ?_)|(refine sl0 fun e0=>?_)|(refine ap (xs:=[]) (news:=By []) (fun v9=>?_) (h1:=By_one _) (hu:=(w1 _ (hV1 o _ hasA)));refine TO.one (v:=v9) (xs:=[] ++ By []) fun hv9=>?_)|(refine wo ?_;first|(refine ao ?_;first|refine oa ?_)|refine acw ?_|refine oa ?_|refine ld ?_|refine ixmn ?_|refine sr ?_|refine gy ?_)|(refine gc ?_;first|refine cf ?_|(refine ci (fun hB=>?_) (fun hB=>?_) <;> try (exfalso;omega)))|refine sq ?_|refine rg ?_|refine xc ?_|refine nl ?_|refine sk ?_|refine rt ?_
    (try simp only [eq_self,true_and]);rw [if_pos hok]
    exact rca (vs:=[I 4,I n1,I 0,I 0,I 0,v9]) ⟨v9,rfl,hv9,rfl⟩
   ·rw [show pkE 4 n1 0 0 0 ([]:List Int).length = 2 from if_neg hok] at hC
    refine Tr.enter env _ Tryz.func73 (by kernel_rfl) rfl Tryz.ntmps73 rfl (by repeat (first | exact has00 | refine has01 ?_)) fun w0=>?_
    repeat' first|(refine gca ?_;first|(refine ca hO ?_;rintro _ _ ⟨o,rfl,ho,rfl⟩)|(refine ca (hT1 o) ?_ (hp:=has1 (hV1 o _ hasA) has0);rintro _ _ ⟨v1,rfl,w1,rfl⟩)|(refine ca (hT2 v1) ?_ (hp:=has1 (w1 _ (hV1 o _ hasA)) has0);rintro _ _ ⟨v2,rfl,w2,rfl⟩)|(refine ca (hT3 v2) ?_ (hp:=has1 (w2 _ (w1 _ (hV1 o _ hasA))) has0);rintro _ _ ⟨v3,rfl,w3,rfl⟩)|(refine ca (hC v9 hv9) ?_;rintro _ _ ⟨rfl,rfl⟩))|(refine ln (xs:=By []) ?_ (hh:=(w1 _ (hV1 o _ hasA))))|(refine ap (xs:=[]) (news:=By []) (fun v9=>?_) (h1:=By_one _) (hu:=(w1 _ (hV1 o _ hasA))) (hby:=by simp) (h63:=by simp);refine TO.one (v:=v9) (xs:=[] ++ By []) fun hv9=>?_)|refine al fun z=>?_|(refine ln (xs:=By B) ?_;rw [hbB])|refine bdz ?_|refine srz ?_|refine lda ?_|refine qldA ?_|(refine lb (l:=B) (j:=0) ?_;rw [hkk])|(refine sclm (l:=B) ?_)|(refine sl0 fun e0=>?_)|(refine ap (xs:=[]) (news:=By []) (fun v9=>?_) (h1:=By_one _) (hu:=(w1 _ (hV1 o _ hasA)));refine TO.one (v:=v9) (xs:=[] ++ By []) fun hv9=>?_)|(refine wo ?_;first|(refine ao ?_;first|refine oa ?_)|refine acw ?_|refine oa ?_|refine ld ?_|refine ixmn ?_|refine sr ?_|refine gy ?_)|(refine gc ?_;first|refine ct ?_|refine cf ?_|(refine ci (fun hB=>?_) (fun hB=>?_) <;> try (exfalso;omega)))|refine sq ?_|refine rg ?_|refine xc ?_|refine nl ?_|refine sk ?_|refine rt ?_
    (try simp only [eq_self,true_and]);rw [if_neg hok]
    refine TX.im (own_nil TyB _) ?_
    exact rca (vs:=[I 0,I 0,I 0,I 0,I 0,nS]) ⟨nS,rfl,rfl,rfl⟩
 rw [decide_eq_false k4]
 simp only [Bool.false_eq_true,false_and,if_false]
 have hC:=fun dv hd=>hRC n1 0 0 0 dv r1 hd
 by_cases hok:pkOk k n1 0 0 0 (r1).length
 ·rw [show pkE k n1 0 0 0 (r1).length = 0 from if_pos hok] at hC
  refine Tr.enter env _ Tryz.func73 (by kernel_rfl) rfl Tryz.ntmps73 rfl (by repeat (first | exact has00 | refine has01 ?_)) fun w0=>?_
  repeat' first|(refine gca ?_;first|(refine ca hO ?_;rintro _ _ ⟨o,rfl,ho,rfl⟩)|(refine ca (hT1 o) ?_ (hp:=has1 (hV1 o _ hasA) has0);rintro _ _ ⟨v1,rfl,w1,rfl⟩)|(refine ca (hT2 v1) ?_ (hp:=has1 (w1 _ (hV1 o _ hasA)) has0);rintro _ _ ⟨v2,rfl,w2,rfl⟩)|(refine ca (hT3 v2) ?_ (hp:=has1 (w2 _ (w1 _ (hV1 o _ hasA))) has0);rintro _ _ ⟨v3,rfl,w3,rfl⟩)|(refine ca (hC v9 hv9) ?_;rintro _ _ ⟨rfl,rfl⟩))|refine al fun z=>?_|(refine ln (xs:=By B) ?_;rw [hbB])|refine bdz ?_|refine srz ?_|refine lda ?_|refine qldA ?_|(refine lb (l:=B) (j:=0) ?_;rw [hkk])|(refine sclm (l:=B) ?_)|(refine sl0 fun e0=>?_)|(refine ap (xs:=[]) (news:=By r1) (fun v9=>?_) (h1:=By_one _) (hu:=(w1 _ (hV1 o _ hasA)));refine TO.one (v:=v9) (xs:=[] ++ By r1) fun hv9=>?_)|(refine wo ?_;first|(refine ao ?_;first|refine oa ?_)|refine acw ?_|refine oa ?_|refine ld ?_|refine ixmn ?_|refine sr ?_|refine gy ?_|refine gn ?_|(refine gsi (fun hB=>?_) (fun hB=>?_) <;> try (exfalso;omega)))|(refine gc ?_;first|refine cf ?_|(refine ci (fun hB=>?_) (fun hB=>?_) <;> try (exfalso;omega)))|refine sq ?_|refine rg ?_|refine xc ?_|refine nl ?_|refine sk ?_|refine rt ?_
  (try simp only [eq_self,true_and]);rw [if_pos hok]
  exact rca (vs:=[I k,I n1,I 0,I 0,I 0,v9]) ⟨v9,rfl,hv9,rfl⟩
 ·rw [show pkE k n1 0 0 0 (r1).length = 2 from if_neg hok] at hC
  refine Tr.enter env _ Tryz.func73 (by kernel_rfl) rfl Tryz.ntmps73 rfl (by repeat (first | exact has00 | refine has01 ?_)) fun w0=>?_
  repeat' first|(refine gca ?_;first|(refine ca hO ?_;rintro _ _ ⟨o,rfl,ho,rfl⟩)|(refine ca (hT1 o) ?_ (hp:=has1 (hV1 o _ hasA) has0);rintro _ _ ⟨v1,rfl,w1,rfl⟩)|(refine ca (hT2 v1) ?_ (hp:=has1 (w1 _ (hV1 o _ hasA)) has0);rintro _ _ ⟨v2,rfl,w2,rfl⟩)|(refine ca (hT3 v2) ?_ (hp:=has1 (w2 _ (w1 _ (hV1 o _ hasA))) has0);rintro _ _ ⟨v3,rfl,w3,rfl⟩)|(refine ca (hC v9 hv9) ?_;rintro _ _ ⟨rfl,rfl⟩))|refine al fun z=>?_|(refine ln (xs:=By B) ?_;rw [hbB])|refine bdz ?_|refine srz ?_|refine lda ?_|refine qldA ?_|(refine lb (l:=B) (j:=0) ?_;rw [hkk])|(refine sclm (l:=B) ?_)|(refine sl0 fun e0=>?_)|(refine ap (xs:=[]) (news:=By r1) (fun v9=>?_) (h1:=By_one _) (hu:=(w1 _ (hV1 o _ hasA)));refine TO.one (v:=v9) (xs:=[] ++ By r1) fun hv9=>?_)|(refine wo ?_;first|(refine ao ?_;first|refine oa ?_)|refine acw ?_|refine oa ?_|refine ld ?_|refine ixmn ?_|refine sr ?_|refine gy ?_|refine gn ?_|(refine gsi (fun hB=>?_) (fun hB=>?_) <;> try (exfalso;omega)))|(refine gc ?_;first|refine ct ?_|refine cf ?_|(refine ci (fun hB=>?_) (fun hB=>?_) <;> try (exfalso;omega)))|refine sq ?_|refine rg ?_|refine xc ?_|refine nl ?_|refine sk ?_|refine rt ?_
  (try simp only [eq_self,true_and]);rw [if_neg hok]
  refine TX.im (own_nil TyB _) ?_
  exact rca (vs:=[I 0,I 0,I 0,I 0,I 0,nS]) ⟨nS,rfl,rfl,rfl⟩
end Go.Art
namespace Go.Art
open Go Go.Proofs Go.RowKit
attribute [local irreducible] Fit pt own ro vw mpc lpt vels rels mow lrc dfr
theorem RSoCheck_tr (s:Value) (t:List Int) (k:Int):Tr Tryz.prog 138 [s,I k] [vw s (Is t)] [] fun v D=>v = I (solE t k)∧D = []:=by
 by_cases hg:k < 1∨65536 < k∨t.length < 1∨k < t.length
 ·rw [show solE t k = 13 from if_pos hg]
  refine Tr.enter env _ Tryz.func138 (by kernel_rfl) rfl Tryz.ntmps138 rfl (by repeat (first | exact has00 | refine has01 ?_)) fun w0=>?_
  refine TC.leni (l:=t) fun htl=>?_
  repeat' first|(refine wo ?_;first|(refine ao ?_;first|refine oa ?_)|refine oa ?_|refine lnm ?_|refine gy ?_|refine gn ?_|(refine gsi (fun hB=>?_) (fun hB=>?_) <;> try (exfalso;omega)))|(refine gc ?_;first|refine ct ?_|(refine ci (fun hB=>?_) (fun hB=>?_) <;> try (exfalso;omega)))|refine sq ?_|refine rg ?_|refine xc ?_|refine nl ?_|refine rt ?_
  all_goals first | exact r1 ⟨rfl,rfl⟩ | (exfalso;omega)
 rw [show solE t k = if t.all wOk && t.any wPos then 0 else 13 from if_neg hg]
 refine Tr.enter env _ Tryz.func138 (by kernel_rfl) rfl Tryz.ntmps138 rfl (by repeat (first | exact has00 | refine has01 ?_)) fun w0=>?_
 refine TC.leni (l:=t) fun htl=>?_
 repeat' first|(refine wo ?_;first|(refine ao ?_;first|refine oa ?_)|refine oa ?_|refine lnm ?_|refine gy ?_|(refine gsi (fun hB=>?_) (fun hB=>?_) <;> try (exfalso;omega)))|(refine gc ?_;first|(refine ci (fun hB=>?_) (fun hB=>?_) <;> try (exfalso;omega)))|refine sq ?_|refine rg ?_|refine xc ?_|refine nl ?_|refine sk ?_|refine bk ?_
 refine TC.loop (ι:=Nat × Bool) (fun i=>[(6,I i.1),(5,.bool i.2)]) (fun _=>[]) (fun i=>i.1 ≤ t.length∧(t.take i.1).all wOk = true∧i.2 = (t.take i.1).any wPos) (fun i=>t.length - i.1) (0,false) [0,1] ⟨by simp,rfl,rfl⟩ ?_
 rintro ⟨i,so⟩ ⟨h1,h2,h3⟩
 dsimp only at h1 h2 h3 ⊢
 by_cases hi:i < t.length
 ·have ha:=take_all (p:=wOk) hi
  have hb:=take_any (p:=wPos) hi
  have hc:=all_of_take (p:=wOk) hi
  generalize hy:t.getD i 0 = y at *
  repeat' first|refine lie hy ?_|(refine wo ?_;first|(refine ao ?_;first|refine aw ?_|refine oa ?_)|refine oa ?_|refine lnm ?_|refine ixmn ?_|refine gy ?_|refine gn ?_|(refine gsi (fun hB=>?_) (fun hB=>?_) <;> try (exfalso;omega))|(refine gs (fun hB=>?_) (fun hB=>?_) <;> try (exfalso;omega)))|(refine gc ?_;first|refine ct ?_|(refine ci (fun hB=>?_) (fun hB=>?_) <;> try (exfalso;omega)))|refine sq ?_|refine rg ?_|refine xc ?_|refine nl ?_|refine sk ?_|refine bk ?_|refine rt ?_|refine xb ?_
  ·refine r1 ⟨?_,rfl⟩
   rw [hc (by simp [wOk];omega)];rfl
  ·refine r1 ⟨?_,rfl⟩
   rw [hc (by simp [wOk];omega)];rfl
  ·have hw:wOk y = true:=by simp [wOk];omega
   exact lp (i + 1,true) ⟨by dsimp only;omega,by dsimp only;rw [ha,h2,hw];rfl,by dsimp only;rw [hb,← h3,hB];rfl⟩
  ·have hw:wOk y = true:=by simp [wOk];omega
   exact lp (i + 1,decide (0 < y)) ⟨by dsimp only;omega,by dsimp only;rw [ha,h2,hw];rfl,by dsimp only;rw [hb,← h3,hB];rfl⟩
 ·obtain rfl:i = t.length:=by omega
  rw [List.take_length] at h2 h3
  repeat' first|(refine wo ?_;first|(refine ao ?_;first|refine oa ?_)|refine oa ?_|refine lnm ?_)|(refine gc ?_;first|(refine ci (fun hB=>?_) (fun hB=>?_) <;> try (exfalso;omega))|(refine cb (fun hB=>?_) (fun hB=>?_) <;> try (exfalso;omega)))|refine sq ?_|refine rg ?_|refine xc ?_|refine nl ?_|refine sk ?_|refine xe ?_|refine rt ?_
  ·refine r1 ⟨?_,rfl⟩
   rw [h2,← h3,show so = false by simpa using hB];rfl
  ·refine r1 ⟨?_,rfl⟩
   rw [h2,← h3,show so = true by simpa using hB];rfl
end Go.Art
namespace Go.Art
open Go
structure RaI (t:List Int) (all:Int) (u:AlS) (dn:List Bool):Prop where
 ld:dn.length = t.length
 dr:∀ c:Nat,c < t.length→dn.getD c false = true→u.rest.getD c 0 < all
 B:∀ c:Nat,c < t.length→((c:Int) ∈ u.B ↔ dn.getD c false = false∧u.rest.getD c 0 < all)
 A:∀ c:Nat,c < t.length→((c:Int) ∈ u.A ↔ all < u.rest.getD c 0)
 sB:u.B.Pairwise (· ≤ ·)
 sA:u.A.Pairwise (· ≤ ·)
theorem mem_srt {x y:Int} {l:List Int}:x ∈ srt (y :: l) ↔ x = y∨x ∈ l:=by rw [(srt_perm (y :: l)).mem_iff,List.mem_cons]
theorem getB_set' (l:List Bool) (i t:Nat) (x:Bool) (h:i < l.length):(l.set i x).getD t false = if t = i then x else l.getD t false:=by
 rw [List.getD_eq_getElem?_getD,List.getElem?_set]
 by_cases e:i = t
 ·subst e;simp [h]
 ·rw [if_neg e,if_neg (fun q=>e q.symm),List.getD_eq_getElem?_getD]
theorem RaI.step {t:List Int} {all:Int} {u:AlS} {dn:List Bool} {i j:Int} {B A:List Int} (r:RaI t all u dn) (h:AlI t all u) (hB:u.B = i :: B) (hA:u.A = j :: A) :
  RaI t all (alStep all u i j B A) (dn.set i.toNat true):=by
 have hbi:=h.B i (by rw [hB];simp)
 have haj:=h.A j (by rw [hA];simp)
 have hnd:=h.nd
 rw [hB,hA] at hnd
 obtain ⟨n1,n2,n3⟩:=List.nodup_append.1 hnd
 obtain ⟨hiB,nB⟩:=List.nodup_cons.1 n1
 obtain ⟨hjA,nA⟩:=List.nodup_cons.1 n2
 have hij:i ≠ j:=n3 i (by simp) j (by simp)
 have hsB:=r.sB
 rw [hB] at hsB
 have hsA:=r.sA
 rw [hA] at hsA
 obtain ⟨⟨i0,i1⟩,i2,i3⟩:=hbi
 obtain ⟨⟨j0,j1⟩,j2,j3,j4⟩:=haj
 have hlr:=h.lr
 have hld:=r.ld
 have hr:∀ c:Nat,(alStep all u i j B A).rest.getD c 0 = if (c:Int) = j then u.rest.getD j.toNat 0 - (all - u.rest.getD i.toNat 0) else u.rest.getD c 0:=fun c=>by
  have:=getD_setI u.rest j c (u.rest.getD j.toNat 0 - (all - u.rest.getD i.toNat 0)) (by omega) (by omega)
  rw [Int.toNat_natCast] at this
  exact this
 have hd:∀ c:Nat,(dn.set i.toNat true).getD c false = if (c:Int) = i then true else dn.getD c false:=fun c=>by
  rw [getB_set' _ _ _ _ (by omega)]
  by_cases e:(c:Int) = i
  ·rw [if_pos (by omega),if_pos e]
  ·rw [if_neg (by omega),if_neg e]
 have hdj:dn.getD j.toNat false = false:=by
  cases hc:dn.getD j.toNat false with
  | false=>rfl
  | true=>have:=r.dr j.toNat (by omega) hc;omega
 refine ⟨by rw [List.length_set];exact hld,fun c hc hdc=>?_,fun c hc=>?_,fun c hc=>?_,?_,?_⟩
 ·rw [hr]
  rw [hd] at hdc
  by_cases ej:(c:Int) = j
  ·rw [if_neg (by omega)] at hdc
   have:c = j.toNat:=by omega
   rw [this,hdj] at hdc;cases hdc
  ·rw [if_neg ej]
   by_cases ei:(c:Int) = i
   ·have:c = i.toNat:=by omega
    rw [this];exact i3
   ·rw [if_neg ei] at hdc
    exact r.dr c hc hdc
 ·rw [hr,hd]
  have hBc:=r.B c hc
  rw [hB,List.mem_cons] at hBc
  show (c:Int) ∈ (if u.rest.getD j.toNat 0 - (all - u.rest.getD i.toNat 0) > all then B else if u.rest.getD j.toNat 0 - (all - u.rest.getD i.toNat 0) < all then srt (j :: B) else B) ↔ _
  generalize u.rest.getD j.toNat 0 - (all - u.rest.getD i.toNat 0) = rr
  have hjB:j ∉ B:=fun hm=>n3 j (by simp [hm]) j (by simp) rfl
  by_cases ej:(c:Int) = j
  ·have hcj:c = j.toNat:=by omega
   rw [if_pos ej,if_neg (show ¬ (c:Int) = i by omega),show dn.getD c false = false by rw [hcj];exact hdj,ej]
   by_cases g1:rr > all
   ·rw [if_pos g1];exact ⟨fun q=>absurd q hjB,fun q=>by omega⟩
   ·rw [if_neg g1]
    by_cases g2:rr < all
    ·rw [if_pos g2];exact ⟨fun _=>⟨rfl,g2⟩,fun _=>mem_srt.2 (.inl rfl)⟩
    ·rw [if_neg g2];exact ⟨fun q=>absurd q hjB,fun q=>absurd q.2 g2⟩
  ·rw [if_neg ej]
   have hm:(c:Int) ∈ (if rr > all then B else if rr < all then srt (j :: B) else B) ↔ (c:Int) ∈ B:=by
    split
    ·exact Iff.rfl
    ·split
     ·rw [mem_srt];exact ⟨fun q=>q.resolve_left ej,.inr⟩
     ·exact Iff.rfl
   rw [hm]
   by_cases ei:(c:Int) = i
   ·rw [if_pos ei,ei]
    exact ⟨fun q=>absurd q hiB,fun q=>by cases q.1⟩
   ·rw [if_neg ei,← hBc]
    exact ⟨.inr,fun q=>q.resolve_left ei⟩
 ·rw [hr]
  have hAc:=r.A c hc
  rw [hA,List.mem_cons] at hAc
  show (c:Int) ∈ (if u.rest.getD j.toNat 0 - (all - u.rest.getD i.toNat 0) > all then j :: A else A) ↔ _
  generalize u.rest.getD j.toNat 0 - (all - u.rest.getD i.toNat 0) = rr
  by_cases ej:(c:Int) = j
  ·rw [if_pos ej,ej]
   by_cases g1:rr > all
   ·rw [if_pos g1];exact ⟨fun _=>g1,fun _=>by simp⟩
   ·rw [if_neg g1];exact ⟨fun q=>absurd q hjA,fun q=>absurd q g1⟩
  ·rw [if_neg ej,← hAc]
   split
   ·rw [List.mem_cons]
   ·exact ⟨.inr,fun q=>q.resolve_left ej⟩
 ·show (if u.rest.getD j.toNat 0 - (all - u.rest.getD i.toNat 0) > all then B else if u.rest.getD j.toNat 0 - (all - u.rest.getD i.toNat 0) < all then srt (j :: B) else B).Pairwise (· ≤ ·)
  have hs:=(List.pairwise_cons.1 hsB).2
  split
  ·exact hs
  ·split
   ·exact srt_sorted _
   ·exact hs
 ·show (if u.rest.getD j.toNat 0 - (all - u.rest.getD i.toNat 0) > all then j :: A else A).Pairwise (· ≤ ·)
  split
  ·exact hsA
  ·exact (List.pairwise_cons.1 hsA).2
theorem alIn_mem {t:List Int} {all:Int}:∀ n:Nat,n ≤ t.length→(∀ c:Int,(c ∈ (alIn t all n).B ↔ (0 ≤ c∧c < n)∧t.getD c.toNat 0 * t.length < all)∧(c ∈ (alIn t all n).A ↔ (0 ≤ c∧c < n)∧all < t.getD c.toNat 0 * t.length)) ∧
  (alIn t all n).B.Pairwise (· ≤ ·)∧(alIn t all n).A.Pairwise (· ≤ ·)∧(alIn t all n).rest.length = t.length∧∀ c:Nat,c < n→(alIn t all n).rest.getD c 0 = t.getD c 0 * t.length
 | 0,_=>⟨fun c=>⟨⟨fun q=>(by simp [alIn] at q),fun q=>by omega⟩,⟨fun q=>(by simp [alIn] at q),fun q=>by omega⟩⟩,by simp [alIn],by simp [alIn],by simp [alIn],fun c h=>by omega⟩
 | n + 1,hn=>by
  obtain ⟨h1,h2,h3,h4,h5⟩:=alIn_mem (t:=t) (all:=all) n (by omega)
  have hc1:∀ c:Int,(0 ≤ c∧c < ((n + 1:Nat):Int)) ↔ c = n∨(0 ≤ c∧c < (n:Int)):=fun c=>by omega
  have hcn:(n:Int).toNat = n:=Int.toNat_natCast n
  refine ⟨fun c=>⟨?_,?_⟩,?_,?_,?_,fun c hc=>?_⟩
  ·show c ∈ (if t.getD n 0 * t.length < all then srt ((n:Int) :: (alIn t all n).B) else (alIn t all n).B) ↔ _
   rw [hc1]
   split
   ·rename_i g
    rw [mem_srt,(h1 c).1]
    constructor
    ·rintro (rfl | q)
     ·exact ⟨.inl rfl,by rw [hcn];exact g⟩
     ·exact ⟨.inr q.1,q.2⟩
    ·rintro ⟨rfl | q,g2⟩
     ·exact .inl rfl
     ·exact .inr ⟨q,g2⟩
   ·rename_i g
    rw [(h1 c).1]
    constructor
    ·intro q;exact ⟨.inr q.1,q.2⟩
    ·rintro ⟨rfl | q,g2⟩
     ·rw [hcn] at g2;exact absurd g2 g
     ·exact ⟨q,g2⟩
  ·show c ∈ (if t.getD n 0 * t.length < all then (alIn t all n).A else if t.getD n 0 * t.length > all then srt ((n:Int) :: (alIn t all n).A) else (alIn t all n).A) ↔ _
   rw [hc1]
   split
   ·rename_i g
    rw [(h1 c).2]
    constructor
    ·intro q;exact ⟨.inr q.1,q.2⟩
    ·rintro ⟨rfl | q,g2⟩
     ·rw [hcn] at g2;omega
     ·exact ⟨q,g2⟩
   ·split
    ·rename_i g
     rw [mem_srt,(h1 c).2]
     constructor
     ·rintro (rfl | q)
      ·exact ⟨.inl rfl,by rw [hcn];exact g⟩
      ·exact ⟨.inr q.1,q.2⟩
     ·rintro ⟨rfl | q,g2⟩
      ·exact .inl rfl
      ·exact .inr ⟨q,g2⟩
    ·rename_i g
     rw [(h1 c).2]
     constructor
     ·intro q;exact ⟨.inr q.1,q.2⟩
     ·rintro ⟨rfl | q,g2⟩
      ·rw [hcn] at g2;exact absurd g2 g
      ·exact ⟨q,g2⟩
  ·show (if t.getD n 0 * t.length < all then srt ((n:Int) :: (alIn t all n).B) else (alIn t all n).B).Pairwise (· ≤ ·)
   split
   ·exact srt_sorted _
   ·exact h2
  ·show (if t.getD n 0 * t.length < all then (alIn t all n).A else if t.getD n 0 * t.length > all then srt ((n:Int) :: (alIn t all n).A) else (alIn t all n).A).Pairwise (· ≤ ·)
   split
   ·exact h3
   ·split
    ·exact srt_sorted _
    ·exact h3
  ·show ((alIn t all n).rest.set n _).length = _
   rw [List.length_set];exact h4
  ·show ((alIn t all n).rest.set n (t.getD n 0 * t.length)).getD c 0 = _
   rw [getD_set _ _ _ _ (by omega)]
   by_cases e:n = c
   ·rw [if_pos e,e]
   ·rw [if_neg e];exact h5 c (by omega)
theorem RaI.start (t:List Int) (all:Int):RaI t all (alIn t all t.length) (List.replicate t.length false):=by
 obtain ⟨h1,h2,h3,h4,h5⟩:=alIn_mem (t:=t) (all:=all) t.length (Nat.le_refl _)
 have hf:∀ c:Nat,(List.replicate t.length false).getD c false = false:=fun c=>by
  rw [List.getD_eq_getElem?_getD,List.getElem?_replicate];split <;> rfl
 refine ⟨by simp,fun c _ q=>(by rw [hf] at q;cases q),fun c hc=>?_,fun c hc=>?_,h2,h3⟩
 ·rw [(h1 c).1,hf,h5 c hc,Int.toNat_natCast]
  exact ⟨fun q=>⟨rfl,q.2⟩,fun q=>⟨by omega,q.2⟩⟩
 ·rw [(h1 c).2,h5 c hc,Int.toNat_natCast]
  exact ⟨fun q=>q.2,fun q=>⟨by omega,q⟩⟩
theorem RaI.least {t:List Int} {all:Int} {u:AlS} {dn:List Bool} (r:RaI t all u dn) (h:AlI t all u) {i:Nat} (hi:i ≤ t.length) (h1:i < t.length→dn.getD i false = false∧u.rest.getD i 0 < all) (h2:∀ j:Nat,j < i→¬ (dn.getD j false = false∧u.rest.getD j 0 < all)) :
  if i < t.length then u.B.head? = some (i:Int) else u.B = []:=by
 cases hB:u.B with
 | nil=>
  split
  ·rename_i g
   have:=(r.B i g).2 (h1 g)
   rw [hB] at this;simp at this
  ·rfl
 | cons x B=>
  have hx:=h.B x (by rw [hB];simp)
  have hx2:=(r.B x.toNat (by omega)).1 (by rw [show ((x.toNat:Nat):Int) = x by omega,hB];simp)
  have hix:¬ x.toNat < i:=fun q=>h2 _ q hx2
  rw [if_pos (by omega)]
  have hm:=(r.B i (by omega)).2 (h1 (by omega))
  rw [hB] at hm
  have hs:=r.sB
  rw [hB] at hs
  rcases List.mem_cons.1 hm with e | hm
  ·rw [e];rfl
  ·have:=(List.pairwise_cons.1 hs).1 _ hm
   have e:x = i:=by omega
   rw [e];rfl
theorem RaI.most {t:List Int} {all:Int} {u:AlS} {dn:List Bool} (r:RaI t all u dn) (h:AlI t all u) {x:Int} {A:List Int} (hA:u.A = x :: A) {j:Nat} (hj:j < t.length) (h1:j < t.length - 1→all < u.rest.getD j 0) (h2:∀ c:Nat,c < j→¬ all < u.rest.getD c 0):(j:Int) = x:=by
 have hx:=h.A x (by rw [hA];simp)
 have hx2:=(r.A x.toNat (by omega)).1 (by rw [show ((x.toNat:Nat):Int) = x by omega,hA];simp)
 have hix:¬ x.toNat < j:=fun q=>h2 _ q hx2
 by_cases e:j = t.length - 1
 ·omega
 ·have hm:=(r.A j hj).2 (h1 (by omega))
  rw [hA] at hm
  have hs:=r.sA
  rw [hA] at hs
  rcases List.mem_cons.1 hm with e | hm
  ·exact e
  ·have:=(List.pairwise_cons.1 hs).1 _ hm
   omega
open Go Go.Proofs Go.RowKit
section
variable {P:Program} {E:Env P} {n:Sh} {X:Cx} {s:List K} {fr:Fr} {A A':List Ch} {ops:Array Oper} {rest:List Oper} {d:Nat} {ty t el:TypeId} {pos:String} {after:Array Edge} {v z:Value} {x y:Operand} {by_:Nat}
theorem sbo {l:List Bool} {j:Nat} {m:Bool} (k:TO E n X s ops rest fr (own el v (Bo (l.set j m)) :: A')) (hx:ev fr x = some (.pointer (some (addrAt v j))):=by rfl) (hm:Tk (own el v (Bo l)) A A':=by exact tkA) (hy:ev fr y = some (.bool m):=by rfl)
  (hj:j < l.length:=by omega) (ht:lk E.inf t = some (z,1,by_):=by rfl):TO E n X s ops (⟨none,.store t x y,ty,pos,after,none⟩ :: rest) fr A:=so k hx hm hy (by simpa using hj) (List.map_set ..) rfl ht
end
attribute [local irreducible] Fit pt own ro vw mpc lpt vels rels mow lrc dfr
attribute [local irreducible] lmp lme mit velg relg
theorem RTable_tr (s:Value) (t:List Int) (hl:t.length ≤ 65536) (hw:∀ w ∈ t,0 ≤ w∧w ≤ 16777215) (hp:t.any wPos = true):Tr Tryz.prog 182 [s] [vw s (Is t)] [] fun v D=>v = .bool true∧D = []:=by
 refine Tr.enter env _ Tryz.func182 (by kernel_rfl) rfl Tryz.ntmps182 rfl (by repeat (first | exact has00 | refine has01 ?_)) fun w0=>?_
 repeat' first|(refine wo ?_;first|refine oa ?_)|refine sq ?_|refine rg ?_|refine xc ?_|refine nl ?_|refine bk ?_
 refine TC.loop (ι:=Nat × Bool) (fun i=>[(4,I i.1),(3,.bool i.2)]) (fun _=>[]) (fun i=>i.1 ≤ t.length∧i.2 = (t.take i.1).any wPos) (fun i=>t.length - i.1) (0,false) [0] ⟨by simp,rfl⟩ ?_
 rintro ⟨i,so⟩ ⟨h1,h3⟩
 dsimp only at h1 h3 ⊢
 by_cases hi:i < t.length
 ·have hb:=take_any (p:=wPos) hi
  have hx:=hw _ (mem_getD.2 ⟨i,hi,rfl⟩)
  generalize hy:t.getD i 0 = y at *
  repeat' first|refine lie hy ?_|(refine wo ?_;first|(refine ao ?_;first|refine aw ?_|refine oa ?_)|refine oa ?_|refine lnm ?_|refine ixmn ?_|refine gy ?_|refine gn ?_|(refine gsi (fun hB=>?_) (fun hB=>?_) <;> try (exfalso;omega))|(refine gs (fun hB=>?_) (fun hB=>?_) <;> try (exfalso;omega)))|(refine gc ?_;first|(refine ci (fun hB=>?_) (fun hB=>?_) <;> try (exfalso;omega)))|refine sq ?_|refine rg ?_|refine xc ?_|refine nl ?_|refine sk ?_|refine bk ?_|refine xb ?_
  ·exact lp (i + 1,true) ⟨by dsimp only;omega,by dsimp only;rw [hb,← h3,hB];rfl⟩
  ·exact lp (i + 1,decide (0 < y)) ⟨by dsimp only;omega,by dsimp only;rw [hb,← h3,hB];rfl⟩
 ·obtain rfl:i = t.length:=by omega
  rw [List.take_length,hp] at h3
  subst h3
  repeat' first|(refine wo ?_;first|(refine ao ?_;first|refine oa ?_)|refine oa ?_|refine lnm ?_|refine gy ?_|refine gn ?_|(refine gsi (fun hB=>?_) (fun hB=>?_) <;> try (exfalso;omega)))|(refine gc ?_;first|refine cf ?_)|refine sq ?_|refine rg ?_|refine xc ?_|refine nl ?_|refine xe ?_|refine rt ?_
  exact r1 ⟨by rw [decide_eq_true (show (t.length:Int) ≤ 65536 by omega)],rfl⟩ (v:=.bool (decide ((t.length:Int) ≤ 65536)))
theorem take_sum' {t:List Int} {i:Nat} (hi:i < t.length):(t.take (i + 1)).sum = (t.take i).sum + t.getD i 0:=by rw [take_succ' hi 0,List.sum_append];simp
theorem RTotal_tr (s:Value) (t:List Int) (hl:t.length ≤ 65536) (hw:∀ w ∈ t,0 ≤ w∧w ≤ 16777215):Tr Tryz.prog 183 [s] [vw s (Is t)] [] fun v D=>v = I t.sum∧D = []:=by
 refine Tr.enter env _ Tryz.func183 (by kernel_rfl) rfl Tryz.ntmps183 rfl (by repeat (first | exact has00 | refine has01 ?_)) fun w0=>?_
 repeat' first|(refine wo ?_;first|refine oa ?_)|refine sq ?_|refine rg ?_|refine xc ?_|refine nl ?_|refine bk ?_
 refine TC.loop (ι:=Nat) (fun i=>[(4,I i),(3,I (t.take i).sum)]) (fun _=>[]) (fun i=>i ≤ t.length) (fun i=>t.length - i) 0 [0] (Nat.zero_le _) ?_
 intro i h1
 have hsb:=sum_bound (t:=t.take i) (fun w h=>hw w (List.mem_of_mem_take h))
 rw [List.length_take,Nat.min_eq_left h1] at hsb
 by_cases hi:i < t.length
 ·have hb:=take_sum' hi
  have hx:=hw _ (mem_getD.2 ⟨i,hi,rfl⟩)
  generalize hy:t.getD i 0 = y at *
  generalize (t.take i).sum = sm at *
  repeat' first|refine lie hy ?_|(refine wo ?_;first|(refine ao ?_;first|refine aw ?_|refine oa ?_)|refine oa ?_|refine lnm ?_|refine ixmn ?_)|(refine gc ?_;first|(refine ci (fun hB=>?_) (fun hB=>?_) <;> try (exfalso;omega)))|refine sq ?_|refine rg ?_|refine xc ?_|refine nl ?_|refine sk ?_|refine bk ?_|refine xb ?_
  exact lp (i + 1) hi (hs:=by rw [hb];(repeat (refine Sub.cons rfl (by first | rfl | go_num) ?_));exact Sub.nil)
 ·obtain rfl:i = t.length:=by omega
  rw [List.take_length]
  repeat' first|(refine wo ?_;first|(refine ao ?_;first|refine oa ?_)|refine oa ?_|refine lnm ?_)|(refine gc ?_;first|(refine ci (fun hB=>?_) (fun hB=>?_) <;> try (exfalso;omega)))|refine sq ?_|refine rg ?_|refine xc ?_|refine nl ?_|refine xe ?_|refine rt ?_
  exact r1 ⟨rfl,rfl⟩
theorem below_tr (rv dv:Value) (l:List Int) (dn:List Bool) (all:Int) (hl:l.length ≤ 65536) (hd:dn.length = l.length):Tr Tryz.prog 184 [rv,dv,I all] [vw rv (Is l),vw dv (Bo dn)] []
  fun v D=>(∃ i:Nat,v = I i∧i ≤ l.length∧(i < l.length→dn.getD i false = false∧l.getD i 0 < all)∧∀ j:Nat,j < i→¬ (dn.getD j false = false∧l.getD j 0 < all))∧D = []:=by
 refine Tr.enter env _ Tryz.func184 (by kernel_rfl) rfl Tryz.ntmps184 rfl (by repeat (first | exact has00 | refine has01 ?_)) fun w0=>?_
 repeat' first|(refine wo ?_;first|refine oa ?_)|refine sq ?_|refine rg ?_|refine xc ?_|refine nl ?_|refine bk ?_
 refine TC.loop (ι:=Nat) (fun i=>[(7,I i)]) (fun _=>[]) (fun i=>i ≤ l.length∧∀ j:Nat,j < i→¬ (dn.getD j false = false∧l.getD j 0 < all)) (fun i=>l.length - i) 0 [0,1,2] ⟨Nat.zero_le _,fun j h=>absurd h (Nat.not_lt_zero j)⟩ ?_
 rintro i ⟨h1,h2⟩
 by_cases hi:i < l.length
 ·have hid:i < dn.length:=by omega
  cases hb:dn.getD i false
  ·by_cases hc:l.getD i 0 < all
   ·generalize hy:l.getD i 0 = y at *
    repeat' first|refine lie hy ?_|(refine lbo (l:=dn) ?_;rw [hb])|(refine wo ?_;first|(refine ao ?_;first|refine oa ?_)|refine oa ?_|refine lnm ?_|refine ixmn ?_|refine gy ?_|(refine gsi (fun hB=>?_) (fun hB=>?_) <;> try (exfalso;omega)))|(refine gc ?_;first|(refine ci (fun hB=>?_) (fun hB=>?_) <;> try (exfalso;omega)))|refine sq ?_|refine rg ?_|refine xc ?_|refine nl ?_|refine xe ?_|refine rt ?_
    exact r1 ⟨⟨i,rfl,h1,fun _=>⟨hb,by omega⟩,h2⟩,rfl⟩
   ·have hn:∀ j:Nat,j < i + 1→¬ (dn.getD j false = false∧l.getD j 0 < all):=fun j hj=>by
     by_cases e:j = i
     ·subst e;exact fun q=>hc q.2
     ·exact h2 j (by omega)
    generalize hy:l.getD i 0 = y at *
    repeat' first|refine lie hy ?_|(refine lbo (l:=dn) ?_;rw [hb])|(refine wo ?_;first|(refine ao ?_;first|refine aw ?_|refine oa ?_)|refine oa ?_|refine lnm ?_|refine ixmn ?_|refine gy ?_|(refine gsi (fun hB=>?_) (fun hB=>?_) <;> try (exfalso;omega)))|(refine gc ?_;first|(refine ci (fun hB=>?_) (fun hB=>?_) <;> try (exfalso;omega)))|refine sq ?_|refine rg ?_|refine xc ?_|refine nl ?_|refine sk ?_|refine bk ?_|refine xb ?_
    exact lp (i + 1) ⟨hi,hn⟩
  ·have hn:∀ j:Nat,j < i + 1→¬ (dn.getD j false = false∧l.getD j 0 < all):=fun j hj=>by
    by_cases e:j = i
    ·subst e;exact fun q=>by rw [hb] at q;cases q.1
    ·exact h2 j (by omega)
   repeat' first|(refine lbo (l:=dn) ?_;rw [hb])|(refine wo ?_;first|(refine ao ?_;first|refine aw ?_|refine oa ?_)|refine oa ?_|refine lnm ?_|refine ixmn ?_|refine gy ?_|refine gn ?_|(refine gsi (fun hB=>?_) (fun hB=>?_) <;> try (exfalso;omega)))|(refine gc ?_;first|refine ct ?_)|refine sq ?_|refine rg ?_|refine xc ?_|refine nl ?_|refine sk ?_|refine bk ?_|refine xb ?_
   exact lp (i + 1) ⟨hi,hn⟩
 ·obtain rfl:i = l.length:=by omega
  repeat' first|(refine wo ?_;first|(refine ao ?_;first|refine oa ?_)|refine oa ?_|refine lnm ?_|refine gn ?_|refine gu ?_|(refine gsi (fun hB=>?_) (fun hB=>?_) <;> try (exfalso;omega)))|(refine gc ?_;first|refine cf ?_)|refine sq ?_|refine rg ?_|refine xc ?_|refine nl ?_|refine xe ?_|refine rt ?_
  exact r1 ⟨⟨l.length,rfl,Nat.le_refl _,fun q=>absurd q (Nat.lt_irrefl _),h2⟩,rfl⟩
theorem above_tr (rv:Value) (l:List Int) (all:Int) (hl:1 ≤ l.length∧l.length ≤ 65536):Tr Tryz.prog 185 [rv,I all] [vw rv (Is l)] []
  fun v D=>(∃ i:Nat,v = I i∧i < l.length∧(i < l.length - 1→all < l.getD i 0)∧∀ j:Nat,j < i→¬ all < l.getD j 0)∧D = []:=by
 refine Tr.enter env _ Tryz.func185 (by kernel_rfl) rfl Tryz.ntmps185 rfl (by repeat (first | exact has00 | refine has01 ?_)) fun w0=>?_
 repeat' first|(refine wo ?_;first|refine oa ?_)|refine sq ?_|refine rg ?_|refine xc ?_|refine nl ?_|refine bk ?_
 refine TC.loop (ι:=Nat) (fun i=>[(5,I i)]) (fun _=>[]) (fun i=>i < l.length∧∀ j:Nat,j < i→¬ all < l.getD j 0) (fun i=>l.length - i) 0 [0,1] ⟨hl.1,fun j h=>absurd h (Nat.not_lt_zero j)⟩ ?_
 rintro i ⟨h1,h2⟩
 by_cases hi:i < l.length - 1
 ·by_cases hc:all < l.getD i 0
  ·generalize hy:l.getD i 0 = y at *
   repeat' first|refine lie hy ?_|(refine wo ?_;first|(refine ao ?_;first|refine aw ?_|refine oa ?_)|refine oa ?_|refine lnm ?_|refine ixmn ?_|refine gy ?_|(refine gsi (fun hB=>?_) (fun hB=>?_) <;> try (exfalso;omega)))|(refine gc ?_;first|(refine ci (fun hB=>?_) (fun hB=>?_) <;> try (exfalso;omega)))|refine sq ?_|refine rg ?_|refine xc ?_|refine nl ?_|refine xe ?_|refine rt ?_
   exact r1 ⟨⟨i,rfl,h1,fun _=>by omega,h2⟩,rfl⟩
  ·have hn:∀ j:Nat,j < i + 1→¬ all < l.getD j 0:=fun j hj=>by
    by_cases e:j = i
    ·subst e;exact hc
    ·exact h2 j (by omega)
   generalize hy:l.getD i 0 = y at *
   repeat' first|refine lie hy ?_|(refine wo ?_;first|(refine ao ?_;first|refine aw ?_|refine oa ?_)|refine oa ?_|refine lnm ?_|refine ixmn ?_|refine gy ?_|(refine gsi (fun hB=>?_) (fun hB=>?_) <;> try (exfalso;omega)))|(refine gc ?_;first|(refine ci (fun hB=>?_) (fun hB=>?_) <;> try (exfalso;omega)))|refine sq ?_|refine rg ?_|refine xc ?_|refine nl ?_|refine sk ?_|refine bk ?_|refine xb ?_
   exact lp (i + 1) ⟨by omega,hn⟩
 ·repeat' first|(refine wo ?_;first|(refine ao ?_;first|refine aw ?_|refine oa ?_)|refine oa ?_|refine lnm ?_|refine gn ?_|(refine gsi (fun hB=>?_) (fun hB=>?_) <;> try (exfalso;omega)))|(refine gc ?_;first|refine cf ?_)|refine sq ?_|refine rg ?_|refine xc ?_|refine nl ?_|refine xe ?_|refine rt ?_
  exact r1 ⟨⟨i,rfl,h1,fun q=>absurd q hi,h2⟩,rfl⟩
structure RmG where
 u:AlS
 dn:List Bool
 i:Nat
theorem Bo_rep (n:Nat):Bo (List.replicate n false) = List.replicate n (.bool false):=List.map_replicate ..
set_option maxHeartbeats 1000000 in
theorem RMake_tr (s:Value) (t:List Int) (hl:1 ≤ t.length∧t.length ≤ 65536) (hw:∀ w ∈ t,0 ≤ w∧w ≤ 16777215) (hpos:0 < t.sum) (hp:t.any wPos = true):Tr Tryz.prog 168 [s] [vw s (Is t)] []
  fun v D=>∃ cv ov,v = tup2 (.agg #[I t.sum,cv,ov]) (I 0)∧D = [own 3 cv (Is (alF t).cut),own 3 ov (Is (alF t).oth)]∧cv.oneCell' = true∧ov.oneCell' = true:=by
 have hsb:=sum_bound hw
 refine Tr.enter env _ Tryz.func168 (by kernel_rfl) rfl Tryz.ntmps168 rfl (by repeat (first | exact has00 | refine has01 ?_)) fun w0=>?_
 repeat' first|(refine gca ?_;first|(refine ca (RTable_tr s t hl.2 hw hp) ?_;rintro _ _ ⟨rfl,rfl⟩)|(refine ca (RTotal_tr s t hl.2 hw) ?_;rintro _ _ ⟨rfl,rfl⟩))|refine al fun br=>?_|refine sq_cutX (a:=.region 4 _ _) (ι:=Value × Value) (fun i=>i.1.oneCell' = true∧i.2.oneCell' = true) (fun i=>[(0,s),(2,ptr br),(4,I t.length),(5,I t.sum),(6,i.1),(7,i.2)]) (fun i=>[vw s (Is t),pt br [I 0,nS,nS] TAl,own 3 i.1 (Is (List.replicate t.length 0)),own 4 i.2 (List.replicate t.length (.bool false))]) ?_ (fun kb=>?_)|refine rs (id:=4) (fun _=>True) ?_ (fun _ _=>trivial)|(refine wo ?_;first|refine oa ?_|refine lnm ?_)|(refine gc ?_;first|refine cf ?_)|refine sq ?_|refine rg ?_|refine xc ?_|refine nl ?_|refine sk ?_
 rotate_left
 ·refine tka 0 ?_
  refine tka 2 ?_
  refine t2 1 3 ?_ ?_
  ·refine mki fun rv=>?_
   refine TO.one (v:=rv) (xs:=Is (List.replicate (t.length:Int).toNat 0)) fun hrv=>?_
   refine nl ?_
   refine te (fun _ _=>trivial) ?_
   refine tka 4 ?_
   refine t1 3 ?_
   refine mk (fun dv=>?_)
   refine TO.one (v:=dv) (xs:=List.replicate (t.length:Int).toNat (.bool false)) fun hdv=>?_
   refine nl ?_
   refine te (fun _ _=>trivial) ?_
   refine tka 5 ?_
   refine t0 ?_
   refine xc ?_
   exact kb (rv,dv) ⟨hrv,hdv⟩ _ _ (by (repeat (refine Sub.cons rfl (by first | rfl | go_num) ?_));exact Sub.nil) fitA
  ·refine mk (fun dv=>?_)
   refine TO.one (v:=dv) (xs:=List.replicate (t.length:Int).toNat (.bool false)) fun hdv=>?_
   refine nl ?_
   refine te (fun _ _=>trivial) ?_
   refine t1 1 ?_
   refine mki fun rv=>?_
   refine TO.one (v:=rv) (xs:=Is (List.replicate (t.length:Int).toNat 0)) fun hrv=>?_
   refine nl ?_
   refine te (fun _ _=>trivial) ?_
   refine tka 4 ?_
   refine tka 5 ?_
   refine t0 ?_
   refine xc ?_
   exact kb (rv,dv) ⟨hrv,hdv⟩ _ _ (by (repeat (refine Sub.cons rfl (by first | rfl | go_num) ?_));exact Sub.nil) fitA
 rintro ⟨rv,dv⟩ ⟨hrv,hdv⟩
 dsimp only at hrv hdv ⊢
 repeat' first|refine sq_cutX (a:=.region 5 _ _) (ι:=Nat × Value × Value) (fun i=>i.2.1.oneCell' = true∧i.2.2.oneCell' = true) (fun i=>[(0,s),(2,ptr br),(4,I t.length),(5,I t.sum),(6,rv),(7,dv),(8,ptr i.1)]) (fun i=>[vw s (Is t),pt br [I 0,nS,nS] TAl,own 3 rv (Is (List.replicate t.length 0)),own 4 dv (List.replicate t.length (.bool false)),pt i.1 [I t.sum,i.2.1,i.2.2] TAl,own 3 i.2.1 (Is (List.replicate t.length 0)),own 3 i.2.2 (Is (List.replicate t.length 0))]) ?_ (fun kb=>?_)|refine rs (id:=5) (fun _=>True) ?_ (fun _ _=>trivial)|(refine wo ?_;first|(refine ao ?_;first|refine aw ?_|refine aw6 ?_|refine oa ?_|refine adiv ?_|refine amod ?_|refine shr1 ?_|refine shr ?_|refine umod ?_|refine isl ?_|refine ipe ?_|refine ipn ?_|refine ibe ?_)|refine acw ?_|refine ucv ?_|refine anw ?_|refine oa ?_|refine ld ?_|refine ldl ?_|refine lnm ?_|refine ixmn ?_|refine ixm ?_|refine li ?_|refine lb ?_|refine lv ?_|refine ln ?_|refine ixn ?_|refine ix ?_|refine le ?_|refine sr ?_|refine soi ?_|refine sob ?_|refine scm ?_|refine sclm ?_|refine schm ?_|refine gy ?_|refine gn ?_|refine gnn ?_|refine gu ?_|(refine gsi (fun hB=>?_) (fun hB=>?_) <;> try (exfalso;omega))|(refine gsn (fun hB=>?_) (fun hB=>?_) <;> try (exfalso;omega))|(refine gs (fun hB=>?_) (fun hB=>?_) <;> try (exfalso;omega)))|(refine gc ?_;first|refine ct ?_|refine cf ?_|(refine ci (fun hB=>?_) (fun hB=>?_) <;> try (exfalso;omega))|(refine cn (fun hB=>?_) (fun hB=>?_) <;> try (exfalso;omega))|(refine cb (fun hB=>?_) (fun hB=>?_) <;> try (exfalso;omega)))|refine sq ?_|refine rg ?_|refine xc ?_|refine nl ?_|refine sk ?_|refine bk ?_|refine xe ?_|refine rt ?_|refine xb ?_
 rotate_left
 ·refine tka 0 ?_
  refine tka 1 ?_
  refine tka 3 ?_
  refine t3 2 4 6 ?_ ?_ ?_
  ·refine mki fun cv=>?_
   refine TO.one (v:=cv) (xs:=Is (List.replicate (t.length:Int).toNat 0)) fun hcv=>?_
   refine nl ?_
   refine te (fun _ _=>trivial) ?_
   refine t2 4 6 ?_ ?_
   ·refine mki fun ov=>?_
    refine TO.one (v:=ov) (xs:=Is (List.replicate (t.length:Int).toNat 0)) fun hov=>?_
    refine nl ?_
    refine te (fun _ _=>trivial) ?_
    refine t2 5 6 ?_ ?_
    ·refine bdz ?_
     refine nl ?_
     refine te (fun _ _=>trivial) ?_
     refine t1 6 ?_
     refine al fun bo=>?_
     refine nl ?_
     refine te (fun _ _=>trivial) ?_
     refine t1 7 ?_
     refine srz ?_
     refine nl ?_
     refine te (fun _ _=>trivial) ?_
     refine t0 ?_
     refine xc ?_
     exact kb (bo,cv,ov) ⟨hcv,hov⟩ _ _ (by (repeat (refine Sub.cons rfl (by first | rfl | go_num) ?_));exact Sub.nil) fitA
    ·refine al fun bo=>?_
     refine nl ?_
     refine te (fun _ _=>trivial) ?_
     refine t1 5 ?_
     refine bdz ?_
     refine nl ?_
     refine te (fun _ _=>trivial) ?_
     refine t1 7 ?_
     refine srz ?_
     refine nl ?_
     refine te (fun _ _=>trivial) ?_
     refine t0 ?_
     refine xc ?_
     exact kb (bo,cv,ov) ⟨hcv,hov⟩ _ _ (by (repeat (refine Sub.cons rfl (by first | rfl | go_num) ?_));exact Sub.nil) fitA
   ·refine al fun bo=>?_
    refine nl ?_
    refine te (fun _ _=>trivial) ?_
    refine t1 4 ?_
    refine mki fun ov=>?_
    refine TO.one (v:=ov) (xs:=Is (List.replicate (t.length:Int).toNat 0)) fun hov=>?_
    refine nl ?_
    refine te (fun _ _=>trivial) ?_
    refine t1 5 ?_
    refine bdz ?_
    refine nl ?_
    refine te (fun _ _=>trivial) ?_
    refine t1 7 ?_
    refine srz ?_
    refine nl ?_
    refine te (fun _ _=>trivial) ?_
    refine t0 ?_
    refine xc ?_
    exact kb (bo,cv,ov) ⟨hcv,hov⟩ _ _ (by (repeat (refine Sub.cons rfl (by first | rfl | go_num) ?_));exact Sub.nil) fitA
  ·refine mki fun ov=>?_
   refine TO.one (v:=ov) (xs:=Is (List.replicate (t.length:Int).toNat 0)) fun hov=>?_
   refine nl ?_
   refine te (fun _ _=>trivial) ?_
   refine t2 2 6 ?_ ?_
   ·refine mki fun cv=>?_
    refine TO.one (v:=cv) (xs:=Is (List.replicate (t.length:Int).toNat 0)) fun hcv=>?_
    refine nl ?_
    refine te (fun _ _=>trivial) ?_
    refine t2 5 6 ?_ ?_
    ·refine bdz ?_
     refine nl ?_
     refine te (fun _ _=>trivial) ?_
     refine t1 6 ?_
     refine al fun bo=>?_
     refine nl ?_
     refine te (fun _ _=>trivial) ?_
     refine t1 7 ?_
     refine srz ?_
     refine nl ?_
     refine te (fun _ _=>trivial) ?_
     refine t0 ?_
     refine xc ?_
     exact kb (bo,cv,ov) ⟨hcv,hov⟩ _ _ (by (repeat (refine Sub.cons rfl (by first | rfl | go_num) ?_));exact Sub.nil) fitA
    ·refine al fun bo=>?_
     refine nl ?_
     refine te (fun _ _=>trivial) ?_
     refine t1 5 ?_
     refine bdz ?_
     refine nl ?_
     refine te (fun _ _=>trivial) ?_
     refine t1 7 ?_
     refine srz ?_
     refine nl ?_
     refine te (fun _ _=>trivial) ?_
     refine t0 ?_
     refine xc ?_
     exact kb (bo,cv,ov) ⟨hcv,hov⟩ _ _ (by (repeat (refine Sub.cons rfl (by first | rfl | go_num) ?_));exact Sub.nil) fitA
   ·refine al fun bo=>?_
    refine nl ?_
    refine te (fun _ _=>trivial) ?_
    refine t1 2 ?_
    refine mki fun cv=>?_
    refine TO.one (v:=cv) (xs:=Is (List.replicate (t.length:Int).toNat 0)) fun hcv=>?_
    refine nl ?_
    refine te (fun _ _=>trivial) ?_
    refine t1 5 ?_
    refine bdz ?_
    refine nl ?_
    refine te (fun _ _=>trivial) ?_
    refine t1 7 ?_
    refine srz ?_
    refine nl ?_
    refine te (fun _ _=>trivial) ?_
    refine t0 ?_
    refine xc ?_
    exact kb (bo,cv,ov) ⟨hcv,hov⟩ _ _ (by (repeat (refine Sub.cons rfl (by first | rfl | go_num) ?_));exact Sub.nil) fitA
  ·refine al fun bo=>?_
   refine nl ?_
   refine te (fun _ _=>trivial) ?_
   refine t2 2 4 ?_ ?_
   ·refine mki fun cv=>?_
    refine TO.one (v:=cv) (xs:=Is (List.replicate (t.length:Int).toNat 0)) fun hcv=>?_
    refine nl ?_
    refine te (fun _ _=>trivial) ?_
    refine t1 4 ?_
    refine mki fun ov=>?_
    refine TO.one (v:=ov) (xs:=Is (List.replicate (t.length:Int).toNat 0)) fun hov=>?_
    refine nl ?_
    refine te (fun _ _=>trivial) ?_
    refine t1 5 ?_
    refine bdz ?_
    refine nl ?_
    refine te (fun _ _=>trivial) ?_
    refine t1 7 ?_
    refine srz ?_
    refine nl ?_
    refine te (fun _ _=>trivial) ?_
    refine t0 ?_
    refine xc ?_
    exact kb (bo,cv,ov) ⟨hcv,hov⟩ _ _ (by (repeat (refine Sub.cons rfl (by first | rfl | go_num) ?_));exact Sub.nil) fitA
   ·refine mki fun ov=>?_
    refine TO.one (v:=ov) (xs:=Is (List.replicate (t.length:Int).toNat 0)) fun hov=>?_
    refine nl ?_
    refine te (fun _ _=>trivial) ?_
    refine t1 2 ?_
    refine mki fun cv=>?_
    refine TO.one (v:=cv) (xs:=Is (List.replicate (t.length:Int).toNat 0)) fun hcv=>?_
    refine nl ?_
    refine te (fun _ _=>trivial) ?_
    refine t1 5 ?_
    refine bdz ?_
    refine nl ?_
    refine te (fun _ _=>trivial) ?_
    refine t1 7 ?_
    refine srz ?_
    refine nl ?_
    refine te (fun _ _=>trivial) ?_
    refine t0 ?_
    refine xc ?_
    exact kb (bo,cv,ov) ⟨hcv,hov⟩ _ _ (by (repeat (refine Sub.cons rfl (by first | rfl | go_num) ?_));exact Sub.nil) fitA
 rintro ⟨bo,cv,ov⟩ ⟨hcv,hov⟩
 dsimp only at hcv hov ⊢
 repeat' first|(refine wo ?_;first|refine oa ?_)|refine sq ?_|refine rg ?_|refine xc ?_|refine nl ?_|refine bk ?_
 have hall:=AlJ.all hw hl.2 hpos
 refine TC.loop (ι:=Nat) (fun i=>[(9,I i)]) (fun i=>[own 3 rv (Is (alIn t t.sum i).rest),own 3 cv (Is (alIn t t.sum i).cut),own 3 ov (Is (alIn t t.sum i).oth)]) (fun i=>i ≤ t.length) (fun i=>t.length - i) 0 [0,2,4,5,6,7,8] (Nat.zero_le _) ?_
 intro i hi
 by_cases hlt:i < t.length
 ·have hst:alIn t t.sum (i + 1) = ⟨(alIn t t.sum i).rest.set i (t.getD i 0 * t.length),(alIn t t.sum i).cut.set i t.sum,(alIn t t.sum i).oth.set i i,(alIn t t.sum (i + 1)).B,(alIn t t.sum (i + 1)).A⟩:=rfl
  have hJ:=hall i hi
  have hx:=hw _ (mem_getD.2 ⟨i,hlt,rfl⟩)
  have hr0:0 ≤ t.getD i 0 * t.length:=Int.mul_nonneg hx.1 (by omega)
  have hr1:t.getD i 0 * t.length ≤ 16777215 * 65536:=Int.mul_le_mul hx.2 (by omega) (by omega) (by omega)
  have hu1:=hJ.lr
  have hu2:=hJ.lc
  have hu3:=hJ.lo
  clear hJ hall
  generalize (alIn t t.sum (i + 1)).B = UB at *
  generalize (alIn t t.sum (i + 1)).A = UA at *
  generalize alIn t t.sum i = U at *
  generalize hxe:t.getD i 0 = x at *
  rw [Int.mul_comm x] at hst hr0 hr1
  repeat' first|refine lie hxe ?_|refine soi (l:=U.rest) (j:=i) ?_|refine soi (l:=U.cut) (j:=i) ?_|refine soi (l:=U.oth) (j:=i) ?_|(refine wo ?_;first|(refine ao ?_;first|refine aw ?_|refine oa ?_)|refine oa ?_|refine ld ?_|refine ixmn ?_)|(refine gc ?_;first|(refine ci (fun hB=>?_) (fun hB=>?_) <;> try (exfalso;omega)))|refine sq ?_|refine rg ?_|refine xc ?_|refine nl ?_|refine sk ?_|refine bk ?_|refine xb ?_
  exact lp (i + 1) hlt (hf:=by rw [hst];exact fitA)
 obtain rfl:i = t.length:=by omega
 have hI:=(hall t.length (Nat.le_refl _)).done hpos
 have hR:=RaI.start t t.sum
 have hF:alEnd t.sum (alIn t t.sum t.length) = alF t:=rfl
 rw [← Bo_rep]
 have hrl:=hI.lr
 have hBel:=fun (l:List Int) (dn:List Bool) (h1:l.length = t.length) (h2:dn.length = t.length)=>below_tr rv dv l dn t.sum (by omega) (by omega)
 clear hall hlt hi
 generalize hU:alIn t t.sum t.length = U at *
 generalize hdn:List.replicate t.length false = dn0 at *
 have hld:=hR.ld
 repeat' first|(refine gca ?_;first|(refine ca (hBel U.rest dn0 hrl hld) ?_;rintro _ _ ⟨⟨i,rfl,b1,b2,b3⟩,rfl⟩))|(refine wo ?_;first|(refine ao ?_;first|refine oa ?_)|refine oa ?_)|(refine gc ?_;first|(refine ci (fun hB=>?_) (fun hB=>?_) <;> try (exfalso;omega)))|refine sq ?_|refine rg ?_|refine xc ?_|refine nl ?_|refine bk ?_|refine xe ?_
 refine TC.loop (ι:=RmG) (fun g=>[(10,I g.i)]) (fun g=>[own 3 rv (Is g.u.rest),own 4 dv (Bo g.dn),own 3 cv (Is g.u.cut),own 3 ov (Is g.u.oth)])
  (fun g=>AlI t t.sum g.u∧RaI t t.sum g.u g.dn∧alEnd t.sum g.u = alF t∧g.i ≤ t.length∧(if g.i < t.length then g.u.B.head? = some (g.i:Int) else g.u.B = [])) (fun g=>alMu g.u) ⟨U,dn0,i⟩ [2,4,5,6,7,8] ⟨hI,hR,hF,by dsimp only;rw [← hrl];exact b1,hR.least hI (by rw [← hrl];exact b1) (by rw [← hrl];exact b2) b3⟩ ?_
 clear hI hR hF b1 b2 b3 hrl hld hU hdn
 rintro ⟨u,dn,i⟩ ⟨hI,hR,hF,hi,hB⟩
 dsimp only at hI hR hF hi hB ⊢
 by_cases hlt:i < t.length
 ·rw [if_pos hlt] at hB
  obtain ⟨B,hB⟩ : ∃ B,u.B = (i:Int) :: B:=by
   cases hb:u.B with
   | nil=>rw [hb] at hB;cases hB
   | cons a B=>rw [hb] at hB;cases hB;exact ⟨B,rfl⟩
  obtain ⟨j0,A,hA⟩ : ∃ j A,u.A = j :: A:=by
   cases ha:u.A with
   | nil=>exact absurd ha (hI.more (by rw [hB];simp))
   | cons a A=>exact ⟨a,A,rfl⟩
  have hAb:=above_tr rv u.rest t.sum (by rw [hI.lr];exact hl)
  have hI':=hI.step ⟨hpos,by omega⟩ hB hA
  have hR':=hR.step hI hB hA
  have hE':=alEnd_step (all:=t.sum) hB hA
  have hM':=alStep_mu (all:=t.sum) hB hA
  have hru:=hI.lr
  have hcu:=hI.lc
  have hou:=hI.lo
  have hdu:=hR.ld
  have hri:=hI.B i (by rw [hB];simp)
  have hrj:=hI.A j0 (by rw [hA];simp)
  have hmost:=fun (j:Nat) (h1:j < t.length)=>hR.most hI hA (j:=j) h1
  have hnext:=fun (i':Nat) (h1:i' ≤ t.length)=>hR'.least hI' (i:=i') h1
  rw [Int.toNat_natCast] at hR' hnext hri
  repeat' first|(refine gca ?_;first|(refine ca hAb ?_;rintro _ _ ⟨⟨j,rfl,a1,a2,a3⟩,rfl⟩;rw [hru] at a1 a2;obtain rfl:=hmost j a1 a2 a3))|(refine wo ?_;first|(refine ao ?_;first|refine oa ?_)|refine oa ?_)|(refine gc ?_;first|(refine ci (fun hB=>?_) (fun hB=>?_) <;> try (exfalso;omega)))|refine sq ?_|refine rg ?_|refine xc ?_|refine nl ?_|refine sk ?_|refine bk ?_
  rw [Int.toNat_natCast] at hrj
  have hst:alStep t.sum u i j B A = ⟨u.rest.set j (u.rest.getD j 0 - (t.sum - u.rest.getD i 0)),u.cut.set i (u.rest.getD i 0),u.oth.set i j,(alStep t.sum u i j B A).B,(alStep t.sum u i j B A).A⟩:=by
   unfold alStep;simp only [Int.toNat_natCast]
  have hE2:=hE'.symm.trans hF
  clear hE' hF hmost hB hA hR hI hAb a2 a3
  generalize alStep t.sum u i j B A = u' at *
  generalize u'.B = UB at hst
  generalize u'.A = UA at hst
  generalize hri':u.rest.getD i 0 = ri at *
  generalize hrj':u.rest.getD j 0 = rj at *
  generalize hr:rj - (t.sum - ri) = r at *
  have hij:i ≠ j:=fun e=>by subst e;omega
  have e1:u'.rest = u.rest.set j r:=by rw [hst]
  have e2:u'.cut = u.cut.set i ri:=by rw [hst]
  have e3:u'.oth = u.oth.set i j:=by rw [hst]
  clear hst
  repeat' first|refine rs (id:=16) (fun w=>w.heap[bo]? = some (.cells #[I t.sum,cv,ov] TAl (0,0))∧(∃ xs,Sl w rv xs∧xs.length = t.length)∧(∃ xs,Sl w cv xs∧xs.length = t.length)) ?_ (fun w hw=>⟨pt_at memA hw,⟨_,has_sl hw hasA,by rw [Is_len];exact hru⟩,⟨_,has_sl hw hasA,by rw [Is_len];exact hcu⟩⟩)|(refine wo ?_;first|(refine ao ?_;first|refine aw ?_|refine aw6 ?_|refine oa ?_|refine adiv ?_|refine amod ?_|refine shr1 ?_|refine shr ?_|refine umod ?_|refine isl ?_|refine ipe ?_|refine ipn ?_|refine ibe ?_)|refine acw ?_|refine ucv ?_|refine anw ?_|refine oa ?_|refine ld ?_|refine ldl ?_|refine lnm ?_|refine ixmn ?_|refine ixm ?_|refine li ?_|refine lb ?_|refine lv ?_|refine ln ?_|refine ixn ?_|refine ix ?_|refine le ?_|refine sr ?_|refine soi ?_|refine sob ?_|refine scm ?_|refine sclm ?_|refine schm ?_|refine gy ?_|refine gn ?_|refine gnn ?_|refine gu ?_|(refine gsi (fun hB=>?_) (fun hB=>?_) <;> try (exfalso;omega))|(refine gsn (fun hB=>?_) (fun hB=>?_) <;> try (exfalso;omega))|(refine gs (fun hB=>?_) (fun hB=>?_) <;> try (exfalso;omega)))|(refine gc ?_;first|refine ct ?_|refine cf ?_|(refine ci (fun hB=>?_) (fun hB=>?_) <;> try (exfalso;omega))|(refine cn (fun hB=>?_) (fun hB=>?_) <;> try (exfalso;omega))|(refine cb (fun hB=>?_) (fun hB=>?_) <;> try (exfalso;omega)))|refine sq ?_|refine rg ?_|refine xc ?_|refine nl ?_|refine sk ?_|refine bk ?_|refine xe ?_|refine rt ?_|refine xb ?_
  refine tka 0 ?_
  refine tkl 1 (cs:=[I t.sum,cv,ov]) (fun w h=>h.1) ?_
  refine tka 2 ?_
  refine tka 3 ?_
  refine tka 4 ?_
  refine tkx 5 (len:=t.length) (fun w h=>h.2.1) ?_
  refine t1 6 ?_
  refine lie hri' ?_
  refine nl ?_
  refine te (fun w hw=>⟨pt_at memA hw,⟨_,has_sl hw hasA,by rw [Is_len];exact hru⟩,⟨_,has_sl hw hasA,by rw [Is_len];exact hcu⟩⟩) ?_
  refine tkx 7 (len:=t.length) (fun w h=>h.2.2) ?_
  refine t1 8 ?_
  refine soi (l:=u.cut) (j:=i) ?_
  refine nl ?_
  refine te (fun w hw=>⟨pt_at memA hw,⟨_,has_sl hw hasA,by rw [Is_len];exact hru⟩,⟨_,has_sl hw hasA,by rw [Is_len,List.length_set];exact hcu⟩⟩) ?_
  refine t0 ?_
  repeat' first|refine soi (l:=u.oth) (j:=i) ?_|refine rs (id:=18) (fun w=>∃ xs,Sl w rv xs∧xs.length = t.length) ?_ (fun w hw=>⟨_,has_sl hw hasA,by rw [Is_len];exact hru⟩)|(refine wo ?_;first|refine oa ?_|refine ld ?_|refine ixmn ?_)|refine sq ?_|refine rg ?_|refine xc ?_|refine nl ?_
  refine tka 0 ?_
  refine tka 1 ?_
  refine tka 2 ?_
  refine tka 3 ?_
  refine tkx 4 (len:=t.length) (fun w h=>h) ?_
  refine tka 6 ?_
  refine tka 7 ?_
  refine tka 8 ?_
  refine tkx 9 (len:=t.length) (fun w h=>h) ?_
  have hq:(u.rest.set j r).length = t.length:=by rw [List.length_set];exact hru
  have hdq:(dn.set i true).length = t.length:=by rw [List.length_set];exact hdu
  refine t2 5 10 ?_ ?_
  ·refine lie hrj' ?_
   refine nl ?_
   refine te (fun w hw=>⟨_,has_sl hw hasA,by rw [Is_len];exact hru⟩) ?_
   refine t1 10 ?_
   refine lie hri' ?_
   refine nl ?_
   refine te (fun w hw=>⟨_,has_sl hw hasA,by rw [Is_len];exact hru⟩) ?_
   refine tkw 11 (t.sum - ri) ?_
   refine tkw 12 r ?_
   refine tkx 13 (len:=t.length) (fun w h=>h) ?_
   refine t1 14 ?_
   refine soi (l:=u.rest) (j:=j) ?_
   refine nl ?_
   refine te (fun w hw=>⟨_,has_sl hw hasA,by rw [Is_len];exact hq⟩) ?_
   refine t0 ?_
   repeat' first|(refine gca ?_;first|(refine ca (hBel (u.rest.set j r) (dn.set i true) hq hdq) ?_;rintro _ _ ⟨⟨i',rfl,b1,b2,b3⟩,rfl⟩))|refine sbo (l:=dn) (j:=i) ?_|(refine wo ?_;first|refine oa ?_|refine ixmn ?_)|refine rg ?_|refine xc ?_|refine nl ?_|refine xb ?_
   rw [← e1] at b1 b2 b3
   exact lp ⟨u',dn.set i true,i'⟩ ⟨hI',hR',hE2,by dsimp only;rw [← hI'.lr];exact b1,hnext i' (by rw [← hI'.lr];exact b1) (by rw [← hI'.lr];exact b2) b3⟩ (hf:=by dsimp only;rw [e1,e2,e3];exact fitA) (hlt:=hM')
  ·refine lie hri' ?_
   refine nl ?_
   refine te (fun w hw=>⟨_,has_sl hw hasA,by rw [Is_len];exact hru⟩) ?_
   refine tkw 11 (t.sum - ri) ?_
   refine t1 5 ?_
   refine lie hrj' ?_
   refine nl ?_
   refine te (fun w hw=>⟨_,has_sl hw hasA,by rw [Is_len];exact hru⟩) ?_
   refine tkw 12 r ?_
   refine tkx 13 (len:=t.length) (fun w h=>h) ?_
   refine t1 14 ?_
   refine soi (l:=u.rest) (j:=j) ?_
   refine nl ?_
   refine te (fun w hw=>⟨_,has_sl hw hasA,by rw [Is_len];exact hq⟩) ?_
   refine t0 ?_
   repeat' first|(refine gca ?_;first|(refine ca (hBel (u.rest.set j r) (dn.set i true) hq hdq) ?_;rintro _ _ ⟨⟨i',rfl,b1,b2,b3⟩,rfl⟩))|refine sbo (l:=dn) (j:=i) ?_|(refine wo ?_;first|refine oa ?_|refine ixmn ?_)|refine rg ?_|refine xc ?_|refine nl ?_|refine xb ?_
   rw [← e1] at b1 b2 b3
   exact lp ⟨u',dn.set i true,i'⟩ ⟨hI',hR',hE2,by dsimp only;rw [← hI'.lr];exact b1,hnext i' (by rw [← hI'.lr];exact b1) (by rw [← hI'.lr];exact b2) b3⟩ (hf:=by dsimp only;rw [e1,e2,e3];exact fitA) (hlt:=hM')
 ·rw [if_neg hlt] at hB
  rw [alEnd_stop hB] at hF
  rw [← hF]
  repeat' first|refine lda ?_|refine srz ?_|(refine wo ?_;first|(refine ao ?_;first|refine oa ?_)|refine oa ?_)|(refine gc ?_;first|(refine ci (fun hB=>?_) (fun hB=>?_) <;> try (exfalso;omega)))|refine sq ?_|refine rg ?_|refine xc ?_|refine nl ?_|refine xe ?_|refine rt ?_
  exact rca ⟨cv,ov,rfl,rfl,hcv,hov⟩
end Go.Art
namespace Go.Art
open Go Go.Proofs Go.RowKit
theorem mod_succ (M n:Nat) (hn:0 < n):(M % n = n - 1→(M + 1) % n = 0)∧(M % n ≠ n - 1→(M + 1) % n = M % n + 1):=by
 have h1:=Nat.div_add_mod M n
 have h2:=Nat.mod_lt M hn
 constructor
 ·intro e
  have:M + 1 = n * (M / n + 1):=by rw [Nat.mul_add];omega
  rw [this,Nat.mul_mod_right]
 ·intro e
  have:M + 1 = n * (M / n) + (M % n + 1):=by omega
  rw [this,Nat.mul_add_mod,Nat.mod_eq_of_lt (by omega)]
def over (n:Int):BitVec 64:=c64 18446744073709551615 % c64 n
theorem overR_toNat {n:Int} (h:1 ≤ n∧n ≤ 1099511627776):(over n).toNat = 18446744073709551615 % n.toNat:=by
 unfold over
 rw [BitVec.toNat_umod,c64_toNat (by omega),c64_toNat (by omega)]
 rfl
theorem over_last {n:Int} (h:1 ≤ n∧n ≤ 1099511627776) (e:over n = c64 n - c64 1):lim n.toNat = 18446744073709551615:=by
 have h1:=congrArg BitVec.toNat e
 rw [overR_toNat h,BitVec.toNat_sub,c64_toNat (by omega),c64_toNat (by omega)] at h1
 have h2:18446744073709551615 % n.toNat = n.toNat - 1:=by omega
 have h3:18446744073709551616 % n.toNat = 0:=(mod_succ 18446744073709551615 n.toNat (by omega)).1 h2
 unfold lim
 omega
theorem over_else {n:Int} (h:1 ≤ n∧n ≤ 1099511627776) (e:¬ over n = c64 n - c64 1):(c64 18446744073709551615 - over n).toNat = lim n.toNat + 1:=by
 have h0:=overR_toNat h
 have h2:18446744073709551615 % n.toNat ≠ n.toNat - 1:=fun q=>e (BitVec.eq_of_toNat_eq (by
  rw [h0,q,BitVec.toNat_sub,c64_toNat (by omega),c64_toNat (by omega)];omega))
 have h3:18446744073709551616 % n.toNat = 18446744073709551615 % n.toNat + 1:=(mod_succ 18446744073709551615 n.toNat (by omega)).2 h2
 have h4:=Nat.mod_lt 18446744073709551615 (show 0 < n.toNat by omega)
 have e64:Int.toNat 18446744073709551615 = 18446744073709551615:=rfl
 have e65:2 ^ 64 = 18446744073709551616:=rfl
 rw [BitVec.toNat_sub,h0,c64_toNat (by omega),e64,e65]
 unfold lim
 rw [h3]
 generalize 18446744073709551615 % n.toNat = m at *
 omega
attribute [local irreducible] Fit pt own ro vw mpc lpt vels rels mow lrc dfr
abbrev TRl:TypeId:=232
abbrev rloP (b:Nat) (st:BitVec 64) (used:Int):List Ch:=[pt b [nS,.bool true,U st,I used,.bool false] TRl]
theorem RStir_tr (x:BitVec 64):Tr Tryz.prog 190 [U x] [] [] fun v D=>v = U (stir x)∧D = []:=by
 refine Tr.enter env _ Tryz.func190 (by kernel_rfl) rfl Tryz.ntmps190 rfl (by repeat (first | exact has00 | refine has01 ?_)) fun w0=>?_
 repeat' first|refine uad ?_|refine uml ?_|refine uxr ?_|refine ush ?_|(refine wo ?_;first|refine oa ?_)|refine sq ?_|refine rg ?_|refine xc ?_|refine nl ?_|refine rt ?_
 exact r1 ⟨rfl,rfl⟩
theorem RSeeded_tr (x y z:BitVec 64):Tr Tryz.prog 170 [U x,U y,U z] [] [] fun v D=>∃ b,v = ptr b∧D = rloP b (seedOf x y z) 0:=by
 refine Tr.enter env _ Tryz.func170 (by kernel_rfl) rfl Tryz.ntmps170 rfl (by repeat (first | exact has00 | refine has01 ?_)) fun w0=>?_
 repeat' first|(refine gca ?_;first|(refine ca (RStir_tr _) ?_;rintro _ _ ⟨rfl,rfl⟩))|refine uad ?_|refine bdz ?_|refine bx fun r=>?_|(refine wo ?_;first|refine oa ?_)|refine sq ?_|refine rg ?_|refine xc ?_|refine nl ?_|refine rt ?_
 exact r1 ⟨_,rfl,rfl⟩
theorem word_tr (b:Nat) (st:BitVec 64) (used:Int):Tr Tryz.prog 195 [ptr b] [] (rloP b st used) fun v D=>v = U (stir st)∧D = rloP b (st + gold) used:=by
 refine Tr.enter env _ Tryz.func195 (by kernel_rfl) rfl Tryz.ntmps195 rfl (by repeat (first | exact has00 | refine has01 ?_)) fun w0=>?_
 repeat' first|(refine gca ?_;first|(refine ca (RStir_tr _) ?_;rintro _ _ ⟨rfl,rfl⟩))|refine uad ?_|(refine wo ?_;first|refine oa ?_|refine ld ?_|refine sr ?_)|refine sq ?_|refine rg ?_|refine xc ?_|refine nl ?_|refine rt ?_
 exact r1 ⟨rfl,rfl⟩
theorem RDraw_tr (b:Nat) (st:BitVec 64) (used n:Int) (hu:0 ≤ used∧used ≤ 4611686018427387904):Tr Tryz.prog 187 [ptr b,I n] [] (rloP b st used)
  fun v D=>v = tup2 (I (ldraw n st used).1.1) (I (ldraw n st used).1.2)∧D = rloP b (ldraw n st used).2.1 (ldraw n st used).2.2:=by
 by_cases hn:1 ≤ n∧n ≤ 1099511627776
 rotate_left
 ·rw [show ldraw n st used = ((0,3),(st,used)) from if_neg hn]
  refine Tr.enter env _ Tryz.func187 (by kernel_rfl) rfl Tryz.ntmps187 rfl (by repeat (first | exact has00 | refine has01 ?_)) fun w0=>?_
  repeat' first|(refine wo ?_;first|(refine ao ?_;first|refine oa ?_)|refine oa ?_|refine gy ?_|refine gn ?_|(refine gsi (fun hB=>?_) (fun hB=>?_) <;> try (exfalso;omega)))|(refine gc ?_;first|refine ct ?_|(refine ci (fun hB=>?_) (fun hB=>?_) <;> try (exfalso;omega)))|refine sq ?_|refine rg ?_|refine xc ?_|refine nl ?_|refine rt ?_
  all_goals exact r2 ⟨rfl,rfl⟩
 rw [show ldraw n st used = ((((sdraw n.toNat st).1:Int),0),((sdraw n.toNat st).2,used + 1)) from if_pos hn]
 have hnz:=c64_ne (n:=n) (by omega)
 have hml:∀ x:BitVec 64,(x % c64 n).toNat = x.toNat % n.toNat∧(x % c64 n).toNat ≤ 9223372036854775807:=fun x=>by
  have h2:=Nat.mod_lt x.toNat (show 0 < n.toNat by omega)
  have h3:(x % c64 n).toNat = x.toNat % n.toNat:=by rw [BitVec.toNat_umod,c64_toNat (by omega)]
  exact ⟨h3,by omega⟩
 by_cases he:over n = c64 n - c64 1
 ·have hs:sacc n.toNat st = st:=sacc_yes (by rw [over_last hn he];have:=(stir st).isLt;omega)
  have hv:(sdraw n.toNat st).1 = (stir st % c64 n).toNat:=by rw [(hml _).1];unfold sdraw;rw [hs]
  have hv2:(sdraw n.toNat st).2 = st + gold:=by unfold sdraw;rw [hs]
  rw [hv,hv2]
  refine Tr.enter env _ Tryz.func187 (by kernel_rfl) rfl Tryz.ntmps187 rfl (by repeat (first | exact has00 | refine has01 ?_)) fun w0=>?_
  repeat' first|(refine gca ?_;first|(refine ca (word_tr b st (used + 1)) ?_;rintro _ _ ⟨rfl,rfl⟩))|refine uto ?_|refine urm ?_|refine usb ?_|(refine TO.val (v:=.bool true) (fun _ _=>R_true (R_ueql (p:=over n) (q:=c64 n - c64 1) rfl rfl) he) ?_ rfl)|refine uof ?_ (h:=(hml _).2)|(refine wo ?_;first|(refine ao ?_;first|refine aw ?_|refine oa ?_)|refine oa ?_|refine ld ?_|refine sr ?_|refine gy ?_|(refine gsi (fun hB=>?_) (fun hB=>?_) <;> try (exfalso;omega)))|(refine gc ?_;first|refine ct ?_|(refine ci (fun hB=>?_) (fun hB=>?_) <;> try (exfalso;omega)))|refine sq ?_|refine rg ?_|refine xc ?_|refine nl ?_|refine sk ?_|refine rt ?_
  exact r2 ⟨rfl,rfl⟩
 ·have hlim:∀ x:BitVec 64,(x.toNat ≤ lim n.toNat→¬ (c64 18446744073709551615 - over n).toNat ≤ x.toNat)∧(¬ x.toNat ≤ lim n.toNat→(c64 18446744073709551615 - over n).toNat ≤ x.toNat):=fun x=>by
   have hl:(c64 18446744073709551615 - over n).toNat = lim n.toNat + 1:=over_else hn he
   constructor <;> omega
  refine Tr.enter env _ Tryz.func187 (by kernel_rfl) rfl Tryz.ntmps187 rfl (by repeat (first | exact has00 | refine has01 ?_)) fun w0=>?_
  repeat' first|(refine gca ?_;first|(refine ca (word_tr b st (used + 1)) ?_;rintro _ _ ⟨rfl,rfl⟩))|refine uto ?_|refine urm ?_|refine usb ?_|(refine TO.val (v:=.bool false) (fun _ _=>R_false (R_ueql (p:=over n) (q:=c64 n - c64 1) rfl rfl) he) ?_ rfl)|(refine wo ?_;first|(refine ao ?_;first|refine aw ?_|refine oa ?_)|refine oa ?_|refine ld ?_|refine sr ?_|refine gy ?_|(refine gsi (fun hB=>?_) (fun hB=>?_) <;> try (exfalso;omega)))|(refine gc ?_;first|refine ct ?_|refine cf ?_|(refine ci (fun hB=>?_) (fun hB=>?_) <;> try (exfalso;omega)))|refine sq ?_|refine rg ?_|refine xc ?_|refine nl ?_|refine sk ?_|refine bk ?_
  refine TC.loop (ι:=BitVec 64) (fun g=>[(7,U (stir g))]) (fun g=>rloP b (g + gold) (used + 1)) (fun g=>sacc n.toNat g = sacc n.toNat st) far st [0,1,6] rfl ?_
  rintro g hg
  by_cases hst:(stir g).toNat ≤ lim n.toNat
  ·have hst':=(hlim (stir g)).1 hst
   have hv:(sdraw n.toNat st).1 = (stir g % c64 n).toNat:=by rw [(hml _).1];unfold sdraw;rw [← hg,sacc_yes hst]
   have hv2:(sdraw n.toNat st).2 = g + gold:=by unfold sdraw;rw [← hg,sacc_yes hst]
   rw [hv,hv2]
   repeat' first|refine uto ?_|refine urm ?_|refine usb ?_|(refine TO.val (v:=.bool false) (fun _ _=>R_false (R_ugeq (p:=stir g) (q:=c64 18446744073709551615 - over n) rfl rfl) hst') ?_ rfl)|refine uof ?_ (h:=(hml _).2)|(refine wo ?_;first|refine oa ?_)|(refine gc ?_;first|refine cf ?_)|refine sq ?_|refine rg ?_|refine xc ?_|refine nl ?_|refine xe ?_|refine rt ?_
   exact r2 ⟨rfl,rfl⟩
  ·have hst':=(hlim (stir g)).2 hst
   repeat' first|(refine gca ?_;first|(refine ca (word_tr b (g + gold) (used + 1)) ?_;rintro _ _ ⟨rfl,rfl⟩))|refine usb ?_|(refine TO.val (v:=.bool true) (fun _ _=>R_true (R_ugeq (p:=stir g) (q:=c64 18446744073709551615 - over n) rfl rfl) hst') ?_ rfl)|(refine wo ?_;first|refine oa ?_)|(refine gc ?_;first|refine ct ?_)|refine sq ?_|refine rg ?_|refine xc ?_|refine nl ?_|refine sk ?_|refine bk ?_|refine xb ?_
   exact lp (g + gold) (by rw [← sacc_no hst];exact hg) (hlt:=far_step g (far_stop g _ hst))
end Go.Art
namespace Go.Art
open Go Go.Proofs Go.RowKit
def ins (x:Int) (l:List Int) (k:Nat):List Int:=l.take k ++ x :: l.drop k
theorem ins_perm (x:Int) (l:List Int) (k:Nat):(ins x l k).Perm (x :: l):=by
 have h:(l.take k ++ x :: l.drop k).Perm (x :: (l.take k ++ l.drop k)):=List.perm_middle
 rwa [List.take_append_drop] at h
theorem ins_sorted {x:Int} {l:List Int} {k:Nat} (hl:l.Pairwise (· ≤ ·)) (h1:∀ j,j < k→j < l.length→l.getD j 0 ≤ x) (h2:∀ j,k ≤ j→j < l.length→x ≤ l.getD j 0):(ins x l k).Pairwise (· ≤ ·):=by
 unfold ins
 rw [List.pairwise_append,List.pairwise_cons]
 have hh:(l.take k ++ l.drop k).Pairwise (· ≤ ·):=by rw [List.take_append_drop];exact hl
 obtain ⟨p1,p2,p3⟩:=List.pairwise_append.1 hh
 have hx:∀ y ∈ l.drop k,x ≤ y:=fun y hy=>by
  obtain ⟨j,hj,rfl⟩:=List.mem_iff_getElem.1 hy
  have hj':k + j < l.length:=by simp at hj;omega
  have:=h2 (k + j) (by omega) hj'
  simpa [List.getD_eq_getElem?_getD,hj'] using this
 refine ⟨p1,⟨hx,p2⟩,fun a ha b hb=>?_⟩
 have hax:a ≤ x:=by
  obtain ⟨j,hj,rfl⟩:=List.mem_iff_getElem.1 ha
  have hj':j < k∧j < l.length:=by simp at hj;omega
  have:=h1 j hj'.1 hj'.2
  simpa [List.getD_eq_getElem?_getD,hj'.2] using this
 rcases List.mem_cons.1 hb with rfl | hb
 ·exact hax
 ·exact p3 a ha b hb
theorem srt_unique {xs ys:List Int} (h:xs.Perm ys) (hs:xs.Pairwise (· ≤ ·)):srt ys = xs:=
 ((srt_perm ys).trans h.symm).eq_of_pairwise (fun a b _ _ h1 h2=>by omega) (srt_sorted ys) hs
theorem swp_take (l:List Int) {i j:Nat} (hi:i < l.length) (hj:j < l.length) (hij:i ≤ j):(swp l i j).take (i + 1) = l.take i ++ [l.getD j 0]:=by
 have h1:(swp l i j).getD i 0 = l.getD j 0:=by rw [swp_get l i hi hj,if_pos rfl]
 rw [take_succ' (show i < (swp l i j).length by rw [swp_length];exact hi) 0,h1]
 congr 1
 apply List.ext_getElem?
 intro t
 simp only [List.getElem?_take]
 by_cases ht:t < i
 ·rw [if_pos ht,if_pos ht]
  simp [swp,List.getElem?_set,show ¬ i = t by omega,show ¬ j = t by omega]
 ·rw [if_neg ht,if_neg ht]
attribute [local irreducible] Fit pt own ro vw mpc lpt vels rels mow lrc dfr
attribute [local irreducible] lmp lme mit velg relg
theorem RAll_tr (k:Int) (hk:1 ≤ k∧k ≤ 65536):Tr Tryz.prog 210 [I k] [] [] fun v D=>v.oneCell' = true∧D = [own 3 v (Is (upto k.toNat))]:=by
 refine Tr.enter env _ Tryz.func210 (by kernel_rfl) rfl Tryz.ntmps210 rfl (by repeat (first | exact has00 | refine has01 ?_)) fun w0=>?_
 repeat' first|(refine wo ?_;first|refine oa ?_)|refine sq ?_|refine rg ?_|refine xc ?_|refine nl ?_|refine bk ?_
 refine TC.im (own_nil 3 _) ?_
 refine TC.loop (ι:=Nat × Value) (fun g=>[(4,I g.1),(3,g.2)]) (fun g=>[own 3 g.2 (Is (upto g.1))]) (fun g=>g.1 ≤ k.toNat∧g.2.oneCell' = true) (fun g=>k.toNat - g.1) (0,nS) [0] ⟨Nat.zero_le _,rfl⟩ ?_ (hf:=by dsimp only;exact fitA)
 rintro ⟨i,o⟩ ⟨hi,ho⟩
 dsimp only at hi ho ⊢
 by_cases hlt:i < k.toNat
 ·have hu:=upto_length i
  have hs:=upto_succ i
  generalize upto i = L at *
  repeat' first|refine slii [(i:Int)] fun v1=>?_|(refine api (v:=o) (l:=L) (news:=[(i:Int)]) fun v2=>?_;refine TO.one (v:=v2) (xs:=Is (L ++ [(i:Int)])) fun hv2=>?_)|(refine wo ?_;first|(refine ao ?_;first|refine aw ?_|refine oa ?_)|refine oa ?_)|(refine gc ?_;first|(refine ci (fun hB=>?_) (fun hB=>?_) <;> try (exfalso;omega)))|refine sq ?_|refine rg ?_|refine xc ?_|refine nl ?_|refine sk ?_|refine bk ?_|refine xb ?_
  exact lp (i + 1,v2) ⟨hlt,hv2⟩ (hf:=by dsimp only;rw [hs];exact fitA)
 ·obtain rfl:i = k.toNat:=by omega
  repeat' first|(refine wo ?_;first|(refine ao ?_;first|refine oa ?_)|refine oa ?_)|(refine gc ?_;first|(refine ci (fun hB=>?_) (fun hB=>?_) <;> try (exfalso;omega)))|refine sq ?_|refine rg ?_|refine xc ?_|refine nl ?_|refine xe ?_|refine rt ?_
  exact r1 ⟨ho,rfl⟩
structure RoG where
 i:Nat
 l:List Int
 st:BitVec 64
theorem ROrder_tr (b:Nat) (st:BitVec 64) (used k d:Int) (hu:0 ≤ used∧used ≤ 1152921504606846976) (hsz:Sized k d):Tr Tryz.prog 196 [ptr b,I k,I d] [] (rloP b st used)
  fun v D=>∃ o,v = tup2 o (I (ordR k d st).1.2)∧D = own 3 o (Is (ordR k d st).1.1) :: rloP b (ordR k d st).2.1 (used + (ordR k d st).2.2):=by
 obtain ⟨k1,k2,d1,d2⟩:=id hsz
 rw [show ordR k d st = (((ordL k.toNat d.toNat 0 (upto k.toNat) st).1,0),((ordL k.toNat d.toNat 0 (upto k.toNat) st).2,d)) from if_pos hsz]
 have hul:=upto_length k.toNat
 generalize hF:ordL k.toNat d.toNat 0 (upto k.toNat) st = Fn at *
 refine Tr.enter env _ Tryz.func196 (by kernel_rfl) rfl Tryz.ntmps196 rfl (by repeat (first | exact has00 | refine has01 ?_)) fun w0=>?_
 repeat' first|(refine gca ?_;first|(refine ca (RAll_tr k ⟨k1,k2⟩) ?_;rintro _ _ ⟨hv,rfl⟩;rename_i pv;revert hv;intro hpv))|(refine wo ?_;first|(refine ao ?_;first|refine oa ?_)|refine oa ?_|refine gy ?_|(refine gsi (fun hB=>?_) (fun hB=>?_) <;> try (exfalso;omega)))|(refine gc ?_;first|(refine ci (fun hB=>?_) (fun hB=>?_) <;> try (exfalso;omega)))|refine sq ?_|refine rg ?_|refine xc ?_|refine nl ?_|refine sk ?_|refine bk ?_
 rename_i pv _
 refine TC.loop (ι:=RoG) (fun g=>[(9,I g.i)]) (fun g=>own 3 pv (Is g.l) :: rloP b g.st (used + g.i)) (fun g=>g.i ≤ d.toNat∧g.l.length = k.toNat∧g.l.take g.i ++ (ordL k.toNat (d.toNat - g.i) g.i g.l g.st).1 = Fn.1∧(ordL k.toNat (d.toNat - g.i) g.i g.l g.st).2 = Fn.2)
  (fun g=>d.toNat - g.i) ⟨0,upto k.toNat,st⟩ [0,1,2,8] ⟨by simp,hul,by simp [hF],by simp [hF]⟩ ?_ (hf:=by dsimp only;rw [show used + ((0:Nat):Int) = used by omega];exact fitA)
 clear hF hul
 rintro ⟨i,l,st'⟩ ⟨h1,h2,h3,h4⟩
 dsimp only at h1 h2 h3 h4 ⊢
 by_cases hi:i < d.toNat
 ·have hki:1 ≤ k - (i:Int)∧k - (i:Int) ≤ 1099511627776:=by omega
  have hld:ldraw (k - i) st' (used + i) = ((((sdraw (k - i).toNat st').1:Int),0),((sdraw (k - i).toNat st').2,used + i + 1)):=if_pos hki
  have hlt:=sdraw_lt (n:=(k - i).toNat) (by omega) st'
  have hkn:(k - (i:Int)).toNat = k.toNat - i:=by omega
  rw [hkn] at hld hlt
  rw [show d.toNat - i = (d.toNat - (i + 1)) + 1 by omega] at h3 h4
  unfold ordL at h3 h4
  dsimp only at h3 h4
  generalize hs:(sdraw (k.toNat - i) st').1 = s at *
  generalize (sdraw (k.toNat - i) st').2 = st2 at *
  have hD:=RDraw_tr b st' (used + i) (k - i) (by omega)
  rw [hld] at hD
  dsimp only at hD
  have htk:=swp_take l (i:=i) (j:=i + s) (by omega) (by omega) (by omega)
  have hsw:swp l i (i + s) = (l.set (i + s) (l.getD i 0)).set i (l.getD (i + s) 0):=rfl
  have hsl:=swp_length l i (i + s)
  generalize hx:l.getD (i + s) 0 = x at *
  generalize hy:l.getD i 0 = y at *
  have hq:(l.set (i + s) y).length = l.length:=List.length_set ..
  have hax:(i:Int) + s = ((i + s:Nat):Int):=by omega
  repeat' first|(refine gca ?_;first|(refine ca hD ?_;rintro _ _ ⟨rfl,rfl⟩))|(refine aw (m:=((i + s:Nat):Int)) ?_ (h:=by rw [← hax];rfl))|refine lie hx ?_|refine lie hy ?_|refine soi (l:=l) (j:=i + s) ?_|refine soi (l:=l.set (i + s) y) (j:=i) ?_ (hj:=by rw [List.length_set];omega)|(refine wo ?_;first|(refine ao ?_;first|refine aw ?_|refine oa ?_)|refine oa ?_|refine ixmn ?_)|(refine gc ?_;first|refine cf ?_|(refine ci (fun hB=>?_) (fun hB=>?_) <;> try (exfalso;omega)))|refine sq ?_|refine rg ?_|refine xc ?_|refine nl ?_|refine sk ?_|refine bk ?_|refine xb ?_
  refine lp ⟨i + 1,swp l i (i + s),st2⟩ ⟨by dsimp only;omega,by dsimp only;omega,by dsimp only;rw [htk,List.append_assoc];exact h3,h4⟩ (hf:=by dsimp only;rw [hsw,show used + ((i + 1:Nat):Int) = used + i + 1 by omega];exact fitA)
 ·obtain rfl:i = d.toNat:=by omega
  rw [Nat.sub_self] at h3 h4
  unfold ordL at h3 h4
  rw [List.append_nil] at h3
  repeat' first|(refine wo ?_;first|(refine ao ?_;first|refine oa ?_)|refine oa ?_|refine schm ?_)|(refine gc ?_;first|(refine ci (fun hB=>?_) (fun hB=>?_) <;> try (exfalso;omega)))|refine sq ?_|refine rg ?_|refine xc ?_|refine nl ?_|refine xe ?_|refine rt ?_
  refine TX.im (Im1.im (im_subi 3 pv l (lo:=0) (hi:=d.toNat) (Nat.zero_le _) (by omega)) _) ?_
  rw [List.drop_zero,h3]
  refine r2 (D:=own 3 (slSub pv 0 d.toNat) (Is Fn.1) :: rloP b st' (used + ((d.toNat:Nat):Int))) ⟨slSub pv 0 d.toNat,rfl,?_⟩
  rw [show used + ((d.toNat:Nat):Int) = used + d by omega,show st' = Fn.2 from h4]
structure RiG where
 i:Nat
 o:Value
 ds:List Int
theorem rising_tr (s:Value) (l:List Int) (hl:l.length ≤ 65536):Tr Tryz.prog 197 [s] [vw s (Is l)] [] fun v D=>D = [own 3 v (Is (srt l))]:=by
 refine Tr.enter env _ Tryz.func197 (by kernel_rfl) rfl Tryz.ntmps197 rfl (by repeat (first | exact has00 | refine has01 ?_)) fun w0=>?_
 repeat' first|(refine wo ?_;first|refine oa ?_)|refine sq ?_|refine rg ?_|refine xc ?_|refine nl ?_|refine bk ?_
 refine TC.im (own_nil 3 _) ?_
 refine TC.loop (ι:=RiG) (fun g=>[(4,I g.i),(3,g.o)]) (fun g=>[own 3 g.o (Is g.ds)]) (fun g=>(g.i ≤ l.length∧g.o.oneCell' = true)∧g.ds.Pairwise (· ≤ ·)∧g.ds.Perm (l.take g.i)) (fun g=>l.length - g.i) ⟨0,nS,[]⟩ [0] ⟨⟨Nat.zero_le _,rfl⟩,by simp,by simp⟩ ?_ (hf:=by dsimp only;exact fitA)
 rintro ⟨i,o,ds⟩ ⟨⟨hi,ho⟩,hds,hpm⟩
 dsimp only at hi ho hds hpm ⊢
 have hdl:ds.length = i:=by rw [hpm.length_eq];simp;omega
 by_cases hlt:i < l.length
 ·have htk:=take_succ' hlt (0:Int)
  generalize hx:l.getD i 0 = x at *
  repeat' first|refine sq_cutX (a:=.block 2 _) (ι:=Nat) (fun t=>t ≤ ds.length∧(ins x ds t).Pairwise (· ≤ ·)) (fun t=>[(0,s),(3,o),(4,I i),(5,I t)]) (fun _=>[own 3 o (Is ds),vw s (Is l)]) ?_ (fun kb=>?_)|(refine wo ?_;first|(refine ao ?_;first|refine oa ?_)|refine oa ?_|refine lnm ?_)|(refine gc ?_;first|(refine ci (fun hB=>?_) (fun hB=>?_) <;> try (exfalso;omega)))|refine sq ?_|refine rg ?_|refine xc ?_|refine nl ?_|refine sk ?_|refine bk ?_
  rotate_left
  ·refine TC.loop (ι:=Nat) (fun t=>[(5,I t)]) (fun _=>[]) (fun t=>t ≤ ds.length∧∀ j,j < t→j < ds.length→ds.getD j 0 < x) (fun t=>ds.length - t) 0 [0,3,4] ⟨Nat.zero_le _,fun j h=>absurd h (Nat.not_lt_zero j)⟩ ?_
   rintro t ⟨ht,hlo⟩
   by_cases hc:t < ds.length∧ds.getD t 0 < x
   ·obtain ⟨hc1,hc2⟩:=hc
    have hlo':∀ j,j < t + 1→j < ds.length→ds.getD j 0 < x:=fun j hj hl=>by
     by_cases e:j = t
     ·rw [e];exact hc2
     ·exact hlo j (by omega) hl
    clear hlo
    generalize hy:ds.getD t 0 = y at *
    repeat' first|refine qlie hx ?_|refine qlie hy ?_|(refine wo ?_;first|(refine ao ?_;first|refine aw ?_)|refine oa ?_)|(refine gc ?_;first|(refine ci (fun hB=>?_) (fun hB=>?_) <;> try (exfalso;omega)))|refine sq ?_|refine rg ?_|refine xc ?_|refine nl ?_|refine sk ?_|refine bk ?_|refine xb ?_|refine rq ?_|refine nq ?_|(refine wq ?_;first|(refine qao ?_;first|refine qa ?_)|refine qa ?_|refine qlnm ?_|refine qixmn ?_|refine qgy ?_|(refine qgsi (fun hB=>?_) (fun hB=>?_) <;> try (exfalso;omega)))
    exact lp (t + 1) ⟨by omega,hlo'⟩
   ·have hge:t = ds.length∨x ≤ ds.getD t 0:=by omega
    have hins:=ins_sorted (x:=x) (k:=t) hds (fun j h1 h2=>Int.le_of_lt (hlo j h1 h2)) (fun j h1 h2=>by
     rcases hge with rfl | hge
     ·omega
     ·refine Int.le_trans hge ?_
      by_cases e:j = t
      ·rw [e];exact Int.le_refl _
      ·have:=List.pairwise_iff_getElem.1 hds t j (by omega) h2 (by omega)
       simpa [List.getD_eq_getElem?_getD,h2,show t < ds.length by omega] using this)
    clear hlo
    repeat' first|refine qlie hx ?_|exact kb t ⟨ht,hins⟩ _ _ (by (repeat (refine Sub.cons rfl (by first | rfl | go_num) ?_));exact Sub.nil) fitA|(refine gc ?_;first|refine cf ?_|(refine ci (fun hB=>?_) (fun hB=>?_) <;> try (exfalso;omega)))|refine sq ?_|refine xc ?_|refine xe ?_|refine rq ?_|refine nq ?_|(refine wq ?_;first|(refine qao ?_;first|refine qa ?_)|refine qa ?_|refine qlnm ?_|refine qixmn ?_|refine qli ?_|refine qgy ?_|refine qgn ?_|(refine qgsi (fun hB=>?_) (fun hB=>?_) <;> try (exfalso;omega)))
  rintro t ⟨ht,hins⟩
  have hinp:(ins x ds t).Perm (l.take (i + 1)):=by
   rw [htk]
   exact (ins_perm x ds t).trans ((List.Perm.cons x hpm).trans (List.perm_append_comm (l₁:=[x])))
  have hie:ins x ds t = ds.take t ++ [x] ++ ds.drop t:=by unfold ins;simp
  have hdr:Is (ds.drop t) = Is ((ds.take ds.length).drop t):=by rw [List.take_length]
  repeat' first|(refine sl0 fun e0=>?_)|(refine sclm (l:=ds) (lo:=(t:Int)) ?_;rw [Int.toNat_natCast])|(refine ap (xs:=[]) (news:=Is (ds.drop t)) (fun rv=>?_) (h1:=Is_one _) (hu:=by rw [hdr];exact has_subi hasA ht (Nat.le_refl _)))|(refine wo ?_;first|refine oa ?_)|refine sq ?_|refine rg ?_|refine xc ?_|refine nl ?_
  refine TC.fact (p:=∃ w0,Sl w0 o (Is ds)) (fun w hw=>⟨w,has_sl hw hasA⟩) fun ⟨wS,hS⟩=>?_
  have hz1:(ds.take t).length ≤ 65536:=by rw [List.length_take];omega
  have hz2:(ds.drop t).length ≤ 65536:=by rw [List.length_drop];omega
  have hz3:(ds.take t ++ [x]).length ≤ 65537:=by rw [List.length_append];simp only [List.length_cons,List.length_nil];omega
  refine rs (id:=9) (fun w=>Sl w s (Is l)) ?_ (fun w hw=>has_sl hw hasA)
  refine tka 0 ?_
  refine tka 1 ?_
  refine tk 2 (v:=slSub o 0 (t:Int).toNat) (hi:=rfl) (fun w _=>R_sliceHiA (E:=env) rfl rfl rfl rfl hS ⟨by omega,by rw [Is_len];omega⟩ w) ?_
  rw [Int.toNat_natCast]
  refine tka 3 ?_
  refine tka 4 ?_
  refine tkx 5 (len:=l.length) (fun w h=>⟨_,h,Is_len l⟩) ?_
  refine tkli 6 (l:=l) (j:=i) (c:=x) (fun w h=>h) hx ?_
  refine tka 9 ?_
  refine t1 7 ?_
  refine slii [x] fun v1=>?_
  refine nl ?_
  refine te (fun w hw=>has_sl hw hasA) ?_
  refine t1 8 ?_
  refine TO.im (Im.trans (show Tk (own 3 o (Is ds)) _ _ by exact tkA) (Im1.im (im_subi 3 o ds (lo:=0) (hi:=t) (Nat.zero_le _) ht) _)) ?_
  rw [List.drop_zero]
  refine api (v:=slSub o 0 t) (l:=ds.take t) (news:=[x]) fun v2=>?_
  refine nl ?_
  refine te (fun w hw=>has_sl hw hasA) ?_
  refine t1 10 ?_
  refine api (v:=v2) (l:=ds.take t ++ [x]) (news:=ds.drop t) (fun v3=>?_)
  refine TO.one (v:=v3) (xs:=Is (ds.take t ++ [x] ++ ds.drop t)) fun hv3=>?_
  refine nl ?_
  refine te (fun w hw=>has_sl hw hasA) ?_
  refine tka 11 ?_
  refine t0 ?_
  rw [← hie]
  repeat' first|(refine wo ?_;first|(refine ao ?_;first|refine aw ?_)|refine oa ?_)|refine rg ?_|refine xc ?_|refine nl ?_|refine xb ?_
  exact lp ⟨i + 1,v3,ins x ds t⟩ ⟨⟨hlt,hv3⟩,hins,hinp⟩ (hf:=by dsimp only;exact fitA)
 ·obtain rfl:i = l.length:=by omega
  rw [List.take_length] at hpm
  repeat' first|(refine wo ?_;first|(refine ao ?_;first|refine oa ?_)|refine oa ?_|refine lnm ?_)|(refine gc ?_;first|(refine ci (fun hB=>?_) (fun hB=>?_) <;> try (exfalso;omega)))|refine sq ?_|refine rg ?_|refine xc ?_|refine nl ?_|refine xe ?_|refine rt ?_
  exact r1 (v:=o) (D:=[own 3 o (Is ds)]) (by rw [srt_unique hpm hds])
theorem RPick_tr (b:Nat) (st:BitVec 64) (used k d:Int) (hu:0 ≤ used∧used ≤ 1152921504606846976) (hsz:Sized k d):Tr Tryz.prog 188 [ptr b,I k,I d] [] (rloP b st used)
  fun v D=>∃ o,v = tup2 o (I (pickR k d st).2)∧D = own 3 o (Is (pickR k d st).1) :: rloP b (ordR k d st).2.1 (used + (ordR k d st).2.2):=by
 have hlen:=ordR_len k d st
 refine Tr.enter env _ Tryz.func188 (by kernel_rfl) rfl Tryz.ntmps188 rfl (by repeat (first | exact has00 | refine has01 ?_)) fun w0=>?_
 repeat' first|(refine gca ?_;first|(refine ca (ROrder_tr b st used k d hu hsz) ?_;rintro _ _ ⟨o,rfl,rfl⟩)|(refine ca (rising_tr o (ordR k d st).1.1 hlen) ?_;rintro v2 _ rfl))|(refine wo ?_;first|refine oa ?_)|refine sq ?_|refine rg ?_|refine xc ?_|refine nl ?_|refine rt ?_
 exact r2 ⟨v2,rfl,rfl⟩
end Go.Art
