/- Texts put together: Ss So Bk Xr Sg Al Rw Hp Hq Ak Ct Mk Xo. Conditions: none. -/
import Derived.Test.YtmdpconhbmkokaaGreatWUb
set_option linter.unusedSimpArgs false
set_option linter.unusedVariables false
namespace Go.Art
open Go Go.Proofs Go.RowKit
def upto (k:Nat):List Int:=(List.range k).map (fun i:Nat=>(i:Int))
theorem upto_length (k:Nat):(upto k).length = k:=by simp [upto]
theorem upto_get (k i:Nat) (h:i < k):(upto k).getD i 0 = i:=by simp [upto,List.getD_eq_getElem?_getD,h]
theorem upto_succ (k:Nat):upto (k + 1) = upto k ++ [(k:Int)]:=by simp [upto,List.range_succ]
def swp (l:List Int) (i j:Nat):List Int:=(l.set j (l.getD i 0)).set i (l.getD j 0)
theorem swp_length (l:List Int) (i j:Nat):(swp l i j).length = l.length:=by simp [swp]
theorem swp_get (l:List Int) {i j:Nat} (t:Nat) (hi:i < l.length) (hj:j < l.length):(swp l i j).getD t 0 = if t = i then l.getD j 0 else if t = j then l.getD i 0 else l.getD t 0:=by
 simp only [swp,List.getD_eq_getElem?_getD,List.getElem?_set,List.length_set]
 by_cases h1:t = i
 ·subst h1;simp [hi]
 ·by_cases h2:t = j
  ·subst h2;simp [Ne.symm h1,h1,hj]
  ·simp [Ne.symm h1,Ne.symm h2,h1,h2]
def ordL (k:Nat):Nat→Nat→List Int→BitVec 64→List Int × BitVec 64
 | 0,_,_,st=>([],st)
 | m + 1,i,l,st=>(l.getD (i + (sdraw (k - i) st).1) 0 :: (ordL k m (i + 1) (swp l i (i + (sdraw (k - i) st).1)) (sdraw (k - i) st).2).1,(ordL k m (i + 1) (swp l i (i + (sdraw (k - i) st).1)) (sdraw (k - i) st).2).2)
theorem ordL_len (k:Nat):∀ (m i:Nat) (l:List Int) (st:BitVec 64),(ordL k m i l st).1.length = m
 | 0,_,_,_=>rfl
 | m + 1,i,l,st=>by unfold ordL;simp [ordL_len k m]
def Sized (k d:Int):Prop:=1 ≤ k∧k ≤ 65536∧1 ≤ d∧d ≤ k
instance (k d:Int):Decidable (Sized k d):=by unfold Sized;infer_instance
def ordR (k d:Int) (st:BitVec 64):(List Int × Int) × (BitVec 64 × Int):=if Sized k d then (((ordL k.toNat d.toNat 0 (upto k.toNat) st).1,0),((ordL k.toNat d.toNat 0 (upto k.toNat) st).2,d)) else (([],3),(st,0))
def mps (b:Nat) (f:Int→Option Value) (k:Int) (st:Nat):Ch where
 wr:=fun x=>x = b
 rd:=fun _=>False
 bd:=fun _=>False
 P:=fun w=>MapS w b f k st
 loc:=fun {w w'} h hb=>by obtain ⟨es,c,h1,h2⟩:=h.ex;exact ⟨es,c,(hb b (.inl rfl)).trans h1,h2⟩
 lt:=fun h hb=>by rcases hb with rfl | hb | hb;(obtain ⟨es,c,h1,h2⟩:=h.ex;exact lt_of_heap h1);exact hb.elim;exact hb.elim
section
variable {P:Program} {E:Env P} {n:Sh} {X:Cx} {s:List K} {fr:Fr} {A A':List Ch} {ops:Array Oper} {rest:List Oper} {d:Nat} {ty t kt et:TypeId} {pos:String} {after:Array Edge} {x y u:Operand} {b sz by_ st:Nat} {f:Int→Option Value} {k:Int} {v z:Value}
theorem mpe (kk:∀ st:Nat,TO E n X s ops rest ((d,.tuple #[(f k).getD z,I st]) :: fr) (mps b (updF f k ((f k).getD z)) k st :: A')) (hx:ev fr x = some (mp b):=by rfl) (hm:Tk (mpc b f) A A':=by exact tkA) (hy:ev fr y = some (I k):=by rfl)
  (ht:lk E.und t = some (.map kt et):=by rfl) (hk:lk E.und kt = some dI:=by rfl) (he:lk E.inf et = some (z,sz,by_):=by rfl) (hd:Nat.blt d n.n = true:=by rfl):TO E n X s ops (⟨some d,.mapEntry t x y,ty,pos,after,none⟩ :: rest) fr A:=⟨fun w hw=>by
 have h1:=hw.im hm
 exact SO_mapEntry hd ht hk he hx hy (h1.mem (List.Mem.head _)) fun w' st hU hM=>(kk st).run w' (h1.set (d:=mps b (updF f k ((f k).getD z)) k st) hU (fun x hb=>.inl (List.mem_singleton.1 hb)) hM (by rintro x (rfl | h | h);exact .inl rfl;exact h.elim;exact h.elim) (fun _ h=>h))⟩
theorem mes (kk:TO E n X s ops rest fr (mpc b (updF f k v) :: A')) (hx:ev fr x = some (mp b):=by rfl) (hm:Tk (mps b f k st) A A':=by exact tkA) (hy:ev fr y = some (I st):=by rfl) (hu:ev fr u = some v:=by rfl):TO E n X s ops (⟨none,.entryStore t x y u,ty,pos,after,none⟩ :: rest) fr A:=⟨fun w hw=>by
 have h1:=hw.im hm
 exact SO_entryStore hx hy hu (h1.mem (List.Mem.head _)) fun w' hU hM=>kk.run w' (h1.set (d:=mpc b (updF f k v)) hU (fun x hb=>.inl (List.mem_singleton.1 hb)) hM (by rintro x (rfl | h | h);exact .inl rfl;exact h.elim;exact h.elim) (fun _ h=>h))⟩
end
attribute [local irreducible] Fit pt own ro vw mpc lpt vels rels mow lrc dfr
attribute [local irreducible] mps lmp lme mit
theorem sized_tr (k d:Int):Tr Tryz.prog 176 [I k,I d] [] [] fun v D=>v = .bool (decide (Sized k d))∧D = []:=by
 refine Tr.enter env _ Tryz.func176 (by kernel_rfl) rfl Tryz.ntmps176 rfl (by repeat (first | exact has00 | refine has01 ?_)) fun w0=>?_
 repeat' first|(refine wo ?_;first|(refine ao ?_;first|refine oa ?_)|refine oa ?_|refine gy ?_|refine gn ?_|(refine gsi (fun hB=>?_) (fun hB=>?_) <;> try (exfalso;omega)))|refine sq ?_|refine rg ?_|refine xc ?_|refine nl ?_|refine rt ?_
 all_goals refine r1 ⟨?_,rfl⟩
 all_goals first
  | rw [decide_eq_false (fun h:Sized k d=>by unfold Sized at h;omega)]
  | (congr 1;exact decide_eq_decide.2 ⟨fun h=>by unfold Sized;omega,fun h=>by unfold Sized at h;omega⟩)
theorem updF_twice (f:Int→Option Value) (k:Int) (v v':Value):updF (updF f k v) k v' = updF f k v':=by
 funext i;unfold updF;by_cases e:i = k
 ·rw [if_pos e,if_pos e]
 ·rw [if_neg e,if_neg e,if_neg e]
def PlcF (f:Int→Option Value) (g:Int→Int):Prop:=∀ i,(f i = none∧g i = i)∨f i = some (I (g i))
def upg (g:Int→Int) (k v:Int):Int→Int:=fun k'=>if k' = k then v else g k'
theorem PlcF.put {f:Int→Option Value} {g:Int→Int} (h:PlcF f g) (k v:Int):PlcF (updF f k (I v)) (upg g k v):=fun i=>by
 unfold updF upg
 by_cases e:i = k
 ·rw [if_pos e,if_pos e];exact .inr rfl
 ·rw [if_neg e,if_neg e];exact h i
theorem at_tr (b:Nat) (f:Int→Option Value) (g:Int→Int) (i:Int) (h:PlcF f g):Tr Tryz.prog 178 [mp b,I i] [] [mpc b f] fun v D=>v = I (g i)∧D = [mpc b f]:=by
 refine Tr.enter env _ Tryz.func178 (by kernel_rfl) rfl Tryz.ntmps178 rfl (by repeat (first | exact has00 | refine has01 ?_)) fun w0=>?_
 rcases h i with ⟨h1,h2⟩ | h1
 ·repeat' first|refine mlN ?_ h1|(refine wo ?_;first|refine oa ?_)|(refine gc ?_;first|refine cf ?_)|refine sq ?_|refine rg ?_|refine xc ?_|refine nl ?_|refine sk ?_|refine rt ?_
  exact r1 ⟨by rw [h2],rfl⟩
 ·repeat' first|refine mlS ?_ h1|(refine wo ?_;first|refine oa ?_)|(refine gc ?_;first|refine ct ?_)|refine sq ?_|refine rg ?_|refine xc ?_|refine nl ?_|refine rt ?_
  exact r1 ⟨rfl,rfl⟩
theorem exchange_tr (b:Nat) (f:Int→Option Value) (g:Int→Int) (i j:Int) (h:PlcF f g):Tr Tryz.prog 177 [mp b,I i,I j] [] [mpc b f] fun _ D=>∃ f',D = [mpc b f']∧PlcF f' (upg (upg g i (g j)) j (g i)):=by
 refine Tr.enter env _ Tryz.func177 (by kernel_rfl) rfl Tryz.ntmps177 rfl (by repeat (first | exact has00 | refine has01 ?_)) fun w0=>?_
 repeat' first|(refine gca ?_;first|(refine ca (at_tr b f g _ h) ?_;rintro _ _ ⟨rfl,rfl⟩))|refine mpe fun st=>?_|refine mes ?_|refine mu ?_|(refine wo ?_;first|refine oa ?_)|refine rg ?_|refine nl ?_
 rw [updF_twice]
 exact e0 ⟨_,rfl,(h.put i (g j)).put j (g i)⟩
theorem Values_tr (s:Value) (hs:s.oneCell' = true):Tr Tryz.prog 167 [s] [] [] fun v D=>∃ c,v = .func (.func 181) #[] #[ptr c]∧D = [pt c [s] 22]:=by
 refine Tr.enter env _ Tryz.func167 (by kernel_rfl) rfl Tryz.ntmps167 rfl (by repeat (first | exact has00 | refine has01 ?_)) fun w0=>?_
 repeat' first|refine bx1 fun c=>?_|(refine wo ?_;first|refine oa ?_)|refine sq ?_|refine rg ?_|refine xc ?_|refine nl ?_|refine rt ?_
 exact r1 ⟨c,rfl,rfl⟩
theorem Values1_seq (c:Nat) (s:Value) (xs:List Int):SeqC Tryz.prog 181 #[ptr c] [lpt c [s] 22,vw s (Is xs)] xs.length (· = xs):=by
 refine ⟨?_,fun zs h=>by rw [h];exact Nat.le_refl _,by (repeat (first | exact has00 | refine has01 ?_));first | done | fail⟩
 intro α l J el a0 h0 hnb hy
 refine Tr.enter env _ Tryz.func181 (by kernel_rfl) rfl Tryz.ntmps181 rfl (by repeat (first | exact has00 | refine has01 ?_)) fun w0=>?_
 refine TC.leni (l:=xs) fun hxl=>?_
 repeat' first|(refine wo ?_;first|refine oa ?_|refine ldl ?_|refine lnm ?_)|refine sq ?_|refine rg ?_|refine xc ?_|refine nl ?_|refine bk ?_
 refine TC.loop (ι:=Nat × α) (fun i=>[(7,I i.1)]) (fun i=>lpt c [s] 22 :: vw s (Is xs) :: J i.2) (fun i=>i.1 ≤ xs.length∧el i.2 = xs.take i.1) (fun i=>xs.length - i.1) (0,a0) [0,5,6] ⟨by simp,by rw [h0];rfl⟩ ?_ (hf:=Fit.all)
 rintro ⟨i,a⟩ ⟨h1,h2⟩
 have hF:Fit (lpt c [s] 22 :: vw s (Is xs) :: J a) (J a) [lpt c [s] 22,vw s (Is xs)]:=Fit.app [lpt c [s] 22,vw s (Is xs)] (J a)
 refine TC.im (B:=lpt c [s] 22 :: vw s (Is xs) :: J a) (by exact Im.perm (by simp)) ?_
 by_cases hi:i < xs.length
 ·have hts:=take_succ' hi 0
  repeat' first|refine cy (hy a (xs.getD i 0) (by rw [h2,List.length_take];omega)) ?_ (hs:=hF)|(refine wo ?_;first|(refine ao ?_;first|refine oa ?_)|refine oa ?_|refine ixmn ?_|refine li ?_)|(refine gc ?_;first|(refine ci (fun hB=>?_) (fun hB=>?_) <;> try (exfalso;omega)))|refine sq ?_|refine rg ?_|refine xc ?_|refine nl ?_|refine sk ?_|refine bk ?_
  rintro ok B ⟨rfl,a',ha',rfl⟩
  repeat' first|(refine wo ?_;first|(refine ao ?_;first|refine aw ?_)|refine oa ?_)|(refine gc ?_;first|refine cf ?_)|refine rg ?_|refine xc ?_|refine nl ?_|refine sk ?_|refine xb ?_
  refine lp (i + 1,a') ⟨by dsimp only;omega,by dsimp only;rw [ha',h2,hts]⟩ (G:=[]) (hf:=?_)
  dsimp only;rw [List.append_nil];exact Fit.comm [lpt c [s] 22,vw s (Is xs)] (J a')
 ·obtain rfl:i = xs.length:=by dsimp only at h1;omega
  rw [List.take_length] at h2
  repeat' first|(refine wo ?_;first|(refine ao ?_;first|refine oa ?_))|(refine gc ?_;first|(refine ci (fun hB=>?_) (fun hB=>?_) <;> try (exfalso;omega)))|refine sq ?_|refine rg ?_|refine xc ?_|refine nl ?_|refine xe ?_
  exact e0 (D:=J a) ⟨a,h2,rfl⟩ (hf:=hF) (nb:=hnb a)
def RelG (k:Nat) (l:List Int) (g:Int→Int):Prop:=l.length = k∧∀ t:Nat,t < k→g t = l.getD t 0
theorem RelG.step {k:Nat} {l:List Int} {g:Int→Int} (h:RelG k l g) {i j:Nat} (hi:i < k) (hj:j < k):RelG k (swp l i j) (upg (upg g i (g j)) j (g i))∧upg (upg g i (g j)) j (g i) i = l.getD j 0:=by
 have key:∀ t:Nat,t < k→upg (upg g i (g j)) j (g i) t = (swp l i j).getD t 0:=fun t ht=>by
  rw [swp_get l t (by rw [h.1];exact hi) (by rw [h.1];exact hj)]
  unfold upg
  by_cases e1:t = i
  ·subst e1
   rw [if_pos rfl]
   by_cases e2:(t:Int) = j
   ·have e3:t = j:=by omega
    subst e3;rw [if_pos rfl,if_pos rfl,h.2 t ht]
   ·rw [if_neg e2,if_pos rfl,h.2 j hj]
  ·rw [if_neg e1]
   by_cases e2:t = j
   ·subst e2;rw [if_pos rfl,if_pos rfl,h.2 i hi]
   ·rw [if_neg e2,if_neg (by omega),if_neg (by omega),h.2 t ht]
 refine ⟨⟨by rw [swp_length,h.1],key⟩,?_⟩
 rw [key i hi,swp_get l i (by rw [h.1];exact hi) (by rw [h.1];exact hj),if_pos rfl]
structure OrG where
 i:Nat
 o:Value
 f:Int→Option Value
 l:List Int
 outs:List Int
 st:BitVec 64
theorem Order_tr (b r:Nat) (st:BitVec 64) (used k d:Int) (hu:0 ≤ used∧used ≤ 1152921504606846976):Tr Tryz.prog 165 [ptr b,I k,I d] [] (lotP b r st used false)
  fun v D=>∃ o,v = tup2 o (I (ordR k d st).1.2)∧D = own 3 o (Is (ordR k d st).1.1) :: lotP b r (ordR k d st).2.1 (used + (ordR k d st).2.2) false:=by
 have hl0:ldraw 0 st used = ((0,3),(st,used)):=if_neg (by omega)
 refine Tr.enter env _ Tryz.func165 (by kernel_rfl) rfl Tryz.ntmps165 rfl (by repeat (first | exact has00 | refine has01 ?_)) fun w0=>?_
 refine TC.im (own_nil 3 _) ?_
 repeat' first|(refine gca ?_;first|(refine ca (Draw_tr b r st used 0 (by omega)) ?_;rintro _ _ ⟨rfl,rfl⟩;rw [hl0])|(refine ca (sized_tr k d) ?_;rintro _ _ ⟨rfl,rfl⟩))|refine mm fun p=>?_|(refine wo ?_;first|(refine ao ?_;first|refine oa ?_)|refine oa ?_)|(refine gc ?_;first|refine cf ?_|(refine cn (fun hB=>?_) (fun hB=>?_) <;> try (exfalso;omega)))|refine sq ?_|refine rg ?_|refine xc ?_|refine nl ?_|refine sk ?_|refine bk ?_|refine rt ?_
 ·rw [show ordR k d st = (([],3),(st,0)) from if_neg (by assumption)]
  exact r2 (D:=own 3 nS (Is []) :: lotP b r st used false) ⟨nS,rfl,by dsimp only;rw [Int.add_zero]⟩
 have hsz:Sized k d:=by assumption
 obtain ⟨k1,k2,d1,d2⟩:=id hsz
 rw [show ordR k d st = (((ordL k.toNat d.toNat 0 (upto k.toNat) st).1,0),((ordL k.toNat d.toNat 0 (upto k.toNat) st).2,d)) from if_pos hsz]
 generalize hF:ordL k.toNat d.toNat 0 (upto k.toNat) st = Fn at *
 refine TC.loop (ι:=OrG) (fun u=>[(29,I u.i),(11,u.o)]) (fun u=>own 3 u.o (Is u.outs) :: mpc p u.f :: lotP b r u.st (used + u.i) false) (fun u=>u.i ≤ d.toNat∧u.outs.length = u.i∧(∃ g,PlcF u.f g∧RelG k.toNat u.l g)∧u.outs ++ (ordL k.toNat (d.toNat - u.i) u.i u.l u.st).1 = Fn.1∧(ordL k.toNat (d.toNat - u.i) u.i u.l u.st).2 = Fn.2)
  (fun u=>d.toNat - u.i) ⟨0,nS,fun _=>none,upto k.toNat,[],st⟩ [0,1,2,10,28] ⟨by simp,rfl,⟨fun i=>i,fun i=>.inl ⟨rfl,rfl⟩,upto_length _,fun t ht=>(upto_get _ _ ht).symm⟩,by simp [hF],by simp [hF]⟩ ?_ (hf:=by dsimp only;rw [show used + ((0:Nat):Int) = used by omega];exact fitA)
 rintro ⟨i,o,f,l,outs,st'⟩ ⟨h1,h2,⟨g,hg1,hg2⟩,h3,h4⟩
 dsimp only at h1 h2 hg1 hg2 h3 h4 ⊢
 by_cases hi:i < d.toNat
 ·have hki:1 ≤ k - (i:Int)∧k - (i:Int) ≤ 1099511627776:=by omega
  have hld:ldraw (k - i) st' (used + i) = ((((sdraw (k - i).toNat st').1:Int),0),((sdraw (k - i).toNat st').2,used + i + 1)):=if_pos hki
  have hlt:=sdraw_lt (n:=(k - i).toNat) (by omega) st'
  have hkn:(k - (i:Int)).toNat = k.toNat - i:=by omega
  rw [hkn] at hld hlt
  rw [show d.toNat - i = (d.toNat - (i + 1)) + 1 by omega] at h3 h4
  unfold ordL at h3 h4
  dsimp only at h3 h4
  generalize hs:(sdraw (k.toNat - i) st').1 = s at *
  generalize (sdraw (k.toNat - i) st').2 = st2 at *
  obtain ⟨q1,q2⟩:=hg2.step (i:=i) (j:=i + s) (by omega) (by omega)
  have hD:=Draw_tr b r st' (used + i) (k - i) (by omega)
  rw [hld] at hD
  dsimp only at hD
  have hl3:=congrArg List.length h3
  rw [List.length_append,List.length_cons] at hl3
  rw [show ((i + s:Nat):Int) = (i:Int) + s by omega] at q1 q2
  repeat' first|(refine gca ?_;first|(refine ca hD ?_;rintro _ _ ⟨rfl,rfl⟩)|(refine ca (exchange_tr p f g i _ hg1) ?_;rintro _ _ ⟨f',rfl,hg'⟩)|(refine ca (at_tr p f' _ i hg') ?_;rintro _ _ ⟨rfl,rfl⟩))|(refine wo ?_;first|(refine ao ?_;first|refine aw ?_|refine oa ?_)|refine oa ?_)|(refine gc ?_;first|refine cf ?_|(refine ci (fun hB=>?_) (fun hB=>?_) <;> try (exfalso;omega)))|refine sq ?_|refine rg ?_|refine xc ?_|refine nl ?_|refine sk ?_|refine bk ?_
  rw [q2]
  refine slii [l.getD (i + s) 0] fun v1=>?_
  refine api (v:=o) (l:=outs) (news:=[l.getD (i + s) 0]) fun v2=>?_
  repeat' first|(refine wo ?_;first|(refine ao ?_;first|refine aw ?_)|refine oa ?_)|refine rg ?_|refine xc ?_|refine nl ?_|refine xb ?_
  refine lp ⟨i + 1,v2,f',swp l i (i + s),outs ++ [l.getD (i + s) 0],st2⟩ ⟨by dsimp only;omega,by simp [h2],⟨_,hg',q1⟩,by rw [List.append_assoc];exact h3,h4⟩ (hf:=by dsimp only;rw [show used + ((i + 1:Nat):Int) = used + i + 1 by omega];exact fitA)
 ·obtain rfl:i = d.toNat:=by omega
  rw [Nat.sub_self] at h3 h4
  unfold ordL at h3 h4
  rw [List.append_nil] at h3
  repeat' first|(refine wo ?_;first|(refine ao ?_;first|refine oa ?_)|refine oa ?_)|(refine gc ?_;first|(refine ci (fun hB=>?_) (fun hB=>?_) <;> try (exfalso;omega)))|refine sq ?_|refine rg ?_|refine xc ?_|refine nl ?_|refine xe ?_|refine rt ?_
  refine r2 (D:=own 3 o (Is outs) :: lotP b r st' (used + ((d.toNat:Nat):Int)) false) ⟨o,rfl,?_⟩
  rw [h3,show used + ((d.toNat:Nat):Int) = used + d by omega,show st' = Fn.2 from h4]
def pickR (k d:Int) (st:BitVec 64):List Int × Int:=(srt (ordR k d st).1.1,(ordR k d st).1.2)
theorem ordR_len (k d:Int) (st:BitVec 64):(ordR k d st).1.1.length ≤ 65536:=by
 unfold ordR
 split
 ·rename_i h;dsimp only;rw [ordL_len];unfold Sized at h;omega
 ·simp
theorem SPick_tr (b r:Nat) (st:BitVec 64) (used k d:Int) (hu:0 ≤ used∧used ≤ 1152921504606846976):Tr Tryz.prog 155 [ptr b,I k,I d] [] (lotP b r st used false)
  fun v D=>∃ o,v = tup2 o (I (pickR k d st).2)∧D = own 3 o (Is (pickR k d st).1) :: lotP b r (ordR k d st).2.1 (used + (ordR k d st).2.2) false:=by
 have hlen:=ordR_len k d st
 refine Tr.enter env _ Tryz.func155 (by kernel_rfl) rfl Tryz.ntmps155 rfl (by repeat (first | exact has00 | refine has01 ?_)) fun w0=>?_
 repeat' first|(refine gca ?_;first|(refine ca (Order_tr b r st used k d hu) ?_;rintro _ _ ⟨o,rfl,rfl⟩;refine TO.one (v:=o) (xs:=Is (ordR k d st).1.1) fun ho=>?_)|(refine ca (Values_tr _ (by assumption)) ?_;rintro _ _ ⟨c,rfl,rfl⟩))|(refine wo ?_;first|refine oa ?_)|refine sq ?_|refine rg ?_|refine xc ?_|refine nl ?_
 refine ca (Sorted_tr (Values1_seq c o (ordR k d st).1.1) (by omega)) ?_
 rintro v _ ⟨zs,rfl,rfl⟩
 repeat' first|(refine wo ?_;first|refine oa ?_)|refine xc ?_|refine nl ?_|refine rt ?_
 exact r2 ⟨v,rfl,rfl⟩
end Go.Art
namespace Go.Art
open Go Go.Proofs Go.RowKit
attribute [local irreducible] Fit pt own ro vw mpc lpt vels rels mow lrc dfr
attribute [local irreducible] lmp lme mit
def wOk (w:Int):Bool:=decide (0 ≤ w∧w ≤ 16777215)
def wPos (w:Int):Bool:=decide (0 < w)
def solE (t:List Int) (k:Int):Int:=if k < 1∨65536 < k∨t.length < 1∨k < t.length then 13 else if t.all wOk && t.any wPos then 0 else 13
theorem solE_zero {t:List Int} {k:Int} (h:solE t k = 0):(1 ≤ k∧k ≤ 65536)∧(1 ≤ t.length∧t.length ≤ k)∧(∀ w ∈ t,0 ≤ w∧w ≤ 16777215)∧∃ w ∈ t,0 < w:=by
 unfold solE at h
 split at h
 ·cases h
 ·split at h
  ·rename_i h1 h2
   rw [Bool.and_eq_true,List.all_eq_true,List.any_eq_true] at h2
   refine ⟨by omega,by omega,fun w hw=>by simpa [wOk] using h2.1 w hw,?_⟩
   obtain ⟨w,hw,hp⟩:=h2.2
   exact ⟨w,hw,by simpa [wPos] using hp⟩
  ·cases h
theorem solE_cases (t:List Int) (k:Int):solE t k = 0∨solE t k = 13:=by unfold solE;split;exact .inr rfl;split;exact .inl rfl;exact .inr rfl
theorem take_all {p:Int→Bool} {t:List Int} {i:Nat} (hi:i < t.length):(t.take (i + 1)).all p = ((t.take i).all p && p (t.getD i 0)):=by rw [take_succ' hi 0,List.all_append];simp
theorem take_any {p:Int→Bool} {t:List Int} {i:Nat} (hi:i < t.length):(t.take (i + 1)).any p = ((t.take i).any p || p (t.getD i 0)):=by rw [take_succ' hi 0,List.any_append];simp
theorem all_of_take {p:Int→Bool} {t:List Int} {i:Nat} (hi:i < t.length) (h:p (t.getD i 0) = false):t.all p = false:=by
 cases hc:t.all p with
 | false=>rfl
 | true=>rw [List.all_eq_true] at hc;rw [hc _ (mem_getD.2 ⟨i,hi,rfl⟩)] at h;cases h
theorem SoCheck_tr (s:Value) (t:List Int) (k:Int):Tr Tryz.prog 90 [s,I k] [vw s (Is t)] [] fun v D=>v = I (solE t k)∧D = []:=by
 refine Tr.enter env _ Tryz.func90 (by kernel_rfl) rfl Tryz.ntmps90 rfl (by repeat (first | exact has00 | refine has01 ?_)) fun w0=>?_
 refine TC.leni (l:=t) fun htl=>?_
 repeat' first|(refine wo ?_;first|(refine ao ?_;first|refine oa ?_)|refine oa ?_|refine lnm ?_|refine gy ?_|refine gn ?_|(refine gsi (fun hB=>?_) (fun hB=>?_) <;> try (exfalso;omega)))|(refine gc ?_;first|refine ct ?_|(refine ci (fun hB=>?_) (fun hB=>?_) <;> try (exfalso;omega)))|refine sq ?_|refine rg ?_|refine xc ?_|refine nl ?_|refine sk ?_|refine bk ?_|refine rt ?_
 ·exact r1 ⟨by rw [solE,if_pos (by omega)],rfl⟩
 ·exact r1 ⟨by rw [solE,if_pos (by omega)],rfl⟩
 ·exact r1 ⟨by rw [solE,if_pos (by omega)],rfl⟩
 ·exact r1 ⟨by rw [solE,if_pos (by omega)],rfl⟩
 rw [show solE t k = if t.all wOk && t.any wPos then 0 else 13 by rw [solE,if_neg (by omega)]]
 refine TC.loop (ι:=Nat × Bool) (fun i=>[(27,I i.1),(5,.bool i.2)]) (fun _=>[]) (fun i=>i.1 ≤ t.length∧(t.take i.1).all wOk = true∧i.2 = (t.take i.1).any wPos) (fun i=>t.length - i.1) (0,false) [25,26] ⟨by simp,rfl,rfl⟩ ?_
 rintro ⟨i,so⟩ ⟨h1,h2,h3⟩
 dsimp only at h1 h2 h3 ⊢
 by_cases hi:i < t.length
 ·have ha:=take_all (p:=wOk) hi
  have hb:=take_any (p:=wPos) hi
  have hc:=all_of_take (p:=wOk) hi
  generalize hy:t.getD i 0 = y at *
  repeat' first|refine lie hy ?_|(refine wo ?_;first|(refine ao ?_;first|refine aw ?_|refine oa ?_)|refine oa ?_|refine ixmn ?_|refine gy ?_|refine gn ?_|(refine gsi (fun hB=>?_) (fun hB=>?_) <;> try (exfalso;omega))|(refine gs (fun hB=>?_) (fun hB=>?_) <;> try (exfalso;omega)))|(refine gc ?_;first|refine ct ?_|(refine ci (fun hB=>?_) (fun hB=>?_) <;> try (exfalso;omega)))|refine sq ?_|refine rg ?_|refine xc ?_|refine nl ?_|refine sk ?_|refine bk ?_|refine rt ?_|refine xb ?_
  ·refine r1 ⟨?_,rfl⟩
   rw [hc (by simp [wOk];omega)];rfl
  ·refine r1 ⟨?_,rfl⟩
   rw [hc (by simp [wOk];omega)];rfl
  ·have hw:wOk y = true:=by simp [wOk];omega
   exact lp (i + 1,true) ⟨by dsimp only;omega,by dsimp only;rw [ha,h2,hw];rfl,by dsimp only;rw [hb,← h3,hB];rfl⟩
  ·have hw:wOk y = true:=by simp [wOk];omega
   exact lp (i + 1,decide (0 < y)) ⟨by dsimp only;omega,by dsimp only;rw [ha,h2,hw];rfl,by dsimp only;rw [hb,← h3,hB];rfl⟩
 ·obtain rfl:i = t.length:=by omega
  rw [List.take_length] at h2 h3
  repeat' first|(refine wo ?_;first|(refine ao ?_;first|refine oa ?_)|refine oa ?_)|(refine gc ?_;first|(refine ci (fun hB=>?_) (fun hB=>?_) <;> try (exfalso;omega))|(refine cb (fun hB=>?_) (fun hB=>?_) <;> try (exfalso;omega)))|refine sq ?_|refine rg ?_|refine xc ?_|refine nl ?_|refine sk ?_|refine xe ?_|refine rt ?_
  ·refine r1 ⟨?_,rfl⟩
   rw [h2,← h3,show so = false by simpa using hB];rfl
  ·refine r1 ⟨?_,rfl⟩
   rw [h2,← h3,show so = true by simpa using hB];rfl
def total (t:List Int):Int:=t.sum
theorem take_sum {t:List Int} {i:Nat} (hi:i < t.length):(t.take (i + 1)).sum = (t.take i).sum + t.getD i 0:=by rw [take_succ' hi 0,List.sum_append];simp
theorem sum_bound {t:List Int} (h:∀ w ∈ t,0 ≤ w∧w ≤ 16777215):0 ≤ t.sum∧t.sum ≤ 16777215 * t.length:=by
 induction t with
 | nil=>simp
 | cons a r ih=>
  have h1:=h a (by simp)
  have h2:=ih fun w hw=>h w (by simp [hw])
  simp only [List.sum_cons,List.length_cons]
  omega
theorem Total_tr (s:Value) (t:List Int) (h1:1 ≤ t.length∧t.length ≤ 65536) (hw:∀ w ∈ t,0 ≤ w∧w ≤ 16777215):Tr Tryz.prog 127 [s] [vw s (Is t)] [] fun v D=>v = I t.sum∧D = []:=by
 refine Tr.enter env _ Tryz.func127 (by kernel_rfl) rfl Tryz.ntmps127 rfl (by repeat (first | exact has00 | refine has01 ?_)) fun w0=>?_
 repeat' first|(refine wo ?_;first|(refine ao ?_;first|refine oa ?_)|refine oa ?_|refine lnm ?_|refine gy ?_|(refine gsi (fun hB=>?_) (fun hB=>?_) <;> try (exfalso;omega)))|(refine gc ?_;first|(refine ci (fun hB=>?_) (fun hB=>?_) <;> try (exfalso;omega)))|refine sq ?_|refine rg ?_|refine xc ?_|refine nl ?_|refine sk ?_|refine bk ?_
 refine TC.loop (ι:=Nat) (fun i=>[(15,I i),(2,I (t.take i).sum)]) (fun _=>[]) (fun i=>i ≤ t.length) (fun i=>t.length - i) 0 [13,14] (by simp) ?_
 rintro i h2
 by_cases hi:i < t.length
 ·have hs:=take_sum hi
  have hb:=hw _ (mem_getD.2 ⟨i,hi,rfl⟩)
  have hc:=sum_bound (t:=t.take i) fun w h=>hw w (List.mem_of_mem_take h)
  rw [List.length_take] at hc
  generalize hy:t.getD i 0 = y at *
  repeat' first|refine lie hy ?_|(refine wo ?_;first|(refine ao ?_;first|refine aw ?_|refine oa ?_)|refine oa ?_|refine ixmn ?_|refine gy ?_|(refine gsi (fun hB=>?_) (fun hB=>?_) <;> try (exfalso;omega)))|(refine gc ?_;first|(refine ci (fun hB=>?_) (fun hB=>?_) <;> try (exfalso;omega)))|refine sq ?_|refine rg ?_|refine xc ?_|refine nl ?_|refine sk ?_|refine bk ?_|refine xb ?_
  exact lp (i + 1) (by omega) (hs:=by rw [hs];(repeat (refine Sub.cons rfl (by first | rfl | go_num) ?_));exact Sub.nil)
 ·obtain rfl:i = t.length:=by omega
  rw [List.take_length]
  repeat' first|(refine wo ?_;first|(refine ao ?_;first|refine oa ?_)|refine oa ?_)|(refine gc ?_;first|(refine ci (fun hB=>?_) (fun hB=>?_) <;> try (exfalso;omega)))|refine sq ?_|refine rg ?_|refine xc ?_|refine nl ?_|refine xe ?_|refine rt ?_
  exact r1 ⟨rfl,rfl⟩
end Go.Art
namespace Go.Art
open Go Go.Proofs Go.RowKit
attribute [local irreducible] Fit pt own ro vw mpc lpt vels rels mow lrc dfr
attribute [local irreducible] lmp lme mit velg relg
theorem BIndexFunc_tr (s:Value) (hs:List Value) (ls:List (List Int)) (f:FuncId) (cap:List Value) (pre:List Ch) (p:List Int→Bool)
  (hp:∀ c ∈ pre,∀ A:List Ch,c ∈ A→Has A c) (hf:∀ h l,l ∈ ls→Tr Tryz.prog f (h :: cap) (vw h (By l) :: pre) [] fun v D=>v = .bool (p l)∧D = []) :
  Tr Tryz.prog 126 [s,.func (.func f) #[] cap.toArray] (vw s hs :: velg y8 hs ls :: pre) [] fun v D=>(∃ i:Int,v = I i∧(0 ≤ i ↔ ls.any p = true))∧D = []:=by
 refine Tr.enter env _ Tryz.func126 (by kernel_rfl) rfl Tryz.ntmps126 rfl (has01 (has01 fun c hc b=>⟨(hp c hc [c] (by simp)).wr b,(hp c hc [c] (by simp)).rd b⟩)) fun w0=>?_
 refine TC.elg (g:=y8) (hs:=hs) (ls:=ls) (fun hl=>?_)
 refine TC.fact (vw_len (v:=s) (xs:=hs) hasA) fun hlen=>?_
 repeat' first|(refine wo ?_;first|refine oa ?_|refine ln ?_)|refine sq ?_|refine rg ?_|refine xc ?_|refine nl ?_|refine bk ?_
 refine TC.loop (ι:=Nat) (fun i=>[(8,I i)]) (fun _=>[]) (fun i=>i ≤ ls.length∧∀ j,j < i→p (ls.getD j []) = false) (fun i=>ls.length - i) 0 [0,1,6,7] ⟨by omega,by omega⟩ ?_
 rintro i ⟨h1,h2⟩
 by_cases hi:i < ls.length
 ·have hmem:ls.getD i [] ∈ ls:=by rw [List.getD_eq_getElem?_getD,List.getElem?_eq_getElem hi];exact List.getElem_mem hi
  repeat' first|(refine cav (vs:=[hs.getD i nS]) (cap:=cap.toArray) (hf _ _ hmem) ?_ rfl rfl Fit.nil (has1 (has_elg (has_velg (by simp)) hi) (fun c hc=>hp c hc _ (by simp [hc]))) rfl;rintro _ _ ⟨rfl,rfl⟩)|(refine wo ?_;first|(refine ao ?_;first|refine aw ?_|refine oa ?_)|refine oa ?_|refine lv ?_|refine ixn ?_)|(refine gc ?_;first|(refine ci (fun hB=>?_) (fun hB=>?_) <;> try (exfalso;omega))|(refine cb (fun hB=>?_) (fun hB=>?_) <;> try (exfalso;omega)))|refine sq ?_|refine rg ?_|refine xc ?_|refine nl ?_|refine sk ?_|refine bk ?_|refine rt ?_|refine xb ?_
  ·exact r1 ⟨⟨i,rfl,fun _=>List.any_eq_true.2 ⟨_,hmem,hB⟩,fun _=>by omega⟩,rfl⟩
  ·refine lp (i + 1) ⟨by omega,fun j hj=>?_⟩
   by_cases e:j = i
   ·rw [e];exact hB
   ·exact h2 j (by omega)
 ·repeat' first|(refine wo ?_;first|(refine ao ?_;first|refine oa ?_)|refine oa ?_)|(refine gc ?_;first|(refine ci (fun hB=>?_) (fun hB=>?_) <;> try (exfalso;omega)))|refine sq ?_|refine rg ?_|refine xc ?_|refine nl ?_|refine xe ?_|refine rt ?_
  refine r1 ⟨⟨-1,rfl,by omega,fun h=>?_⟩,rfl⟩
  obtain ⟨l,hl1,hl2⟩:=List.any_eq_true.1 h
  obtain ⟨j,hj,rfl⟩:=List.mem_iff_getElem.1 hl1
  have:=h2 j (by omega)
  simp [List.getD_eq_getElem?_getD,hj,hl2] at this
theorem BContainsFunc_tr (s:Value) (hs:List Value) (ls:List (List Int)) (f:FuncId) (cap:List Value) (pre:List Ch) (p:List Int→Bool)
  (hp:∀ c ∈ pre,∀ A:List Ch,c ∈ A→Has A c) (hf:∀ h l,l ∈ ls→Tr Tryz.prog f (h :: cap) (vw h (By l) :: pre) [] fun v D=>v = .bool (p l)∧D = []) :
  Tr Tryz.prog 88 [s,.func (.func f) #[] cap.toArray] (vw s hs :: velg y8 hs ls :: pre) [] fun v D=>v = .bool (ls.any p)∧D = []:=by
 refine Tr.enter env _ Tryz.func88 (by kernel_rfl) rfl Tryz.ntmps88 rfl (has01 (has01 fun c hc b=>⟨(hp c hc [c] (by simp)).wr b,(hp c hc [c] (by simp)).rd b⟩)) fun w0=>?_
 repeat' first|(refine gca ?_;first|(refine ca (vs:=[s,.func (.func f) #[] cap.toArray]) (BIndexFunc_tr s hs ls f cap pre p hp hf) ?_ rfl Fit.nil (has1 (has_vw (by simp)) (has1 (has_velg (by simp)) (fun c hc=>hp c hc _ (by simp [hc])))) rfl;rintro _ _ ⟨⟨i,rfl,hi⟩,rfl⟩))|(refine wo ?_;first|(refine ao ?_;first|refine oa ?_)|refine oa ?_)|refine sq ?_|refine rg ?_|refine xc ?_|refine nl ?_|refine rt ?_
 refine r1 ⟨?_,rfl⟩
 congr 1;rw [Bool.eq_iff_iff,decide_eq_true_iff];exact hi
def blkE (ls:List (List Int)):Int:=if ls.length < 1∨65536 < ls.length∨(ls.getD 0 []).length < 1∨65535 < (ls.getD 0 []).length then 2 else if ls.any (fun l=>decide ((l.length:Int) ≠ ((ls.getD 0 []).length:Int))) then 2 else 0
theorem blkE_zero {ls:List (List Int)} (h:blkE ls = 0):(1 ≤ ls.length∧ls.length ≤ 65536)∧(1 ≤ (ls.getD 0 []).length∧(ls.getD 0 []).length ≤ 65535)∧∀ l ∈ ls,l.length = (ls.getD 0 []).length:=by
 unfold blkE at h
 split at h
 ·cases h
 ·split at h
  ·cases h
  ·rename_i h1 h2
   refine ⟨by omega,by omega,fun l hl=>Classical.byContradiction fun hn=>h2 (List.any_eq_true.2 ⟨l,hl,decide_eq_true (by omega)⟩)⟩
theorem may_tr (k s:Int):Tr Tryz.prog 85 [.agg #[I k,I s]] [] [] fun v D=>v = .bool (decide ((1 ≤ k∧k ≤ 65536)∧1 ≤ s∧s ≤ 65535))∧D = []:=by
 refine Tr.enter env _ Tryz.func85 (by kernel_rfl) rfl Tryz.ntmps85 rfl (by repeat (first | exact has00 | refine has01 ?_)) fun w0=>?_
 repeat' first|refine bx fun b=>?_|(refine wo ?_;first|(refine ao ?_;first|refine oa ?_)|refine oa ?_|refine ld ?_|refine gy ?_|refine gn ?_|(refine gsi (fun hB=>?_) (fun hB=>?_) <;> try (exfalso;omega)))|refine sq ?_|refine rg ?_|refine xc ?_|refine nl ?_|refine rt ?_
 all_goals refine r1 ⟨?_,rfl⟩
 all_goals first
  | rw [decide_eq_false (by omega)]
  | (congr 1;exact decide_eq_decide.2 ⟨fun h=>by omega,fun h=>by omega⟩)
theorem Check1_tr (b:Nat) (k s:Int) (h:Value) (l:List Int):Tr Tryz.prog 89 [h,ptr b] [vw h (By l),lpt b [I k,I s] 133] [] fun v D=>v = .bool (decide ((l.length:Int) ≠ s))∧D = []:=by
 refine Tr.enter env _ Tryz.func89 (by kernel_rfl) rfl Tryz.ntmps89 rfl (by repeat (first | exact has00 | refine has01 ?_)) fun w0=>?_
 repeat' first|(refine wo ?_;first|(refine ao ?_;first|refine oa ?_)|refine oa ?_|refine ldl ?_|refine lnm ?_)|refine sq ?_|refine rg ?_|refine xc ?_|refine nl ?_|refine rt ?_
 refine r1 ⟨?_,rfl⟩
 congr 1;simp
theorem BCheck_tr (s:Value) (hs:List Value) (ls:List (List Int)):Tr Tryz.prog 53 [s] [vw s hs,velg y8 hs ls] [] fun v D=>v = I (blkE ls)∧D = []:=by
 refine Tr.enter env _ Tryz.func53 (by kernel_rfl) rfl Tryz.ntmps53 rfl (by repeat (first | exact has00 | refine has01 ?_)) fun w0=>?_
 refine TC.elg (g:=y8) (hs:=hs) (ls:=ls) (fun hl=>?_) (hh:=has_velg memA)
 repeat' first|(refine gca ?_;first|(refine ca (may_tr _ _) ?_;rintro _ _ ⟨rfl,rfl⟩)|(refine ca (BContainsFunc_tr s hs ls _ [ptr b] [lpt b [I hs.length,I (ls.getD 0 []).length] 133] (fun l=>decide ((l.length:Int) ≠ (ls.getD 0 []).length)) lpt_has (fun h l _=>Check1_tr b _ _ h l)) ?_;rintro _ _ ⟨rfl,rfl⟩))|refine bdz ?_|refine al fun b=>?_|refine srz ?_|refine lda ?_|(refine wo ?_;first|(refine ao ?_;first|refine oa ?_)|refine oa ?_|refine lnm ?_|refine lv ?_|refine ln ?_|refine ix ?_|refine gy ?_|refine gn ?_|(refine gsn (fun hB=>?_) (fun hB=>?_) <;> try (exfalso;omega)))|(refine gc ?_;first|refine ct ?_|(refine ci (fun hB=>?_) (fun hB=>?_) <;> try (exfalso;omega))|(refine cb (fun hB=>?_) (fun hB=>?_) <;> try (exfalso;omega)))|refine sq ?_|refine rg ?_|refine xc ?_|refine nl ?_|refine sk ?_|refine rt ?_
 ·exact r1 ⟨by rw [blkE,if_pos (by omega)],rfl⟩
 ·change ¬((1 ≤ (hs.length:Int)∧(hs.length:Int) ≤ 65536)∧1 ≤ ((ls.getD 0 []).length:Int)∧((ls.getD 0 []).length:Int) ≤ 65535) at hB
  exact r1 ⟨by rw [blkE,if_pos (by omega)],rfl⟩
 all_goals have hsz:((1 ≤ (hs.length:Int)∧(hs.length:Int) ≤ 65536)∧1 ≤ ((ls.getD 0 []).length:Int)∧((ls.getD 0 []).length:Int) ≤ 65535):=by assumption
 ·exact r1 ⟨by rw [blkE,if_neg (by omega),if_pos hB],rfl⟩
 ·exact r1 ⟨by rw [blkE,if_neg (by omega),if_neg (by rw [hB];decide)],rfl⟩
end Go.Art
namespace Go.Art
open Go Go.Proofs Go.RowKit
def bxr (p q:Int):Int:=((BitVec.ofInt 8 p ^^^ BitVec.ofInt 8 q).toNat:Int)
theorem wrap_u8 (n:Int):IntKind.u8.wrap n = ((BitVec.ofInt 8 n).toNat:Int):=by
 have:IntKind.u8.wrap n = n % 256:=by simp [IntKind.wrap,IntKind.bits,IntKind.signed]
 rw [this,BitVec.toNat_ofInt];omega
theorem ofInt8 (p:BitVec 8):BitVec.ofInt 8 (p.toNat:Int) = p:=by
 rw [BitVec.ofInt_natCast];exact BitVec.ofNat_toNat _ _ |>.trans (by simp)
theorem bxr_range (a b:Int):0 ≤ bxr a b∧bxr a b ≤ 255:=by unfold bxr;have:=(BitVec.ofInt 8 a ^^^ BitVec.ofInt 8 b).isLt;omega
structure Tl (a v:Value) (n k:Nat):Prop where
 le:k ≤ n
 blk:v.ownBlock = a.ownBlock
 ex:∃ o c,v = .slice o (n - k) c∧n - k ≤ c∧c ≤ maxLen∧(k < n→∃ o' c',a = .slice (some o') n c'∧o = some (o'.add k))
theorem Tl.zero {w:World} {a:Value} {xs:List Value} (h:Sl w a xs):Tl a a xs.length 0:=by
 obtain ⟨o,c,rfl,h1,h2,h3⟩:=h
 refine ⟨Nat.zero_le _,rfl,o,c,rfl,by omega,h2,fun hlt=>?_⟩
 obtain ⟨x,rfl,_⟩:=h3 0 _ (List.getElem?_eq_getElem hlt)
 exact ⟨x,c,rfl,by rw [show x.add 0 = x by unfold Addr.add;simp]⟩
theorem Tl.sl {w:World} {a v:Value} {xs:List Value} {k:Nat} (t:Tl a v xs.length k) (h:Sl w a xs):Sl w v (xs.drop k):=by
 obtain ⟨o,c,rfl,h1,h2,h3⟩:=t.ex
 have hl:(xs.drop k).length = xs.length - k:=by simp
 refine ⟨o,c,by rw [hl],by rw [hl];exact h1,h2,fun i u hu=>?_⟩
 rw [List.getElem?_drop] at hu
 have hk:=(List.getElem?_eq_some_iff.1 hu).1
 obtain ⟨o',c',rfl,rfl⟩:=h3 (by omega)
 refine ⟨_,rfl,?_⟩
 rw [Addr_add_add _ _ _ (.inr trivial)]
 exact h.cell hu
theorem Tl.ad {a v:Value} {n k j:Nat} (t:Tl a v n k) (h:k + j < n):addrAt v j = addrAt a (k + j):=by
 obtain ⟨o,c,rfl,h1,h2,h3⟩:=t.ex
 obtain ⟨o',c',rfl,rfl⟩:=h3 (by omega)
 show (o'.add k).add j = o'.add (k + j)
 exact Addr_add_add _ _ _ (.inr trivial)
theorem Tl.next {a v:Value} {n k m:Nat} (t:Tl a v n k) (h:k + m ≤ n):Tl a (slSub v m (n - k)) n (k + m):=by
 have hb:=slSub_block v m (n - k)
 obtain ⟨o,c,rfl,h1,h2,h3⟩:=t.ex
 refine ⟨h,hb.trans t.blk,_,c - m,by rw [slSub,show n - (k + m) = n - k - m by omega],by omega,by omega,fun hlt=>?_⟩
 obtain ⟨o',c',rfl,rfl⟩:=h3 (by omega)
 refine ⟨o',c',rfl,?_⟩
 rw [if_neg (by omega)]
 simp only [Option.map_some]
 rw [Addr_add_add _ _ _ (.inr trivial)]
theorem Tl.head {a v:Value} {n k m:Nat} (t:Tl a v n k) (h:k + m ≤ n) (hm:0 < m):∃ c,slSub v 0 m = .slice (some (addrAt a k)) m c∧m ≤ c:=by
 obtain ⟨o,c,rfl,h1,h2,h3⟩:=t.ex
 obtain ⟨o',c',rfl,rfl⟩:=h3 (by omega)
 refine ⟨c,?_,by omega⟩
 simp only [slSub]
 rw [if_neg (by omega)]
 simp [addrAt,Addr.add]
theorem Tl.has {F:List Ch} {a v:Value} {xs:List Value} {k:Nat} (t:Tl a v xs.length k) (h:Has F (vw a xs)):Has F (vw v (xs.drop k)):=
 ⟨fun w hw=>t.sl (h.P w hw),fun _ h=>h,fun _ h=>h,fun b hb=>h.ft b (by
  rcases hb with hb | hb | hb
  ·exact hb.elim
  ·exact hb.elim
  ·refine .inr (.inr ⟨fun e=>hb.1 (by subst e;simp),?_⟩)
   rw [← t.blk];exact hb.2)⟩
section
variable {P:Program} {E:Env P} {n:Sh} {X:Cx} {s:List K} {fr:Fr} {A A':List Ch} {ops:Array Oper} {rest:List Oper} {d:Nat} {ty t t' el:TypeId} {pos:String} {after:Array Edge} {z v u:Value} {x y:Operand} {b j k sz by_:Nat} {w:World} {p q:Int}
theorem R_bxr (hx:ev fr x = some (y8 p)) (hy:ev fr y = some (y8 q)):OpV P n fr (.binOp .xor t x y t') ty w (y8 (bxr p q)) w:=R_bin hx hy (by
 simp only [binOp,Op.intBits]
 show Result.ok (Value.int .u8 (IntKind.u8.wrap (((BitVec.ofInt 8 p) ^^^ (BitVec.ofInt 8 q)).toNat:Int))) w = _
 rw [wrap_u8,ofInt8];rfl)
theorem R_idxP {m:Nat} {i:Int} {k1:IntKind} (ht:lk E.und t = some (.array m el)) (he:lk E.inf el = some (z,1,by_)) (hx:ev fr x = some (.pointer (some ⟨b,j,none⟩))) (hy:ev fr y = some (.int k1 i)) (h:0 ≤ i∧i < m) :
  OpV P n fr (.indexAddr t x y) ty w (.pointer (some ⟨b,j + i.toNat,none⟩)) w:=⟨fun a ha _ _ _ _=>by
 obtain ⟨inf,hi,_,hsz,_⟩:=E.info he
 simp only [execOp,ha.ev hx,ha.ev hy]
 simp [Instr.indexAt,asIntOf,run_underlying (P:=P) (E.un ht) w,h,sizeOf,typeInfo,hi,hsz,Instr.sureAddr,Addr.add_lit]⟩
theorem R_arr {m c:Nat} {ad:Addr} (ht:lk E.und t = some (.array m el)) (hx:ev fr x = some (.slice (some ad) m c)):OpV P n fr (.sliceToArrayPointer t x) ty w (.pointer (some ad)) w:=⟨fun a ha _ _ _ _=>by
 simp only [execOp,ha.ev hx]
 simp [Instr.arrayAt,run_underlying (P:=P) (E.un ht) w]⟩
theorem R_loadArr {vs:List Value} {dt:TypeDesc} {ad:Addr} (ht:lk E.und t = some dt) (hg:aggB dt = true) (hi:lk E.inf t = some (z,sz,by_)) (hx:ev fr x = some (.pointer (some ad))) (hv:∀ m u,vs[m]? = some u→w.cell? (ad.add m) = some u) (hl:vs.length = sz) :
  OpV P n fr (.load t x) ty w (.agg vs.toArray) w:=⟨fun a ha _ _ _ _=>by
 obtain ⟨inf,h1,_,h2,_⟩:=E.info hi
 have h3:=run_loadCells_list (P:=P) w ad vs hv
 rw [hl] at h3
 simp only [execOp,ha.ev hx]
 simp [Instr.loadAt,Instr.sureAddr,loadVar,aggB_t (w:=w) ht hg,sizeOf,typeInfo,h1,h2,h3]⟩
theorem R_slArr {m:Nat} (ht:lk E.und t = some (.array m el)) (he:lk E.inf el = some (z,1,by_)) (hx:ev fr x = some (.pointer (some ⟨b,0,none⟩))):OpV P n fr (.slice t x none none none) ty w (.slice (some ⟨b,0,none⟩) m m) w:=⟨fun a ha _ _ _ _=>by
 obtain ⟨inf,hi,_,hsz,_⟩:=E.info he
 simp only [execOp,ha.ev hx]
 simp [Instr.sliceAt,run_underlying (P:=P) (E.un ht) w,Instr.sliceBounds,Instr.sureAddr,sizeOf,typeInfo,hi,hsz,Addr.add]⟩
def lay (l:List Int) (k:Nat) (m:List Int):List Int:=l.take k ++ m ++ l.drop (k + m.length)
theorem lay_len {l m:List Int} {k:Nat} (h:k + m.length ≤ l.length):(lay l k m).length = l.length:=by unfold lay;simp;omega
theorem SO_copyO {e:TypeId} {a v:Value} {xs cs:List Value} {ad:Addr} {c:Nat} (hd:Nat.blt d n.n = true) (ht:lk E.und t = some (.slice e)) (he:lk E.inf e = some (z,1,by_)) (hown:OwnO w e a xs) (tl:Tl a v xs.length k) (hk:k + cs.length ≤ xs.length) (h0:0 < cs.length)
  (hx:ev fr x = some v) (hy:ev fr y = some (.slice (some ad) cs.length c)) (hsrc:∀ j u,cs[j]? = some u→w.cell? (ad.add j) = some u) (h1:∀ c ∈ cs,c.oneCell' = true)
  (h:∀ w',Upd w w' a.ownBlock.toList→OwnO w' e a (xs.take k ++ cs ++ xs.drop (k + cs.length))→SO E n X.Q s ops rest ((d,I cs.length) :: fr) w') :
  SO E n X.Q s ops (⟨some d,.call ⟨.builtin .copy,#[x,y],#[t,t']⟩,ty,pos,after,none⟩ :: rest) fr w:=by
 obtain ⟨inf,hi,_,hsz,_⟩:=E.info he
 rcases hown with ⟨_,rfl⟩ | ⟨g,o,cap,cur,rfl,hb,h2,h3,h4,h5⟩
 ·simp only [List.length_nil] at hk;omega
 ·obtain ⟨o1,c1,rfl,g1,g2,g3⟩:=tl.ex
  obtain ⟨o',c',e1,rfl⟩:=g3 (by omega)
  cases e1
  rw [Addr.add_lit] at hx
  have hrun:=run_copy_row (P:=P) w t t' ty e g (o + k) (xs.length - k) c1 ad cs.length c cur e cs (E.un ht) (by rw [hi];simp [hsz]) hb (by simp only [Nat.min_def];split <;> omega) hsrc (by omega) h1
  refine SO_v hd (w':=w.setRow g (cur.toList.take (o + k) ++ cs ++ cur.toList.drop (o + k + cs.length)).toArray) (v:=I cs.length) ⟨fun a ha' _ _ _ _=>?_⟩ (h _ (by simpa [Value.ownBlock] using Upd.setRow w g _) (.inr ⟨g,o,cap,_,?_,setRow_heap w g cur _ e _ hb,?_,h3,?_,?_⟩))
  ·simp only [execOp,resolve]
   simp [ha'.ev hx,ha'.ev hy,invoke,builtin,hrun,goInt]
  ·rw [show (xs.take k ++ cs ++ xs.drop (k + cs.length)).length = xs.length by simp;omega]
  ·rw [show (xs.take k ++ cs ++ xs.drop (k + cs.length)).length = xs.length by simp;omega];exact h2
  ·simp;omega
  ·rw [show (xs.take k ++ cs ++ xs.drop (k + cs.length)).length = xs.length by simp;omega]
   have hx':xs = (cur.toList.drop o).take xs.length:=h5.symm
   have hcl:cur.toList.length = cur.size:=by simp
   refine List.ext_getElem? fun i=>?_
   have hgx:∀ m,m < xs.length→xs[m]? = cur.toList[o + m]?:=fun m hm=>by
    conv=>lhs;rw [hx']
    rw [List.getElem?_take,if_pos hm,List.getElem?_drop]
   by_cases hi':i < xs.length
   ·rw [List.getElem?_take,if_pos hi',List.getElem?_drop]
    simp only [List.getElem?_append,List.getElem?_take,List.getElem?_drop,List.length_append,List.length_take]
    rw [show min (o + k) cur.toList.length = o + k by omega,show min k xs.length = k by omega]
    by_cases c1:i < k
    ·rw [if_pos (by omega),if_pos (by omega),if_pos (by omega),if_pos (by omega),if_pos (by omega),if_pos c1,hgx i hi']
    ·by_cases c2:i < k + cs.length
     ·rw [if_pos (by omega),if_neg (by omega),if_pos (by omega),if_neg (by omega)]
      congr 1;omega
     ·rw [if_neg (by omega),if_neg (by omega),hgx _ (by omega)]
      congr 1;omega
   ·rw [List.getElem?_eq_none (by simp;omega),List.getElem?_eq_none (by simp;omega)]
end
end Go.Art
namespace Go.Art
open Go Go.RowKit
section
variable {F:Fence} {m:Nat} {P:Program} {md:Region.Mode} {ops:Array Oper} {Q:Exit→Act→World→Prop} {S:World→Prop}
def YSg (P:Program) (ops:Array Oper) (S:World→Prop) (o:Oper) (v:Value) (a:Act):Prop:=
 (Region.wanted o (yielded ops a.tmps) = true∧∀ w,S w→(execOp a.eval o).run P w = .ok (.value v) w∧o.about P w a.eval = none)∨(Region.wanted o (yielded ops a.tmps) = false∧v = undef∧∀ w,S w→o.about P w a.eval = none)
theorem wpAnyS_takeG {i d:Nat} {o:Op} {ty:TypeId} {pos:String} {after:Array Edge} {g:Option (Nat × Bool)} {v:Value} (hro:F.round = none) (hi:ops[i]? = some ⟨some d,o,ty,pos,after,g⟩) (hs:Region.noSelect ops = true) (hQ:∀ c a w,¬ Q (.panic c) a w) :
  ∀ (fuel:Nat) (listed:Array Bool) (a:Act) (w:World),Region.free md ops listed i = true→(Region.ready md ops listed).contains i = true→YSg P ops S ⟨some d,o,ty,pos,after,g⟩ v a→S w →
   wpAnyS F m P md ops Q S fuel (listed.setIfInBounds i true) (a.put (some d) v) w→wpAnyS F m P md ops Q S (fuel + 1) listed a w:=by
 have hsel:=fun j oj cs b (h:ops[j]? = some oj)=>Region.noSelect_spec hs j oj cs b h
 have now:∀ (K:Act→World→Prop) (a:Act) (w:World),YSg P ops S ⟨some d,o,ty,pos,after,g⟩ v a→S w→K (a.put (some d) v) w→wpOpIn F m P ops Q i K a w:=fun K a w hy hS h=>by
  unfold wpOpIn
  simp only [hi]
  rcases hy with ⟨hw,hy⟩ | ⟨hw,rfl,hy⟩
  ·rw [if_pos hw]
   simp only [Oper.wpIn,hro,Oper.semAt_none,(hy w hS).1,Oper.uponIn]
   exact ⟨fun f hf=>(by rw [(hy w hS).2] at hf;cases hf),h⟩
  ·rw [if_neg (by rw [hw];decide)]
   exact ⟨fun f hf=>(by rw [hy w hS] at hf;cases hf),h⟩
 have gen:∀ (fuel:Nat) (listed:Array Bool) (a:Act) (w:World),(∀ j oj,ops[j]? = some oj→j ≠ i→listed.getD j true = false→(∀ e ∈ oj.after,Region.binds md e = true→e.on ≠ i)→Oper.apart ops ⟨some d,o,ty,pos,after,g⟩ oj = true) →
   i ∈ Region.ready md ops listed→YSg P ops S ⟨some d,o,ty,pos,after,g⟩ v a→S w→wpAnyS F m P md ops Q S fuel (listed.setIfInBounds i true) (a.put (some d) v) w→wpAnyS F m P md ops Q S (fuel + 1) listed a w:=by
  intro fuel
  induction fuel with
  | zero=>
   intro listed a w _ hr hy hS H
   refine ⟨fun h=>(by rw [h] at hr;cases hr),fun j hj=>?_⟩
   by_cases hji:j = i
   ·subst hji;exact now _ a w hy hS ⟨hS,H⟩
   ·have:=ready_mono hj hji
    rw [H.1] at this
    cases this
  | succ fuel ih=>
   intro listed a w hfree hr hy hS H
   refine ⟨fun h=>(by rw [h] at hr;cases hr),fun j hj=>?_⟩
   by_cases hji:j = i
   ·subst hji;exact now _ a w hy hS ⟨hS,H⟩
   ·obtain ⟨hjun,oj,hoj,hall⟩:=mem_ready.1 hj
    have hnot:∀ e ∈ oj.after,Region.binds md e = true→e.on ≠ i:=fun e he hb heq=>by
     have h1:=hall e he hb
     have h0:=(mem_ready.1 hr).1
     rw [heq] at h1
     rcases Nat.lt_or_ge i listed.size with h' | h'
     ·simp [h'] at h0 h1;rw [h0] at h1;cases h1
     ·simp [Array.getElem?_eq_none h'] at h1
    have hap:=hfree j oj hoj hji hjun hnot
    obtain ⟨p1,p2,p3⟩:=Oper.apart_spec hap
    have hap2:Oper.apart ops ⟨some d,.assign (.const v),ty,pos,after,none⟩ oj = true:=by
     have q1:=p1 d rfl
     have q2:=p2 d rfl
     have q3:Oper.looksAt ops ⟨some d,.assign (.const v),ty,pos,after,none⟩ = []:=rfl
     simp only [Oper.apart,q3]
     have r1:(oj.looksAt ops).contains d = false:=by simpa using q1
     have r2:(oj.dst != some d) = true:=by simpa using q2
     rw [r1,r2]
     cases oj.dst <;> rfl
    have hyf:YieldsFenced P ops ⟨some d,.assign (.const v),ty,pos,after,none⟩ v a:=⟨.inl ⟨rfl,fun w=>rfl⟩,fun w=>rfl⟩
    have h2:=wpOpIn_put hro hoj hap2 (fun cs b e=>by cases e) (fun cs b=>hsel j oj cs b hoj) (fun c a w h=>absurd h (hQ c _ w)) hyf (H.2 j (ready_mono hj hji))
    have h3:=wpOpIn_own hro hoj h2
    refine wpOpIn_mono (fun a' w' h4=>?_) h3
    obtain ⟨⟨u,df,rfl⟩,_,hS',h5⟩:=h4
    have hy':YSg P ops S ⟨some d,o,ty,pos,after,g⟩ v (({ a with defers:=df }:Act).put oj.dst u):=by
     have e1:=wanted_put ⟨some d,o,ty,pos,after,g⟩ ({ a with defers:=df }:Act) oj.dst u p3
     rcases hy with ⟨hw,hy⟩ | ⟨hw,hv,hy⟩
     ·refine .inl ⟨by rw [e1];exact hw,fun w hw=>?_⟩
      rw [execOp_put _ (fun cs b=>hsel i _ cs b hi) ({ a with defers:=df }:Act) oj.dst u p3,about_put _ w ({ a with defers:=df }:Act) oj.dst u p3]
      exact hy w hw
     ·refine .inr ⟨by rw [e1];exact hw,hv,fun w hw=>?_⟩
      rw [about_put _ w ({ a with defers:=df }:Act) oj.dst u p3]
      exact hy w hw
    have hfree':∀ k ok,ops[k]? = some ok→k ≠ i→(listed.setIfInBounds j true).getD k true = false→(∀ e ∈ ok.after,Region.binds md e = true→e.on ≠ i)→Oper.apart ops ⟨some d,o,ty,pos,after,g⟩ ok = true:=fun k ok hk hki hun hno=>by
     refine hfree k ok hk hki ?_ hno
     by_cases hjk:j = k
     ·subst hjk;exact hjun
     ·rw [getD_set_ne true hjk] at hun;exact hun
    refine ⟨hS',ih (listed.setIfInBounds j true) _ w' hfree' (ready_mono hr (Ne.symm hji)) hy' hS' ?_⟩
    rw [Array.setIfInBounds_comm _ _ hji]
    exact h5
 intro fuel listed a w hf hr hy hS H
 exact gen fuel listed a w (Region.free_spec hi hf) (by simpa using hr) hy hS H
end
section
variable {P:Program} {E:Env P} {n:Sh} {X:Cx} {s:List K} {fr:Fr} {A:List Ch} {ops:Array Oper} {d j dj:Nat} {o:Op} {ty:TypeId} {pos:String} {after:Array Edge} {v:Value} {fuel:Nat} {listed:Array Bool} {S:World→Prop} {b b':Bool}
theorem tkg (i:Nat) (hv:∀ w,S w→OpV P n fr o ty w v w) (k:TS E n X s S ops fuel (listed.setIfInBounds i true) ((d,v) :: fr) A) (hi:ops[i]? = some ⟨some d,o,ty,pos,after,some (j,b)⟩:=by rfl) (hj:(ops[j]?).bind (·.dst) = some dj:=by rfl) (hg:get fr dj = some (.bool b):=by rfl) (hlt:Nat.blt dj n.n = true:=by rfl)
  (hs:Region.noSelect ops = true:=by kernel_rfl) (hf:Region.free .any ops listed i = true:=by kernel_rfl) (hr:(Region.ready .any ops listed).contains i = true:=by kernel_rfl) (hrd:n.r = none:=by rfl) (hd:Nat.blt d n.n = true:=by rfl)
  (hab:∀ w ρ,(⟨some d,o,ty,pos,after,some (j,b)⟩ : Oper).about P w ρ = none:=by exact fun _ _=>rfl):TS E n X s S ops (fuel + 1) listed fr A:=
 ⟨fun w hw hS a ha=>wpAnyS_takeG (by simp [FF,hrd]) hi hs (fun c a w h=>h.1 c rfl) fuel listed a w hf hr (.inl ⟨by simp only [Region.wanted,yielded_of ha hj hg hlt,beq_self_eq_true],fun w' hw'=>⟨(hv w' hw').run a ha _ _ _ _,hab _ _⟩⟩) hS (k.run w hw hS _ (ha.put hd v))⟩
theorem tkn (i:Nat) (k:TS E n X s S ops fuel (listed.setIfInBounds i true) ((d,undef) :: fr) A) (hi:ops[i]? = some ⟨some d,o,ty,pos,after,some (j,b')⟩:=by rfl) (hj:(ops[j]?).bind (·.dst) = some dj:=by rfl) (hg:get fr dj = some (.bool b):=by rfl) (hb:b = !b':=by rfl) (hlt:Nat.blt dj n.n = true:=by rfl)
  (hs:Region.noSelect ops = true:=by kernel_rfl) (hf:Region.free .any ops listed i = true:=by kernel_rfl) (hr:(Region.ready .any ops listed).contains i = true:=by kernel_rfl) (hrd:n.r = none:=by rfl) (hd:Nat.blt d n.n = true:=by rfl)
  (hab:∀ w ρ,(⟨some d,o,ty,pos,after,some (j,b')⟩ : Oper).about P w ρ = none:=by exact fun _ _=>rfl):TS E n X s S ops (fuel + 1) listed fr A:=
 ⟨fun w hw hS a ha=>wpAnyS_takeG (by simp [FF,hrd]) hi hs (fun c a w h=>h.1 c rfl) fuel listed a w hf hr (.inr ⟨by subst hb;simp only [Region.wanted,yielded_of ha hj hg hlt];cases b' <;> rfl,rfl,fun w' _=>hab _ _⟩) hS (k.run w hw hS _ (ha.put hd undef))⟩
theorem tkga (i:Nat) (k:TS E n X s S ops fuel (listed.setIfInBounds i true) ((d,v) :: fr) A) (hi:ops[i]? = some ⟨some d,o,ty,pos,after,some (j,b)⟩:=by rfl) (hv:evOp E fr o = some v:=by rfl) (hj:(ops[j]?).bind (·.dst) = some dj:=by rfl) (hg:get fr dj = some (.bool b):=by rfl) (hlt:Nat.blt dj n.n = true:=by rfl)
  (hs:Region.noSelect ops = true:=by kernel_rfl) (hf:Region.free .any ops listed i = true:=by kernel_rfl) (hr:(Region.ready .any ops listed).contains i = true:=by kernel_rfl) (hrd:n.r = none:=by rfl) (hd:Nat.blt d n.n = true:=by rfl)
  (hab:∀ w ρ,(⟨some d,o,ty,pos,after,some (j,b)⟩ : Oper).about P w ρ = none:=by exact fun _ _=>rfl):TS E n X s S ops (fuel + 1) listed fr A:=tkg i (fun _ _=>R_auto hv) k hi hj hg hlt hs hf hr hrd hd hab
theorem Holds.dup {a:Act} (ha:Holds n a fr) {t:Nat} {v:Value} (hg:get fr t = some v):Holds n a ((t,v) :: fr):=⟨ha.size,ha.defers,fun u x hx=>by
 simp only [get] at hx
 by_cases htu:t = u
 ·subst htu;simp at hx;subst hx;exact ha.slot _ _ hg
 ·have:(Nat.beq t u) = false:=nbeq_f htu
  simp only [this,cond_false] at hx
  exact ha.slot _ _ hx⟩
theorem TS.split {t:Nat} (h1:b = true→TS E n X s S ops fuel listed ((t,.bool true) :: fr) A) (h2:b = false→TS E n X s S ops fuel listed ((t,.bool false) :: fr) A) (hg:get fr t = some (.bool b)):TS E n X s S ops fuel listed fr A:=by
 cases b with
 | true=>exact ⟨fun w hw hS a ha=>(h1 rfl).run w hw hS a (ha.dup hg)⟩
 | false=>exact ⟨fun w hw hS a ha=>(h2 rfl).run w hw hS a (ha.dup hg)⟩
end
end Go.Art
namespace Go.Art
open Go Go.Proofs Go.RowKit
attribute [local irreducible] Fit pt own ro vw mpc lpt vels rels mow lrc dfr
attribute [local irreducible] lmp lme mit velg relg
theorem IIndexFunc_tr (s:Value) (l:List Int) (f:FuncId) (cap:List Value) (pre:List Ch) (p:Int→Bool)
  (hp:∀ c ∈ pre,∀ A:List Ch,c ∈ A→Has A c) (hf:∀ x,x ∈ l→Tr Tryz.prog f (I x :: cap) pre [] fun v D=>v = .bool (p x)∧D = []) :
  Tr Tryz.prog 151 [s,.func (.func f) #[] cap.toArray] (vw s (Is l) :: pre) [] fun v D=>(∃ i:Int,v = I i∧(0 ≤ i ↔ l.any p = true))∧D = []:=by
 refine Tr.enter env _ Tryz.func151 (by kernel_rfl) rfl Tryz.ntmps151 rfl (has01 fun c hc b=>⟨(hp c hc [c] (by simp)).wr b,(hp c hc [c] (by simp)).rd b⟩) fun w0=>?_
 refine TC.leni (l:=l) fun hlen=>?_
 repeat' first|(refine wo ?_;first|refine oa ?_|refine lnm ?_)|refine sq ?_|refine rg ?_|refine xc ?_|refine nl ?_|refine bk ?_
 refine TC.loop (ι:=Nat) (fun i=>[(8,I i)]) (fun _=>[]) (fun i=>i ≤ l.length∧∀ j,j < i→p (l.getD j 0) = false) (fun i=>l.length - i) 0 [0,1,6,7] ⟨by omega,by omega⟩ ?_
 rintro i ⟨h1,h2⟩
 by_cases hi:i < l.length
 ·have hmem:l.getD i 0 ∈ l:=mem_getD.2 ⟨i,hi,rfl⟩
  generalize hy:l.getD i 0 = y at *
  repeat' first|refine lie hy ?_|(refine cav (vs:=[I y]) (cap:=cap.toArray) (hf _ hmem) ?_ rfl rfl Fit.nil (fun c hc=>hp c hc _ (by simp [hc])) rfl;rintro _ _ ⟨rfl,rfl⟩)|(refine wo ?_;first|(refine ao ?_;first|refine aw ?_|refine oa ?_)|refine oa ?_|refine ixmn ?_)|(refine gc ?_;first|(refine ci (fun hB=>?_) (fun hB=>?_) <;> try (exfalso;omega))|(refine cb (fun hB=>?_) (fun hB=>?_) <;> try (exfalso;omega)))|refine sq ?_|refine rg ?_|refine xc ?_|refine nl ?_|refine sk ?_|refine bk ?_|refine rt ?_|refine xb ?_
  ·exact r1 ⟨⟨i,rfl,fun _=>List.any_eq_true.2 ⟨_,hmem,hB⟩,fun _=>by omega⟩,rfl⟩
  ·refine lp (i + 1) ⟨by omega,fun j hj=>?_⟩
   by_cases e:j = i
   ·rw [e,hy];exact hB
   ·exact h2 j (by omega)
 ·repeat' first|(refine wo ?_;first|(refine ao ?_;first|refine oa ?_)|refine oa ?_)|(refine gc ?_;first|(refine ci (fun hB=>?_) (fun hB=>?_) <;> try (exfalso;omega)))|refine sq ?_|refine rg ?_|refine xc ?_|refine nl ?_|refine xe ?_|refine rt ?_
  refine r1 ⟨⟨-1,rfl,by omega,fun h=>?_⟩,rfl⟩
  obtain ⟨x,hl1,hl2⟩:=List.any_eq_true.1 h
  obtain ⟨j,hj,rfl⟩:=mem_getD.1 hl1
  have:=h2 j (by omega)
  rw [hl2] at this;cases this
theorem IContainsFunc_tr (s:Value) (l:List Int) (f:FuncId) (cap:List Value) (pre:List Ch) (p:Int→Bool)
  (hp:∀ c ∈ pre,∀ A:List Ch,c ∈ A→Has A c) (hf:∀ x,x ∈ l→Tr Tryz.prog f (I x :: cap) pre [] fun v D=>v = .bool (p x)∧D = []) :
  Tr Tryz.prog 122 [s,.func (.func f) #[] cap.toArray] (vw s (Is l) :: pre) [] fun v D=>v = .bool (l.any p)∧D = []:=by
 refine Tr.enter env _ Tryz.func122 (by kernel_rfl) rfl Tryz.ntmps122 rfl (has01 fun c hc b=>⟨(hp c hc [c] (by simp)).wr b,(hp c hc [c] (by simp)).rd b⟩) fun w0=>?_
 repeat' first|(refine gca ?_;first|(refine ca (vs:=[s,.func (.func f) #[] cap.toArray]) (IIndexFunc_tr s l f cap pre p hp hf) ?_ rfl Fit.nil (has1 (has_vw (by simp)) (fun c hc=>hp c hc _ (by simp [hc]))) rfl;rintro _ _ ⟨⟨i,rfl,hi⟩,rfl⟩))|(refine wo ?_;first|(refine ao ?_;first|refine oa ?_)|refine oa ?_)|refine sq ?_|refine rg ?_|refine xc ?_|refine nl ?_|refine rt ?_
 refine r1 ⟨?_,rfl⟩
 congr 1;rw [Bool.eq_iff_iff,decide_eq_true_iff];exact hi
abbrev TAl:TypeId:=99
def farB (m x:Int):Bool:=decide (x < 0∨m < x)
def alE (tot:Int) (cut oth:List Int):Int:=if tot < 1∨1099511627776 < tot∨cut.length < 1∨65536 < cut.length∨oth.length ≠ cut.length then 6 else if cut.any (farB tot) || oth.any (farB (cut.length - 1)) then 6 else 0
theorem far1_tr (m x:Int) (b:Nat):Tr Tryz.prog 174 [I x,ptr b] [lpt b [I m] 3] [] fun v D=>v = .bool (farB m x)∧D = []:=by
 refine Tr.enter env _ Tryz.func174 (by kernel_rfl) rfl Tryz.ntmps174 rfl (by repeat (first | exact has00 | refine has01 ?_)) fun w0=>?_
 repeat' first|(refine wo ?_;first|(refine ao ?_;first|refine oa ?_)|refine oa ?_|refine ldl ?_|refine gy ?_|refine gn ?_|(refine gsi (fun hB=>?_) (fun hB=>?_) <;> try (exfalso;omega)))|refine sq ?_|refine rg ?_|refine xc ?_|refine nl ?_|refine rt ?_
 all_goals refine r1 ⟨?_,rfl⟩
 all_goals unfold farB
 all_goals first
  | rw [decide_eq_true (show x < 0∨m < x by omega)]
  | (congr 1;exact decide_eq_decide.2 ⟨fun h=>by omega,fun h=>by omega⟩)
theorem far_tr (m:Int):Tr Tryz.prog 173 [I m] [] [] fun v D=>∃ b,v = .func (.func 174) #[] #[ptr b]∧D = [pt b [I m] 3]:=by
 refine Tr.enter env _ Tryz.func173 (by kernel_rfl) rfl Tryz.ntmps173 rfl (by repeat (first | exact has00 | refine has01 ?_)) fun w0=>?_
 repeat' first|refine bx1 fun b=>?_|(refine wo ?_;first|refine oa ?_)|refine sq ?_|refine rg ?_|refine xc ?_|refine nl ?_|refine rt ?_
 exact r1 ⟨b,rfl,rfl⟩
theorem AlCheck_tr (tot:Int) (cv ov:Value) (cut oth:List Int) (hc:cv.oneCell' = true) (ho:ov.oneCell' = true):Tr Tryz.prog 162 [.agg #[I tot,cv,ov]] [vw cv (Is cut),vw ov (Is oth)] [] fun v D=>v = I (alE tot cut oth)∧D = []:=by
 refine Tr.enter env _ Tryz.func162 (by kernel_rfl) rfl Tryz.ntmps162 rfl (by repeat (first | exact has00 | refine has01 ?_)) fun w0=>?_
 refine TC.leni (l:=cut) fun hl1=>?_
 refine TC.leni (l:=oth) fun hl2=>?_
 repeat' first|refine bx fun b=>?_|(refine wo ?_;first|(refine ao ?_;first|refine oa ?_)|refine oa ?_|refine ld ?_|refine lnm ?_|refine gy ?_|refine gn ?_|(refine gsi (fun hB=>?_) (fun hB=>?_) <;> try (exfalso;omega)))|(refine gc ?_;first|refine ct ?_|(refine cn (fun hB=>?_) (fun hB=>?_) <;> try (exfalso;omega)))|refine sq ?_|refine rg ?_|refine xc ?_|refine nl ?_|refine sk ?_|refine rt ?_
 ·exact r1 ⟨by rw [alE,if_pos (by omega)],rfl⟩
 ·exact r1 ⟨by rw [alE,if_pos (by omega)],rfl⟩
 ·exact r1 ⟨by rw [alE,if_pos (by omega)],rfl⟩
 ·exact r1 ⟨by rw [alE,if_pos (by omega)],rfl⟩
 ·exact r1 ⟨by rw [alE,if_pos (by omega)],rfl⟩
 rw [show alE tot cut oth = if cut.any (farB tot) || oth.any (farB (cut.length - 1)) then 6 else 0 by rw [alE,if_neg (by omega)]]
 have hcl:cut.length ≤ 65536:=by omega
 refine rs (fun w=>w.heap[b]? = some (.cells #[I tot,cv,ov] TAl (0,0))) ?_ (fun w hw=>pt_at memA hw)
 refine tka 0 ?_
 refine tkl 1 (cs:=[I tot,cv,ov]) (fun w h=>h) ?_
 refine tka 2 ?_
 refine tka 3 ?_
 refine tkl 4 (cs:=[I tot,cv,ov]) (fun w h=>h) ?_
 refine t1 5 ?_
 refine cav (vs:=[I tot]) (cap:=#[]) (far_tr tot) ?_
 rintro _ _ ⟨b1,rfl,rfl⟩
 repeat' first|refine nl ?_
 refine te (fun w hw=>pt_at memA hw) ?_
 refine t1 6 ?_
 refine ca (IContainsFunc_tr cv cut _ [ptr b1] [lpt b1 [I tot] 3] (farB tot) lpt_has (fun x _=>far1_tr tot x b1)) ?_
 rintro _ _ ⟨rfl,rfl⟩
 repeat' first|refine nl ?_
 refine te (fun w hw=>pt_at memA hw) ?_
 refine tka 7 ?_
 refine TS.split (t:=38) (fun h1=>?_) (fun h1=>?_) rfl
 ·rw [h1]
  refine tkn 8 ?_
  refine tkn 9 ?_
  refine tkn 10 ?_
  refine tkn 11 ?_
  refine tkn 12 ?_
  refine t1 13 ?_
  repeat' first|(refine wo ?_;first|refine gn ?_)|refine nl ?_
  refine te (fun w hw=>pt_at memA hw) ?_
  refine t1 14 ?_
  repeat' first|(refine wo ?_;first|refine gn ?_)|refine nl ?_
  refine te (fun w hw=>pt_at memA hw) ?_
  refine tka 15 ?_
  refine t0 ?_
  repeat' first|(refine wo ?_;first|refine oa ?_)|(refine gc ?_;first|refine ct ?_)|refine sq ?_|refine rg ?_|refine xc ?_|refine nl ?_|refine rt ?_
  exact r1 ⟨rfl,rfl⟩
 ·rw [h1]
  refine tkga 8 ?_
  refine tkg 9 (v:=ov) (fun w h=>R_load (E:=env) rfl rfl rfl (blk_cell h rfl)) ?_
  refine tkga 10 ?_
  refine tkga 11 ?_
  refine tkg 12 (v:=I ((cut.length:Int) - 1)) (fun w h=>R_wrap (R_auto (E:=env) rfl) (by omega)) ?_
  refine t1 13 ?_
  refine gy ?_
  refine cav (vs:=[I ((cut.length:Int) - 1)]) (cap:=#[]) (far_tr _) ?_
  rintro _ _ ⟨b2,rfl,rfl⟩
  repeat' first|refine nl ?_
  refine te (fun w hw=>pt_at memA hw) ?_
  refine t1 14 ?_
  refine gy ?_
  refine ca (IContainsFunc_tr ov oth _ [ptr b2] [lpt b2 [I ((cut.length:Int) - 1)] 3] (farB (cut.length - 1)) lpt_has (fun x _=>far1_tr _ x b2)) ?_
  rintro _ _ ⟨rfl,rfl⟩
  repeat' first|refine nl ?_
  refine te (fun w hw=>pt_at memA hw) ?_
  refine tka 15 ?_
  refine t0 ?_
  repeat' first|(refine wo ?_;first|refine oa ?_)|(refine gc ?_;first|(refine cb (fun hB=>?_) (fun hB=>?_) <;> try (exfalso;omega)))|refine sq ?_|refine rg ?_|refine xc ?_|refine nl ?_|refine sk ?_|refine rt ?_
  ·exact r1 ⟨by rw [hB];first | done | rfl,rfl⟩
  ·exact r1 ⟨by rw [hB];first | done | rfl,rfl⟩
def alPick (tot:Int) (cut oth:List Int) (c l:Int):Int:=if l < cut.getD c.toNat 0 then c else oth.getD c.toNat 0
theorem AlPick_tr (tot c l:Int) (cv ov:Value) (cut oth:List Int) (hc:cv.oneCell' = true) (ho:ov.oneCell' = true) (hE:alE tot cut oth = 0) (h1:0 ≤ c∧c < cut.length) (h2:0 ≤ l∧l < tot) :
  Tr Tryz.prog 164 [.agg #[I tot,cv,ov],I c,I l] [vw cv (Is cut),vw ov (Is oth)] [] fun v D=>v = tup2 (I (alPick tot cut oth c l)) (I 0)∧D = []:=by
 have hol:oth.length = cut.length:=by
  unfold alE at hE
  split at hE
  ·cases hE
  ·omega
 refine Tr.enter env _ Tryz.func164 (by kernel_rfl) rfl Tryz.ntmps164 rfl (by repeat (first | exact has00 | refine has01 ?_)) fun w0=>?_
 repeat' first|(refine gca ?_;first|(refine ca (AlCheck_tr tot cv ov cut oth hc ho) ?_;rintro _ _ ⟨rfl,rfl⟩;rw [hE]))|refine bx fun b=>?_|refine lda ?_|(refine wo ?_;first|(refine ao ?_;first|refine oa ?_)|refine oa ?_|refine ld ?_|refine lnm ?_|refine ixm ?_|refine li ?_|refine gy ?_|(refine gsi (fun hB=>?_) (fun hB=>?_) <;> try (exfalso;omega)))|(refine gc ?_;first|refine cf ?_|(refine ci (fun hB=>?_) (fun hB=>?_) <;> try (exfalso;omega)))|refine sq ?_|refine rg ?_|refine xc ?_|refine nl ?_|refine sk ?_|refine bk ?_|refine rt ?_|refine xb ?_
 ·refine r2 ⟨?_,rfl⟩
  unfold alPick;rw [if_pos hB]
 ·refine r2 ⟨?_,rfl⟩
  unfold alPick;rw [if_neg hB]
end Go.Art
namespace Go.Art
open Go Go.Proofs Go.RowKit
attribute [local irreducible] Fit pt own ro vw mpc lpt vels rels mow lrc dfr
attribute [local irreducible] lmp lme mit velg relg
theorem RwCheck_tr (tot k:Int) (cv ov:Value) (cut oth:List Int) (hc:cv.oneCell' = true) (ho:ov.oneCell' = true) (hE:alE tot cut oth = 0):Tr Tryz.prog 153 [.agg #[I tot,cv,ov],I k] [vw cv (Is cut),vw ov (Is oth)] []
  fun v D=>v = I (if k < 1∨65536 < k∨k < cut.length then 3 else 0)∧D = []:=by
 refine Tr.enter env _ Tryz.func153 (by kernel_rfl) rfl Tryz.ntmps153 rfl (by repeat (first | exact has00 | refine has01 ?_)) fun w0=>?_
 repeat' first|(refine gca ?_;first|(refine ca (AlCheck_tr tot cv ov cut oth hc ho) ?_;rintro _ _ ⟨rfl,rfl⟩;rw [hE]))|refine bx fun b=>?_|refine lda ?_|(refine wo ?_;first|(refine ao ?_;first|refine oa ?_)|refine oa ?_|refine ld ?_|refine lnm ?_|refine gy ?_|refine gn ?_|(refine gsi (fun hB=>?_) (fun hB=>?_) <;> try (exfalso;omega)))|(refine gc ?_;first|refine ct ?_|refine cf ?_|(refine ci (fun hB=>?_) (fun hB=>?_) <;> try (exfalso;omega)))|refine sq ?_|refine rg ?_|refine xc ?_|refine nl ?_|refine sk ?_|refine bk ?_|refine rt ?_|refine xb ?_
 ·exact r1 ⟨by rw [if_pos (by omega)],rfl⟩
 ·exact r1 ⟨by rw [if_pos (by omega)],rfl⟩
 ·exact r1 ⟨by rw [if_pos (by omega)],rfl⟩
 ·exact r1 ⟨by rw [if_neg (by omega)],rfl⟩
def plcR (tot:Int) (cut oth:List Int) (st:BitVec 64):Int × BitVec 64:=
 (alPick tot cut oth (sdraw cut.length st).1 (sdraw tot.toNat (sdraw cut.length st).2).1,(sdraw tot.toNat (sdraw cut.length st).2).2)
theorem place_tr (tot:Int) (cv ov:Value) (cut oth:List Int) (b r:Nat) (st:BitVec 64) (used:Int) (hu:0 ≤ used∧used ≤ 1000) (hc:cv.oneCell' = true) (ho:ov.oneCell' = true) (hE:alE tot cut oth = 0) :
  Tr Tryz.prog 154 [.agg #[I tot,cv,ov],ptr b] [vw cv (Is cut),vw ov (Is oth)] (lotP b r st used false) fun v D=>v = tup2 (I (plcR tot cut oth st).1) (I 0)∧D = lotP b r (plcR tot cut oth st).2 (used + 2) false:=by
 have hb:(1 ≤ tot∧tot ≤ 1099511627776)∧1 ≤ cut.length∧cut.length ≤ 65536:=by
  unfold alE at hE
  split at hE
  ·cases hE
  ·omega
 have e1:ldraw cut.length st used = ((((sdraw cut.length st).1:Int),0),((sdraw cut.length st).2,used + 1)):=by
  unfold ldraw;rw [if_pos (by omega),Int.toNat_natCast]
 have h1:=Draw_tr b r st used cut.length (by omega)
 rw [e1] at h1
 dsimp only at h1
 have l1:=sdraw_lt (n:=cut.length) (by omega) st
 unfold plcR
 generalize (sdraw cut.length st).1 = c at *
 generalize (sdraw cut.length st).2 = st1 at *
 have e2:ldraw tot st1 (used + 1) = ((((sdraw tot.toNat st1).1:Int),0),((sdraw tot.toNat st1).2,used + 1 + 1)):=by
  unfold ldraw;rw [if_pos (by omega)]
 have h2:=Draw_tr b r st1 (used + 1) tot (by omega)
 rw [e2] at h2
 dsimp only at h2
 have l2:=sdraw_lt (n:=tot.toNat) (by omega) st1
 generalize (sdraw tot.toNat st1).1 = l at *
 generalize (sdraw tot.toNat st1).2 = st2 at *
 rw [show used + 1 + 1 = used + 2 by omega] at h2
 refine Tr.enter env _ Tryz.func154 (by kernel_rfl) rfl Tryz.ntmps154 rfl (by repeat (first | exact has00 | refine has01 ?_)) fun w0=>?_
 repeat' first|(refine gca ?_;first|(refine ca h1 ?_;rintro _ _ ⟨rfl,rfl⟩)|(refine ca h2 ?_;rintro _ _ ⟨rfl,rfl⟩)|(refine ca (AlPick_tr tot c l cv ov cut oth hc ho hE (by omega) (by omega)) ?_;rintro _ _ ⟨rfl,rfl⟩))|refine bx fun b=>?_|refine lda ?_|(refine wo ?_;first|(refine ao ?_;first|refine oa ?_)|refine oa ?_|refine ld ?_|refine lnm ?_)|(refine gc ?_;first|refine cf ?_)|refine sq ?_|refine rg ?_|refine xc ?_|refine nl ?_|refine sk ?_|refine rt ?_
 exact r2 ⟨rfl,rfl⟩
theorem plc_in {tot:Int} {cut oth:List Int} (hE:alE tot cut oth = 0) (st:BitVec 64):0 ≤ (plcR tot cut oth st).1∧(plcR tot cut oth st).1 < cut.length:=by
 unfold alE at hE
 split at hE
 ·cases hE
 ·split at hE
  ·cases hE
  ·rename_i h1 h2
   have l1:=sdraw_lt (n:=cut.length) (by omega) st
   unfold plcR alPick
   dsimp only
   split
   ·omega
   ·rw [Int.toNat_natCast]
    have hm:oth.getD (sdraw cut.length st).1 0 ∈ oth:=mem_getD.2 ⟨_,by omega,rfl⟩
    refine Classical.byContradiction fun hn=>h2 ?_
    rw [Bool.or_eq_true]
    refine .inr (List.any_eq_true.2 ⟨_,hm,decide_eq_true ?_⟩)
    omega
def setR (tot:Int) (cut oth:List Int) (k:Int) (st:BitVec 64):List Int × Int:=pickR k ((plcR tot cut oth st).1 + 1) (plcR tot cut oth st).2
theorem RwSet_tr (tot k:Int) (cv ov:Value) (cut oth:List Int) (b r:Nat) (st:BitVec 64) (hc:cv.oneCell' = true) (ho:ov.oneCell' = true) (hE:alE tot cut oth = 0) (hk:(1 ≤ k∧k ≤ 65536)∧cut.length ≤ k) :
  Tr Tryz.prog 130 [.agg #[I tot,cv,ov],I k,ptr b] [vw cv (Is cut),vw ov (Is oth)] (lotP b r st 0 false) fun v D=>∃ o st' u,v = tup2 o (I (setR tot cut oth k st).2)∧D = own 3 o (Is (setR tot cut oth k st).1) :: lotP b r st' u false:=by
 have hck:=RwCheck_tr tot k cv ov cut oth hc ho hE
 rw [if_neg (by omega)] at hck
 have hat:=plc_in hE st
 have h1:=place_tr tot cv ov cut oth b r st 0 (by omega) hc ho hE
 unfold setR
 generalize (plcR tot cut oth st).1 = at1 at *
 generalize (plcR tot cut oth st).2 = st2 at *
 have h2:=SPick_tr b r st2 (0 + 2) k (at1 + 1) (by omega)
 refine Tr.enter env _ Tryz.func130 (by kernel_rfl) rfl Tryz.ntmps130 rfl (by repeat (first | exact has00 | refine has01 ?_)) fun w0=>?_
 repeat' first|(refine gca ?_;first|(refine ca hck ?_;rintro _ _ ⟨rfl,rfl⟩)|(refine ca h1 ?_;rintro _ _ ⟨rfl,rfl⟩)|(refine ca h2 ?_;rintro _ _ ⟨o,rfl,rfl⟩))|refine bx fun b=>?_|refine lda ?_|(refine wo ?_;first|(refine ao ?_;first|refine aw ?_|refine oa ?_)|refine oa ?_)|(refine gc ?_;first|refine cf ?_)|refine sq ?_|refine rg ?_|refine xc ?_|refine nl ?_|refine sk ?_|refine rt ?_
 exact r2 ⟨_,_,_,rfl,rfl⟩
end Go.Art
namespace Go.Art
open Go Go.Proofs Go.RowKit
def par (j:Nat):Nat:=(j - 1) / 2
structure HpUp (l:List Int) (i:Nat):Prop where
 a:∀ j,0 < j→j < l.length→j ≠ i→l.getD (par j) 0 ≤ l.getD j 0
 b:∀ j,0 < j→j < l.length→par j = i→0 < i→l.getD (par i) 0 ≤ l.getD j 0
structure HpDn (l:List Int) (i:Nat):Prop where
 a:∀ j,0 < j→j < l.length→par j ≠ i→l.getD (par j) 0 ≤ l.getD j 0
 b:∀ j,0 < j→j < l.length→par j = i→0 < i→l.getD (par i) 0 ≤ l.getD j 0
def Heap (l:List Int):Prop:=∀ j,0 < j→j < l.length→l.getD (par j) 0 ≤ l.getD j 0
theorem par_lt {j:Nat} (h:0 < j):par j < j:=by unfold par;omega
theorem Heap.head {l:List Int} (h:Heap l):∀ j,j < l.length→l.getD 0 0 ≤ l.getD j 0:=fun j=>by
 induction j using Nat.strongRecOn with
 | ind j ih=>
  intro hj
  by_cases h0:j = 0
  ·subst h0;exact Int.le_refl _
  ·have h1:=par_lt (j:=j) (by omega)
   exact Int.le_trans (ih _ h1 (by omega)) (h j (by omega) hj)
def swq (l:List Int) (i j:Nat):List Int:=(l.set i (l.getD j 0)).set j (l.getD i 0)
theorem swq_len (l:List Int) (i j:Nat):(swq l i j).length = l.length:=by simp [swq]
theorem swq_get (l:List Int) {i j:Nat} (hi:i < l.length) (hj:j < l.length) (t:Nat):(swq l i j).getD t 0 = if t = i then l.getD j 0 else if t = j then l.getD i 0 else l.getD t 0:=by
 unfold swq
 rw [getD_set _ _ _ _ (by simpa using hj),getD_set _ _ _ _ hi]
 by_cases h1:t = i
 ·subst h1
  rw [if_pos rfl,if_pos rfl]
  by_cases h2:j = t
  ·subst h2;rw [if_pos rfl]
  ·rw [if_neg h2]
 ·rw [if_neg h1,if_neg (Ne.symm h1)]
  by_cases h2:t = j
  ·subst h2;rw [if_pos rfl]
  ·rw [if_neg h2,if_neg (Ne.symm h2)]
theorem swq_perm (l:List Int) {i j:Nat} (hi:i < l.length) (hj:j < l.length):(swq l i j).Perm l:=by
 have e1:l.getD j 0 = l[j]:=by simp [List.getD_eq_getElem?_getD,hj]
 have e2:l.getD i 0 = l[i]:=by simp [List.getD_eq_getElem?_getD,hi]
 unfold swq
 rw [e1,e2]
 exact List.set_set_perm hi hj
theorem HpUp.snoc {l:List Int} (h:Heap l) (x:Int):HpUp (l ++ [x]) l.length:=by
 refine ⟨fun j h0 hj hne=>?_,fun j h0 hj hp _=>?_⟩
 ·have h1:j < l.length:=by simp at hj;omega
  have h2:=par_lt h0
  rw [getD_snoc,getD_snoc,if_pos h1,if_pos (by omega)]
  exact h j h0 h1
 ·have h2:=par_lt h0
  simp at hj;omega
theorem HpUp.stop {l:List Int} {i:Nat} (h:HpUp l i) (hs:i = 0∨l.getD (par i) 0 ≤ l.getD i 0):Heap l:=fun j h0 hj=>by
 by_cases e:j = i
 ·subst e;rcases hs with hs | hs
  ·omega
  ·exact hs
 ·exact h.a j h0 hj e
theorem HpUp.step {l:List Int} {i:Nat} (h:HpUp l i) (hi:0 < i) (hil:i < l.length) (hs:¬ l.getD (par i) 0 ≤ l.getD i 0):HpUp (swq l (par i) i) (par i):=by
 have hp:=par_lt hi
 have G:=fun t=>swq_get l (i:=par i) (j:=i) (by omega) hil t
 have hL:=swq_len l (par i) i
 refine ⟨fun j h0 hj hne=>?_,fun j h0 hj hpj hpi=>?_⟩
 ·rw [hL] at hj
  rw [G,G]
  have hjp:=par_lt h0
  by_cases e1:j = i
  ·subst e1;rw [if_pos rfl,if_neg (by omega),if_pos rfl];omega
  ·rw [if_neg hne,if_neg e1]
   by_cases e2:par j = i
   ·rw [if_neg (by omega),if_pos e2];exact h.b j h0 hj e2 hi
   ·by_cases e3:par j = par i
    ·rw [if_pos e3];have:=h.a j h0 hj e1;rw [e3] at this;omega
    ·rw [if_neg e3,if_neg e2];exact h.a j h0 hj e1
 ·rw [hL] at hj
  rw [G,G]
  have hjp:=par_lt h0
  have hpp:=par_lt hpi
  rw [if_neg (by omega),if_neg (by omega)]
  have h1:=h.a (par i) hpi (by omega) (by omega)
  by_cases e1:j = i
  ·subst e1;rw [if_neg (by omega),if_pos rfl];exact h1
  ·rw [if_neg (by omega),if_neg e1]
   have:=h.a j h0 hj e1
   rw [hpj] at this;omega
theorem HpDn.stop {l:List Int} {i:Nat} (h:HpDn l i) (h1:2 * i + 1 < l.length→l.getD i 0 ≤ l.getD (2 * i + 1) 0) (h2:2 * i + 2 < l.length→l.getD i 0 ≤ l.getD (2 * i + 2) 0):Heap l:=fun j h0 hj=>by
 by_cases e:par j = i
 ·have:j = 2 * i + 1∨j = 2 * i + 2:=by unfold par at e;omega
  rw [e]
  rcases this with rfl | rfl
  ·exact h1 hj
  ·exact h2 hj
 ·exact h.a j h0 hj e
theorem HpDn.step {l:List Int} {i c:Nat} (h:HpDn l i) (hc:c = 2 * i + 1∨c = 2 * i + 2) (hcl:c < l.length) (hs:l.getD c 0 < l.getD i 0) (h1:2 * i + 1 < l.length→l.getD c 0 ≤ l.getD (2 * i + 1) 0) (h2:2 * i + 2 < l.length→l.getD c 0 ≤ l.getD (2 * i + 2) 0):HpDn (swq l i c) c:=by
 have hpc:par c = i:=by unfold par;omega
 have hic:i < c:=by omega
 have G:=fun t=>swq_get l (i:=i) (j:=c) (by omega) hcl t
 have hL:=swq_len l i c
 refine ⟨fun j h0 hj hne=>?_,fun j h0 hj hpj hc0=>?_⟩
 ·rw [hL] at hj
  rw [G,G]
  have hjp:=par_lt h0
  by_cases e1:par j = i
  ·rw [if_pos e1,if_neg (by omega)]
   by_cases e2:j = c
   ·rw [if_pos e2];omega
   ·rw [if_neg e2]
    have:j = 2 * i + 1∨j = 2 * i + 2:=by unfold par at e1;omega
    rcases this with rfl | rfl
    ·exact h1 hj
    ·exact h2 hj
  ·rw [if_neg e1,if_neg hne]
   by_cases e2:j = i
   ·subst e2;rw [if_pos rfl];exact h.b c (by omega) hcl hpc h0
   ·rw [if_neg e2,if_neg (fun e=>e1 (by rw [e];exact hpc))];exact h.a j h0 hj e1
 ·rw [hL] at hj
  rw [G,G,hpc,if_pos rfl]
  have hjp:=par_lt h0
  rw [if_neg (by omega),if_neg (by omega)]
  have:=h.a j h0 hj (by omega)
  rw [hpj] at this;exact this
open Go Go.Proofs Go.RowKit
attribute [local irreducible] Fit pt own ro vw mpc lpt vels rels mow lrc dfr
attribute [local irreducible] lmp lme mit velg relg
section
variable {P:Program} {E:Env P} {n:Sh} {X:Cx} {s:List K} {fr:Fr} {A:List Ch} {ops:Array Oper} {d:Nat} {ty t el:TypeId} {pos:String} {after:Array Edge} {v z:Value} {fuel by_:Nat} {listed:Array Bool} {S:World→Prop} {x y:Operand} {k1:IntKind}
theorem tkx (i:Nat) {m:Int} {len:Nat} (hS:∀ w,S w→∃ xs,Sl w v xs∧xs.length = len) (k:TS E n X s S ops fuel (listed.setIfInBounds i true) ((d,.pointer (some (addrAt v m.toNat))) :: fr) A) (hi:ops[i]? = some ⟨some d,.indexAddr t x y,ty,pos,after,none⟩:=by rfl)
  (hx:ev fr x = some v:=by rfl) (hy:ev fr y = some (.int k1 m):=by rfl) (hb:0 ≤ m∧m < len:=by omega) (ht:lk E.und t = some (.slice el):=by rfl) (he:lk E.inf el = some (z,1,by_):=by rfl)
  (hs:Region.noSelect ops = true:=by kernel_rfl) (hf:Region.free .any ops listed i = true:=by kernel_rfl) (hr:(Region.ready .any ops listed).contains i = true:=by kernel_rfl) (hrd:n.r = none:=by rfl) (hd:Nat.blt d n.n = true:=by rfl):TS E n X s S ops (fuel + 1) listed fr A:=
 tk i (fun w hw=>by obtain ⟨xs,h1,h2⟩:=hS w hw;exact R_idx ht he hx hy h1 (by omega)) k hi hs hf hr hrd hd
theorem tkli (i:Nat) {l:List Int} {j:Nat} {c:Int} {dt:TypeDesc} (hS:∀ w,S w→Sl w v (Is l)) (hc:l.getD j 0 = c) (k:TS E n X s S ops fuel (listed.setIfInBounds i true) ((d,I c) :: fr) A) (hi:ops[i]? = some ⟨some d,.load t x,ty,pos,after,none⟩:=by rfl)
  (hx:ev fr x = some (.pointer (some (addrAt v j))):=by rfl) (hj:j < l.length:=by omega) (ht:lk E.und t = some dt:=by rfl) (hg:aggB dt = false:=by rfl)
  (hs:Region.noSelect ops = true:=by kernel_rfl) (hf:Region.free .any ops listed i = true:=by kernel_rfl) (hr:(Region.ready .any ops listed).contains i = true:=by kernel_rfl) (hrd:n.r = none:=by rfl) (hd:Nat.blt d n.n = true:=by rfl):TS E n X s S ops (fuel + 1) listed fr A:=
 tk i (fun w hw=>by subst hc;exact R_load ht hg hx ((hS w hw).geti hj)) k hi hs hf hr hrd hd
end
section
variable {P:Program} {E:Env P} {n:Sh} {X:Cx} {s:List K} {fr:Fr} {A:List Ch} {ops:Array Oper} {rest:List Oper} {d:Nat} {ty t t':TypeId} {pos:String} {after:Array Edge} {x y:Operand} {m q:Int}
theorem adve {c:Int} (he:m / q = c) (k:TO E n X s ops rest ((d,I c) :: fr) A) (hx:ev fr x = some (I m):=by rfl) (hy:ev fr y = some (I q):=by rfl) (hb:0 ≤ m∧m ≤ 9223372036854775807∧1 ≤ q:=by omega) (hd:Nat.blt d n.n = true:=by rfl) :
  TO E n X s ops (⟨some d,.binOp .quo t x y t',ty,pos,after,none⟩ :: rest) fr A:=adiv (by rw [he];exact k) hx hy hb hd
end
section
variable {P:Program} {E:Env P} {n:Sh} {X:Cx} {s:List K} {fr:Fr} {A:List Ch} {ops:Array Oper} {rest:List Oper} {d:Nat} {ty t:TypeId} {pos:String} {after:Array Edge} {v:Value} {x:Operand}
theorem qlie {l:List Int} {j:Nat} {c:Int} {dt:TypeDesc} (he:l.getD j 0 = c) (k:TQ E n X s ops rest ((d,I c) :: fr) A) (hx:ev fr x = some (.pointer (some (addrAt v j))):=by rfl) (hh:Has A (vw v (Is l)):=by exact hasA) (hj:j < l.length:=by omega)
  (ht:lk E.und t = some dt:=by rfl) (hg:aggB dt = false:=by rfl) (hd:Nat.blt d n.n = true:=by rfl):TQ E n X s ops (⟨some d,.load t x,ty,pos,after,none⟩ :: rest) fr A:=qli (l:=l) (by rw [he];exact k) hx hh hj ht hg hd
end
theorem b2 (a b:Int) (w:World):(Instr.build 190 #[(0,I a),(1,I b)]).run Tryz.prog w = .ok (.agg #[I a,I b]) w:=run_build w 190 #[(0,I a),(1,I b)] #[I a,I b] (by kernel_rfl)
theorem i20 (a b:Int) (w:World):(Instr.index 190 (.agg #[I a,I b]) (I 0)).run Tryz.prog w = .ok (I a) w:=by kernel_rfl
theorem i21 (a b:Int) (w:World):(Instr.index 190 (.agg #[I a,I b]) (I 1)).run Tryz.prog w = .ok (I b) w:=by kernel_rfl
section
variable {n:Sh} {X:Cx} {s:List K} {fr:Fr} {A:List Ch} {ops:Array Oper} {rest:List Oper} {d:Nat} {ty:TypeId} {pos:String} {after:Array Edge} {x y:Operand} {a b:Int} {parts:List (Nat × Operand)}
theorem bd2 (k:TO env n X s ops rest ((d,.agg #[I a,I b]) :: fr) A) (hv:evps fr parts = some [(0,I a),(1,I b)]:=by rfl) (hd:Nat.blt d n.n = true:=by rfl):TO env n X s ops (⟨some d,.build 190 parts.toArray,ty,pos,after,none⟩ :: rest) fr A:=
 TO.val (fun w _=>⟨fun c hc _ _ _ _=>by
  have h1:=hc.evps hv
  have h2:=b2 a b w
  simp only [execOp]
  simp [h1,h2]⟩) k hd
theorem ix0 (k:TO env n X s ops rest ((d,I a) :: fr) A) (hx:ev fr x = some (.agg #[I a,I b]):=by rfl) (hy:ev fr y = some (I 0):=by rfl) (hd:Nat.blt d n.n = true:=by rfl):TO env n X s ops (⟨some d,.index 190 x y,ty,pos,after,none⟩ :: rest) fr A:=
 TO.val (fun w _=>⟨fun c hc _ _ _ _=>by
  have h2:=i20 a b w
  simp only [execOp,hc.ev hx,hc.ev hy]
  simp [h2]⟩) k hd
theorem ix1 (k:TO env n X s ops rest ((d,I b) :: fr) A) (hx:ev fr x = some (.agg #[I a,I b]):=by rfl) (hy:ev fr y = some (I 1):=by rfl) (hd:Nat.blt d n.n = true:=by rfl):TO env n X s ops (⟨some d,.index 190 x y,ty,pos,after,none⟩ :: rest) fr A:=
 TO.val (fun w _=>⟨fun c hc _ _ _ _=>by
  have h2:=i21 a b w
  simp only [execOp,hc.ev hx,hc.ev hy]
  simp [h2]⟩) k hd
end
abbrev THp:TypeId:=173
theorem push_tr (ph:Nat) (hv:Value) (h:List Int) (x:Int) (hh:Heap h) (hl:h.length ≤ 65536):Tr Tryz.prog 128 [ptr ph,I x] [] [pt ph [hv] THp,own 3 hv (Is h)]
  fun _ D=>∃ hv' h',D = [pt ph [hv'] THp,own 3 hv' (Is h')]∧Heap h'∧h'.Perm (x :: h):=by
 refine Tr.enter env _ Tryz.func128 (by kernel_rfl) rfl Tryz.ntmps128 rfl (by repeat (first | exact has00 | refine has01 ?_)) fun w0=>?_
 repeat' first|refine slii [x] fun v1=>?_|(refine wo ?_;first|refine oa ?_|refine ld ?_)|refine sq ?_|refine rg ?_
 refine api (v:=hv) (l:=h) (news:=[x]) fun v2=>?_
 refine TO.one (v:=v2) (xs:=Is (h ++ [x])) fun hv2=>?_
 have hln:(h ++ [x]).length = h.length + 1:=by simp
 have hpm:(h ++ [x]).Perm (x :: h):=List.perm_append_comm (l₁:=h) (l₂:=[x])
 have hup:=HpUp.snoc hh x
 repeat' first|(refine wo ?_;first|(refine ao ?_;first|refine aw ?_)|refine oa ?_|refine ld ?_|refine lnm ?_|refine sr ?_)|refine sq ?_|refine rg ?_|refine xc ?_|refine nl ?_|refine bk ?_
 generalize hL:h ++ [x] = L at *
 have hi0:h.length < L.length:=by omega
 clear hL hl
 refine TC.loop (ι:=Nat × List Int) (fun i=>[(4,I i.1)]) (fun i=>[own 3 v2 (Is i.2)]) (fun i=>i.1 < i.2.length∧i.2.length = L.length∧HpUp i.2 i.1∧i.2.Perm (x :: h)) (fun i=>i.1) (h.length,L) [0] ⟨hi0,rfl,hup,hpm⟩ ?_ (hs:=by dsimp only;rw [show ((h.length:Nat):Int) = (L.length:Int) - 1 by omega];(repeat (refine Sub.cons rfl (by first | rfl | go_num) ?_));exact Sub.nil)
 clear hup hpm hi0
 rintro ⟨i,l⟩ ⟨hi,hlen,hup,hpm⟩
 dsimp only at hi hlen hup hpm ⊢
 refine TC.leni (l:=l) fun hll=>?_
 by_cases h0:0 < i
 ·have hpar:((i:Int) - 1) / 2 = ((par i:Nat):Int):=by unfold par;omega
  have hpl:=par_lt h0
  generalize hb:l.getD (par i) 0 = lb at *
  generalize ha:l.getD i 0 = la at *
  repeat' first|refine rs (id:=5) (fun w=>w.heap[ph]? = some (.cells #[v2] THp (0,0))∧∃ xs,Sl w v2 xs∧xs.length = l.length) ?_ (fun w hw=>⟨pt_at memA hw,_,has_sl hw hasA,Is_len l⟩)|refine adve hpar ?_|(refine qlie ha ?_)|(refine qlie hb ?_)|(refine wo ?_;first|(refine ao ?_;first|refine aw ?_|refine oa ?_)|refine oa ?_)|(refine gc ?_;first|(refine ci (fun hB=>?_) (fun hB=>?_) <;> try (exfalso;omega)))|refine sq ?_|refine rg ?_|refine xc ?_|refine nl ?_|refine sk ?_|refine bk ?_|refine rt ?_|refine rq ?_|refine nq ?_|(refine wq ?_;first|(refine qao ?_;first|refine qa ?_)|refine qa ?_|refine qld ?_|refine qixmn ?_)
  ·exact r0 ⟨v2,l,rfl,hup.stop (.inr (by omega)),hpm⟩
  refine tka 0 ?_
  refine tka 1 ?_
  refine tkl 2 (cs:=[v2]) (fun w h=>h.1) ?_
  refine tka 3 ?_
  refine tka 4 ?_
  refine tka 5 ?_
  refine tkl 6 (cs:=[v2]) (fun w h=>h.1) ?_
  refine tka 7 ?_
  refine tka 8 ?_
  refine tka 9 ?_
  refine tkl 10 (cs:=[v2]) (fun w h=>h.1) ?_
  refine tka 11 ?_
  refine tkx 12 (len:=l.length) (fun w h=>h.2) ?_
  refine tka 14 ?_
  refine tka 15 ?_
  refine tkl 16 (cs:=[v2]) (fun w h=>h.1) ?_
  refine tka 17 ?_
  refine tkx 18 (len:=l.length) (fun w h=>h.2) ?_
  refine t2 13 19 ?_ ?_
  ·refine lie ha ?_
   repeat' first|refine nl ?_
   refine te (fun w hw=>⟨pt_at memA hw,_,has_sl hw hasA,Is_len l⟩) ?_
   refine t1 19 ?_
   refine lie hb ?_
   repeat' first|refine nl ?_
   refine te (fun w hw=>⟨pt_at memA hw,_,has_sl hw hasA,Is_len l⟩) ?_
   refine tkx 20 (len:=l.length) (fun w h=>h.2) ?_
   refine t1 21 ?_
   refine soi (m:=la) (l:=l) (j:=par i) ?_
   repeat' first|refine nl ?_
   refine te (fun w hw=>⟨pt_at memA hw,_,has_sl hw hasA,by rw [Is_len,List.length_set]⟩) ?_
   refine tkx 22 (len:=l.length) (fun w h=>h.2) ?_
   refine t1 23 ?_
   refine soi (m:=lb) (l:=l.set (par i) la) (j:=i) ?_ (hj:=by rw [List.length_set];exact hi)
   repeat' first|refine nl ?_
   refine te (fun w hw=>⟨pt_at memA hw,_,has_sl hw hasA,by rw [Is_len,List.length_set,List.length_set]⟩) ?_
   refine t0 ?_
   repeat' first|(refine wo ?_;first|refine oa ?_)|refine rg ?_|refine xc ?_|refine nl ?_|refine xb ?_
   exact lp (par i,swq l (par i) i) ⟨by dsimp only;rw [swq_len];omega,by dsimp only;rw [swq_len];exact hlen,hup.step h0 hi (by omega),(swq_perm l (by omega) hi).trans hpm⟩ (hf:=by dsimp only;unfold swq;rw [ha,hb];exact fitA) (hlt:=hpl)
  ·refine lie hb ?_
   repeat' first|refine nl ?_
   refine te (fun w hw=>⟨pt_at memA hw,_,has_sl hw hasA,Is_len l⟩) ?_
   refine t1 13 ?_
   refine lie ha ?_
   repeat' first|refine nl ?_
   refine te (fun w hw=>⟨pt_at memA hw,_,has_sl hw hasA,Is_len l⟩) ?_
   refine tkx 20 (len:=l.length) (fun w h=>h.2) ?_
   refine t1 21 ?_
   refine soi (m:=la) (l:=l) (j:=par i) ?_
   repeat' first|refine nl ?_
   refine te (fun w hw=>⟨pt_at memA hw,_,has_sl hw hasA,by rw [Is_len,List.length_set]⟩) ?_
   refine tkx 22 (len:=l.length) (fun w h=>h.2) ?_
   refine t1 23 ?_
   refine soi (m:=lb) (l:=l.set (par i) la) (j:=i) ?_ (hj:=by rw [List.length_set];exact hi)
   repeat' first|refine nl ?_
   refine te (fun w hw=>⟨pt_at memA hw,_,has_sl hw hasA,by rw [Is_len,List.length_set,List.length_set]⟩) ?_
   refine t0 ?_
   repeat' first|(refine wo ?_;first|refine oa ?_)|refine rg ?_|refine xc ?_|refine nl ?_|refine xb ?_
   exact lp (par i,swq l (par i) i) ⟨by dsimp only;rw [swq_len];omega,by dsimp only;rw [swq_len];exact hlen,hup.step h0 hi (by omega),(swq_perm l (by omega) hi).trans hpm⟩ (hf:=by dsimp only;unfold swq;rw [ha,hb];exact fitA) (hlt:=hpl)
 ·obtain rfl:i = 0:=by omega
  repeat' first|(refine wo ?_;first|(refine ao ?_;first|refine oa ?_)|refine oa ?_)|(refine gc ?_;first|refine cf ?_)|refine sq ?_|refine rg ?_|refine xc ?_|refine nl ?_|refine xe ?_
  exact e0 ⟨v2,l,rfl,hup.stop (.inl rfl),hpm⟩
def hcut (h:List Int):List Int:=(h.set 0 (h.getD (h.length - 1) 0)).take (h.length - 1)
theorem hcut_len (h:List Int):(hcut h).length = h.length - 1:=by unfold hcut;rw [List.length_take,List.length_set];omega
theorem hcut_get (h:List Int) {t:Nat} (h0:0 < t) (ht:t < h.length - 1):(hcut h).getD t 0 = h.getD t 0:=by
 unfold hcut
 simp only [List.getD_eq_getElem?_getD,List.getElem?_take,List.getElem?_set]
 rw [if_pos ht,if_neg (by omega)]
theorem hcut_dn {h:List Int} (hh:Heap h):HpDn (hcut h) 0:=⟨fun j h0 hj hp=>by
 rw [hcut_len] at hj
 have:=par_lt h0
 rw [hcut_get h (by omega) (by omega),hcut_get h h0 hj]
 exact hh j h0 (by omega),fun j _ _ _ h=>by omega⟩
theorem hcut_perm {h:List Int} (h0:0 < h.length):h.Perm (h.getD 0 0 :: hcut h):=by
 cases h with
 | nil=>simp at h0
 | cons a t=>
  cases hr:t.reverse with
  | nil=>
   have:t = []:=by simpa using hr
   subst this;exact List.Perm.refl _
  | cons z r=>
   have ht:t = r.reverse ++ [z]:=by rw [← List.reverse_reverse t,hr,List.reverse_cons]
   subst ht
   have e:hcut (a :: (r.reverse ++ [z])) = z :: r.reverse:=by
    unfold hcut
    simp [List.getD_eq_getElem?_getD]
   rw [e]
   show (a :: (r.reverse ++ [z])).Perm (a :: z :: r.reverse)
   exact List.Perm.cons _ (List.perm_append_comm (l₁:=r.reverse) (l₂:=[z]))
theorem pop_tr (ph:Nat) (hv:Value) (h:List Int) (hh:Heap h) (h0:0 < h.length) (hl:h.length ≤ 65537):Tr Tryz.prog 129 [ptr ph] [] [pt ph [hv] THp,own 3 hv (Is h)]
  fun v D=>∃ hv' h',v = I (h.getD 0 0)∧D = [pt ph [hv'] THp,own 3 hv' (Is h')]∧Heap h'∧h.Perm (h.getD 0 0 :: h'):=by
 have hc1:=hcut_len h
 have hc2:=hcut_dn hh
 have hc3:=hcut_perm h0
 refine Tr.enter env _ Tryz.func129 (by kernel_rfl) rfl Tryz.ntmps129 rfl (by repeat (first | exact has00 | refine has01 ?_)) fun w0=>?_
 have hi1:((h.length:Int) - 1).toNat = h.length - 1:=by omega
 repeat' first|(refine wo ?_;first|(refine ao ?_;first|refine aw ?_)|refine oa ?_|refine ld ?_|refine lnm ?_|refine ixmn ?_|refine ixm ?_|refine li ?_|refine soi ?_)|refine sq ?_|refine rg ?_|refine xc ?_|refine nl ?_
 rw [hi1]
 have hHl:(h.set 0 (h.getD (h.length - 1) 0)).length = h.length:=List.length_set ..
 have hHc:hcut h = (h.set 0 (h.getD (h.length - 1) 0)).take (h.length - 1):=rfl
 generalize h.set 0 (h.getD (h.length - 1) 0) = H at *
 refine schm (l:=H) ?_
 rw [hi1]
 refine TO.im (Im1.im (im_subi 3 hv H (lo:=0) (hi:=h.length - 1) (Nat.zero_le _) (by omega)) _) ?_
 rw [List.drop_zero,← hHc]
 refine TO.one (v:=slSub hv 0 (h.length - 1)) (xs:=Is (hcut h)) fun hv2=>?_
 generalize slSub hv 0 (h.length - 1) = v2 at *
 repeat' first|(refine wo ?_;first|refine oa ?_|refine sr ?_)|refine sq ?_|refine rg ?_|refine xc ?_|refine nl ?_|refine bk ?_
 clear hHl hHc
 refine TC.loop (ι:=Nat × List Int) (fun i=>[(6,I i.1)]) (fun i=>[own 3 v2 (Is i.2)]) (fun i=>(i.1 = 0∨i.1 < i.2.length)∧i.2.length = h.length - 1∧HpDn i.2 i.1∧h.Perm (h.getD 0 0 :: i.2)) (fun i=>h.length - i.1) (0,hcut h) [0,3,4] ⟨.inl rfl,hc1,hc2,hc3⟩ ?_
 clear hc1 hc2 hc3
 rintro ⟨i,l⟩ ⟨hi,hlen,hdn,hpm⟩
 dsimp only at hi hlen hdn hpm ⊢
 refine TC.leni (l:=l) fun hll=>?_
 have hk1:2 * (i:Int) + 1 = ((2 * i + 1:Nat):Int):=by omega
 have hk2:2 * (i:Int) + 2 = ((2 * i + 2:Nat):Int):=by omega
 repeat' first|refine bd2 ?_|(refine wo ?_;first|(refine ao ?_;first|refine aw ?_)|refine oa ?_)|refine sq ?_|refine rg ?_|refine xc ?_|refine nl ?_|refine bk ?_
 rw [hk1,hk2]
 refine TC.loop (ι:=Nat × Nat) (fun u=>[(39,I u.1),(7,I u.2)]) (fun _=>[]) (fun u=>u.1 ≤ 2∧(u.2 = i∨(u.2 = 2 * i + 1∨u.2 = 2 * i + 2)∧u.2 < l.length∧l.getD u.2 0 < l.getD i 0)∧(1 ≤ u.1→2 * i + 1 < l.length→l.getD u.2 0 ≤ l.getD (2 * i + 1) 0)∧(2 ≤ u.1→2 * i + 2 < l.length→l.getD u.2 0 ≤ l.getD (2 * i + 2) 0))
  (fun u=>2 - u.1) (0,i) [0,3,4,6,38] ⟨by simp,.inl rfl,fun h=>by simp at h,fun h=>by simp at h⟩ ?_
 rintro ⟨c,m⟩ ⟨g1,g2,g3,g4⟩
 dsimp only at g1 g2 g3 g4 ⊢
 have hm:m < l.length∨m = i:=by rcases g2 with h | h;exact .inr h;exact .inl h.2.1
 by_cases hc0:c = 0
 ·subst hc0
  by_cases hk:2 * i + 1 < l.length
  ·have hml:m < l.length:=by omega
   generalize hlm:l.getD m 0 = lm at *
   generalize hlk:l.getD (2 * i + 1) 0 = lk at *
   repeat' first|refine ix0 ?_|(refine qlie hlm ?_)|(refine qlie hlk ?_)|(refine wo ?_;first|(refine ao ?_;first|refine aw ?_|refine oa ?_)|refine oa ?_)|(refine gc ?_;first|refine ct ?_|(refine ci (fun hB=>?_) (fun hB=>?_) <;> try (exfalso;omega)))|refine sq ?_|refine rg ?_|refine xc ?_|refine nl ?_|refine sk ?_|refine bk ?_|refine xb ?_|refine rq ?_|refine nq ?_|(refine wq ?_;first|(refine qao ?_;first|refine qa ?_)|refine qa ?_|refine qlnm ?_|refine qixmn ?_|refine qgy ?_|(refine qgsi (fun hB=>?_) (fun hB=>?_) <;> try (exfalso;omega)))
   ·refine lp (1,2 * i + 1) ⟨by dsimp only;omega,.inr ⟨.inl rfl,hk,?_⟩,fun _ _=>by dsimp only;rw [hlk];exact Int.le_refl _,fun h=>by simp at h⟩
    dsimp only;rw [hlk];rcases g2 with h | h
    ·subst h;rw [hlm];assumption
    ·omega
   ·refine lp (1,m) ⟨by dsimp only;omega,?_,fun _ _=>by dsimp only;rw [hlm];omega,fun h=>by simp at h⟩
    dsimp only;rw [hlm];exact g2
  ·repeat' first|refine ix0 ?_|(refine wo ?_;first|(refine ao ?_;first|refine aw ?_|refine oa ?_)|refine oa ?_)|(refine gc ?_;first|refine ct ?_|refine cf ?_)|refine sq ?_|refine rg ?_|refine xc ?_|refine nl ?_|refine sk ?_|refine bk ?_|refine xb ?_|refine rq ?_|refine nq ?_|(refine wq ?_;first|(refine qao ?_;first|refine qa ?_)|refine qa ?_|refine qlnm ?_|refine qgn ?_|(refine qgsi (fun hB=>?_) (fun hB=>?_) <;> try (exfalso;omega)))
   exact lp (1,m) ⟨by dsimp only;omega,g2,fun _ h=>absurd h hk,fun h=>by simp at h⟩
 ·by_cases hc1:c = 1
  ·subst hc1
   by_cases hk:2 * i + 2 < l.length
   ·have hml:m < l.length:=by omega
    have g5:=g3 (by decide) (by omega)
    generalize hlm:l.getD m 0 = lm at *
    generalize hlk:l.getD (2 * i + 2) 0 = lk at *
    generalize hlj:l.getD (2 * i + 1) 0 = lj at *
    repeat' first|refine ix1 ?_|(refine qlie hlm ?_)|(refine qlie hlk ?_)|(refine wo ?_;first|(refine ao ?_;first|refine aw ?_|refine oa ?_)|refine oa ?_)|(refine gc ?_;first|refine ct ?_|(refine ci (fun hB=>?_) (fun hB=>?_) <;> try (exfalso;omega)))|refine sq ?_|refine rg ?_|refine xc ?_|refine nl ?_|refine sk ?_|refine bk ?_|refine xb ?_|refine rq ?_|refine nq ?_|(refine wq ?_;first|(refine qao ?_;first|refine qa ?_)|refine qa ?_|refine qlnm ?_|refine qixmn ?_|refine qgy ?_|(refine qgsi (fun hB=>?_) (fun hB=>?_) <;> try (exfalso;omega)))
    ·refine lp (2,2 * i + 2) ⟨by dsimp only;omega,.inr ⟨.inr rfl,hk,?_⟩,fun _ _=>by dsimp only;rw [hlk];omega,fun _ _=>by dsimp only;rw [hlk];exact Int.le_refl _⟩
     dsimp only;rw [hlk];rcases g2 with h | h
     ·subst h;rw [hlm];assumption
     ·omega
    ·refine lp (2,m) ⟨by dsimp only;omega,?_,fun _ _=>by dsimp only;rw [hlm];omega,fun _ _=>by dsimp only;rw [hlm];omega⟩
     dsimp only;rw [hlm];exact g2
   ·repeat' first|refine ix1 ?_|(refine wo ?_;first|(refine ao ?_;first|refine aw ?_|refine oa ?_)|refine oa ?_)|(refine gc ?_;first|refine ct ?_|refine cf ?_)|refine sq ?_|refine rg ?_|refine xc ?_|refine nl ?_|refine sk ?_|refine bk ?_|refine xb ?_|refine rq ?_|refine nq ?_|(refine wq ?_;first|(refine qao ?_;first|refine qa ?_)|refine qa ?_|refine qlnm ?_|refine qgn ?_|(refine qgsi (fun hB=>?_) (fun hB=>?_) <;> try (exfalso;omega)))
    exact lp (2,m) ⟨by dsimp only;omega,g2,fun _ h=>g3 (by decide) h,fun _ h=>absurd h hk⟩
  ·obtain rfl:c = 2:=by omega
   have g3:=g3 (by decide)
   have g4:=g4 (by decide)
   by_cases hmi:m = i
   ·subst hmi
    repeat' first|(refine wo ?_;first|(refine ao ?_;first|refine oa ?_)|refine oa ?_)|(refine gc ?_;first|refine cf ?_|(refine ci (fun hB=>?_) (fun hB=>?_) <;> try (exfalso;omega)))|refine sq ?_|refine rg ?_|refine xc ?_|refine nl ?_|refine xe ?_|refine rt ?_
    exact r1 ⟨v2,l,rfl,rfl,hdn.stop g3 g4,hpm⟩
   ·obtain ⟨g5,g6,g7⟩:=g2.resolve_left hmi
    have hil:i < l.length:=by omega
    have hst:=hdn.step g5 g6 g7 g3 g4
    have hsp:=swq_perm l hil g6
    have hsl:=swq_len l i m
    have hsw:swq l i m = (l.set i (l.getD m 0)).set m (l.getD i 0):=rfl
    generalize hlm:l.getD m 0 = lm at *
    generalize hli:l.getD i 0 = li at *
    repeat' first|refine rs (id:=16) (fun w=>∃ xs,Sl w v2 xs∧xs.length = l.length) ?_ (fun w hw=>⟨_,has_sl hw hasA,Is_len l⟩)|(refine wo ?_;first|(refine ao ?_;first|refine oa ?_)|refine oa ?_)|(refine gc ?_;first|refine cf ?_|(refine ci (fun hB=>?_) (fun hB=>?_) <;> try (exfalso;omega)))|refine sq ?_|refine rg ?_|refine xc ?_|refine nl ?_|refine sk ?_|refine xe ?_
    refine tka 0 ?_
    refine tka 1 ?_
    refine tka 2 ?_
    refine tka 3 ?_
    refine tka 4 ?_
    refine tka 5 ?_
    refine tkx 6 (len:=l.length) (fun w h=>h) ?_
    refine tka 8 ?_
    refine tka 9 ?_
    refine tkx 10 (len:=l.length) (fun w h=>h) ?_
    refine t2 7 11 ?_ ?_
    ·refine lie hlm ?_
     repeat' first|refine nl ?_
     refine te (fun w hw=>⟨_,has_sl hw hasA,Is_len l⟩) ?_
     refine t1 11 ?_
     refine lie hli ?_
     repeat' first|refine nl ?_
     refine te (fun w hw=>⟨_,has_sl hw hasA,Is_len l⟩) ?_
     refine tkx 12 (len:=l.length) (fun w h=>h) ?_
     refine t1 13 ?_
     refine soi (m:=lm) (l:=l) (j:=i) ?_
     repeat' first|refine nl ?_
     refine te (fun w hw=>⟨_,has_sl hw hasA,by rw [Is_len,List.length_set]⟩) ?_
     refine tkx 14 (len:=l.length) (fun w h=>h) ?_
     refine t1 15 ?_
     refine soi (m:=li) (l:=l.set i lm) (j:=m) ?_ (hj:=by rw [List.length_set];exact g6)
     repeat' first|refine nl ?_
     refine te (fun w hw=>⟨_,has_sl hw hasA,by rw [Is_len,List.length_set,List.length_set]⟩) ?_
     refine t0 ?_
     rw [← hsw]
     repeat' first|(refine wo ?_;first|refine oa ?_)|refine rg ?_|refine xc ?_|refine nl ?_|refine xb ?_
     exact lp (m,swq l i m) ⟨.inr (by dsimp only;omega),by dsimp only;omega,hst,hpm.trans (List.Perm.cons _ hsp.symm)⟩ (hlt:=by dsimp only;omega)
    ·refine lie hli ?_
     repeat' first|refine nl ?_
     refine te (fun w hw=>⟨_,has_sl hw hasA,Is_len l⟩) ?_
     refine t1 7 ?_
     refine lie hlm ?_
     repeat' first|refine nl ?_
     refine te (fun w hw=>⟨_,has_sl hw hasA,Is_len l⟩) ?_
     refine tkx 12 (len:=l.length) (fun w h=>h) ?_
     refine t1 13 ?_
     refine soi (m:=lm) (l:=l) (j:=i) ?_
     repeat' first|refine nl ?_
     refine te (fun w hw=>⟨_,has_sl hw hasA,by rw [Is_len,List.length_set]⟩) ?_
     refine tkx 14 (len:=l.length) (fun w h=>h) ?_
     refine t1 15 ?_
     refine soi (m:=li) (l:=l.set i lm) (j:=m) ?_ (hj:=by rw [List.length_set];exact g6)
     repeat' first|refine nl ?_
     refine te (fun w hw=>⟨_,has_sl hw hasA,by rw [Is_len,List.length_set,List.length_set]⟩) ?_
     refine t0 ?_
     rw [← hsw]
     repeat' first|(refine wo ?_;first|refine oa ?_)|refine rg ?_|refine xc ?_|refine nl ?_|refine xb ?_
     exact lp (m,swq l i m) ⟨.inr (by dsimp only;omega),by dsimp only;omega,hst,hpm.trans (List.Perm.cons _ hsp.symm)⟩ (hlt:=by dsimp only;omega)
end Go.Art
namespace Go.Art
open Go
def Rep (h S:List Int):Prop:=Heap h∧h.Perm S∧S.Pairwise (· ≤ ·)
theorem Rep.head {h S:List Int} {a:Int} (r:Rep h (a :: S)):h.getD 0 0 = a:=by
 obtain ⟨h1,h2,h3⟩:=r
 obtain ⟨h4,h5⟩:=List.pairwise_cons.1 h3
 have ha:a ∈ h:=h2.mem_iff.2 (by simp)
 obtain ⟨j,hj,e⟩:=mem_getD.1 ha
 have hl:=h1.head j hj
 have h0:h.getD 0 0 ∈ a :: S:=h2.mem_iff.1 (mem_getD.2 ⟨0,by omega,rfl⟩)
 rcases List.mem_cons.1 h0 with h0 | h0
 ·exact h0
 ·have:=h4 _ h0;omega
theorem Rep.pop {h h' S:List Int} {a:Int} (r:Rep h (a :: S)) (hh:Heap h') (hp:h.Perm (h.getD 0 0 :: h')):Rep h' S:=by
 have e:=r.head
 obtain ⟨h1,h2,h3⟩:=r
 rw [e] at hp
 exact ⟨hh,List.Perm.cons_inv (hp.symm.trans h2),(List.pairwise_cons.1 h3).2⟩
theorem Rep.push {h h' S:List Int} (r:Rep h S) (x:Int) (hh:Heap h') (hp:h'.Perm (x :: h)):Rep h' (srt (x :: S)):=
 ⟨hh,(hp.trans (List.Perm.cons x r.2.1)).trans (srt_perm _).symm,srt_sorted _⟩
theorem Rep.nil:Rep [] []:=⟨fun j _ h=>by simp at h,List.Perm.refl _,.nil⟩
theorem Rep.len {h S:List Int} (r:Rep h S):h.length = S.length:=r.2.1.length_eq
structure AlS where
 rest:List Int
 cut:List Int
 oth:List Int
 B:List Int
 A:List Int
def alStep (all:Int) (u:AlS) (i j:Int) (B A:List Int):AlS:=
 let ri:=u.rest.getD i.toNat 0
 let r:=u.rest.getD j.toNat 0 - (all - ri)
 ⟨u.rest.set j.toNat r,u.cut.set i.toNat ri,u.oth.set i.toNat j,if r > all then B else if r < all then srt (j :: B) else B,if r > all then j :: A else A⟩
def alRun (all:Int):Nat→AlS→AlS
 | 0,u=>u
 | f + 1,u=>match u.B,u.A with
  | i :: B,j :: A=>alRun all f (alStep all u i j B A)
  | _,_=>u
def alIn (t:List Int) (all:Int):Nat→AlS
 | 0=>⟨List.replicate t.length 0,List.replicate t.length 0,List.replicate t.length 0,[],[]⟩
 | i + 1=>let u:=alIn t all i
  let r:=t.getD i 0 * t.length
  ⟨u.rest.set i r,u.cut.set i all,u.oth.set i i,if r < all then srt ((i:Int) :: u.B) else u.B,if r < all then u.A else if r > all then srt ((i:Int) :: u.A) else u.A⟩
structure AlI (t:List Int) (all:Int) (u:AlS):Prop where
 lr:u.rest.length = t.length
 lc:u.cut.length = t.length
 lo:u.oth.length = t.length
 nd:(u.B ++ u.A).Nodup
 B:∀ i ∈ u.B,(0 ≤ i∧i < t.length)∧0 ≤ u.rest.getD i.toNat 0∧u.rest.getD i.toNat 0 < all
 A:∀ j ∈ u.A,(0 ≤ j∧j < t.length)∧all < u.rest.getD j.toNat 0∧u.rest.getD j.toNat 0 ≤ 1099511627776∧0 < t.getD j.toNat 0
 sum:(u.B.map fun i=>all - u.rest.getD i.toNat 0).sum = (u.A.map fun j=>u.rest.getD j.toNat 0 - all).sum
 cut:∀ c:Nat,c < t.length→0 ≤ u.cut.getD c 0∧u.cut.getD c 0 ≤ all
 oth:∀ c:Nat,c < t.length→(0 ≤ u.oth.getD c 0∧u.oth.getD c 0 < t.length)∧(u.cut.getD c 0 = all∨0 < t.getD (u.oth.getD c 0).toNat 0)
 zero:∀ c:Nat,c < t.length→¬ 0 < t.getD c 0→u.rest.getD c 0 = 0∧((c:Int) ∈ u.B∨u.cut.getD c 0 = 0)
theorem sum_pos {l:List Int} {f:Int→Int} (h:∀ x ∈ l,0 < f x) (hl:l ≠ []):0 < (l.map f).sum:=by
 induction l with
 | nil=>exact absurd rfl hl
 | cons a r ih=>
  have h1:=h a (by simp)
  simp only [List.map_cons,List.sum_cons]
  by_cases hr:r = []
  ·subst hr;simp;omega
  ·have:=ih (fun x hx=>h x (by simp [hx])) hr;omega
theorem AlI.more {t:List Int} {all:Int} {u:AlS} (h:AlI t all u) (hB:u.B ≠ []):u.A ≠ []:=fun hA=>by
 have h1:=sum_pos (l:=u.B) (f:=fun i=>all - u.rest.getD i.toNat 0) (fun i hi=>by have:=(h.B i hi).2;omega) hB
 have h2:=h.sum
 rw [hA] at h2
 simp only [List.map_nil,List.sum_nil] at h2
 omega
theorem getD_setI (l:List Int) (i j:Int) (x:Int) (hi:0 ≤ i∧i < l.length) (hj:0 ≤ j):(l.set i.toNat x).getD j.toNat 0 = if j = i then x else l.getD j.toNat 0:=by
 rw [getD_set _ _ _ _ (by omega)]
 by_cases e:j = i
 ·subst e;rw [if_pos rfl,if_pos rfl]
 ·rw [if_neg e,if_neg (by omega)]
theorem map_sum_congr {l:List Int} {f g:Int→Int} (h:∀ x ∈ l,f x = g x):(l.map f).sum = (l.map g).sum:=by rw [List.map_congr_left h]
theorem perm_sum {l m:List Int} (h:l.Perm m):l.sum = m.sum:=by
 induction h with
 | nil=>rfl
 | cons x _ ih=>simp [ih]
 | swap x y l=>simp only [List.sum_cons];omega
 | trans _ _ a b=>exact a.trans b
theorem srt_sum (x:Int) (B:List Int) (f:Int→Int):((srt (x :: B)).map f).sum = f x + (B.map f).sum:=by
 rw [perm_sum ((srt_perm (x :: B)).map f)];rfl
theorem AlI.step {t:List Int} {all:Int} {u:AlS} {i j:Int} {B A:List Int} (h:AlI t all u) (ha:0 < all∧all ≤ 1099511627776) (hB:u.B = i :: B) (hA:u.A = j :: A):AlI t all (alStep all u i j B A):=by
 have hbi:=h.B i (by rw [hB];simp)
 have haj:=h.A j (by rw [hA];simp)
 have hnd:=h.nd
 rw [hB,hA] at hnd
 have hsum:=h.sum
 rw [hB,hA] at hsum
 simp only [List.map_cons,List.sum_cons] at hsum
 have hlr:=h.lr
 have hlc:=h.lc
 have hlo:=h.lo
 obtain ⟨n1,n2,n3⟩:=List.nodup_append.1 hnd
 obtain ⟨hiB,nB⟩:=List.nodup_cons.1 n1
 obtain ⟨hjA,nA⟩:=List.nodup_cons.1 n2
 have hij:i ≠ j:=n3 i (by simp) j (by simp)
 have hiA:i ∉ A:=fun hm=>n3 i (by simp) i (by simp [hm]) rfl
 have hjB:j ∉ B:=fun hm=>n3 j (by simp [hm]) j (by simp) rfl
 have hBA:∀ x ∈ B,∀ y ∈ A,x ≠ y:=fun x hx y hy=>n3 x (by simp [hx]) y (by simp [hy])
 have hBm:∀ x,x ∈ u.B ↔ x = i∨x ∈ B:=fun x=>by rw [hB,List.mem_cons]
 have hAm:∀ x,x ∈ u.A ↔ x = j∨x ∈ A:=fun x=>by rw [hA,List.mem_cons]
 generalize hri:u.rest.getD i.toNat 0 = ri at *
 generalize hrj:u.rest.getD j.toNat 0 = rj at *
 obtain ⟨⟨i0,i1⟩,i2,i3⟩:=hbi
 obtain ⟨⟨j0,j1⟩,j2,j3,j4⟩:=haj
 have hr:∀ x:Int,0 ≤ x→(u.rest.set j.toNat (rj - (all - ri))).getD x.toNat 0 = if x = j then rj - (all - ri) else u.rest.getD x.toNat 0:=fun x hx=>getD_setI _ _ _ _ (by omega) hx
 have hrB:∀ x ∈ B,(u.rest.set j.toNat (rj - (all - ri))).getD x.toNat 0 = u.rest.getD x.toNat 0:=fun x hx=>by rw [hr x (h.B x ((hBm x).2 (.inr hx))).1.1,if_neg (show ¬ x = j from fun e=>hjB (by rw [← e];exact hx))]
 have hrA:∀ x ∈ A,(u.rest.set j.toNat (rj - (all - ri))).getD x.toNat 0 = u.rest.getD x.toNat 0:=fun x hx=>by rw [hr x (h.A x ((hAm x).2 (.inr hx))).1.1,if_neg (show ¬ x = j from fun e=>hjA (by rw [← e];exact hx))]
 have hrjj:=hr j j0
 rw [if_pos rfl] at hrjj
 have hcs:∀ c:Nat,c < t.length→(u.cut.set i.toNat ri).getD c 0 = if (c:Int) = i then ri else u.cut.getD c 0:=fun c hc=>by
  have:=getD_setI u.cut i c ri (by omega) (by omega)
  simpa using this
 have hos:∀ c:Nat,c < t.length→(u.oth.set i.toNat j).getD c 0 = if (c:Int) = i then j else u.oth.getD c 0:=fun c hc=>by
  have:=getD_setI u.oth i c j (by omega) (by omega)
  simpa using this
 have hsB:=map_sum_congr (l:=B) (f:=fun x=>all - (u.rest.set j.toNat (rj - (all - ri))).getD x.toNat 0) (g:=fun x=>all - u.rest.getD x.toNat 0) (fun x hx=>by rw [hrB x hx])
 have hsA:=map_sum_congr (l:=A) (f:=fun x=>(u.rest.set j.toNat (rj - (all - ri))).getD x.toNat 0 - all) (g:=fun x=>u.rest.getD x.toNat 0 - all) (fun x hx=>by rw [hrA x hx])
 have hcut:∀ c:Nat,c < t.length→0 ≤ (u.cut.set i.toNat ri).getD c 0∧(u.cut.set i.toNat ri).getD c 0 ≤ all:=fun c hc=>by
  rw [hcs c hc];split
  ·omega
  ·exact h.cut c hc
 have hoth:∀ c:Nat,c < t.length→(0 ≤ (u.oth.set i.toNat j).getD c 0∧(u.oth.set i.toNat j).getD c 0 < t.length)∧((u.cut.set i.toNat ri).getD c 0 = all∨0 < t.getD ((u.oth.set i.toNat j).getD c 0).toNat 0):=fun c hc=>by
  rw [hos c hc,hcs c hc];split
  ·exact ⟨⟨j0,j1⟩,.inr j4⟩
  ·exact h.oth c hc
 have hzero:∀ c:Nat,c < t.length→¬ 0 < t.getD c 0→(u.rest.set j.toNat (rj - (all - ri))).getD c 0 = 0∧((c:Int) ∈ B∨(u.cut.set i.toNat ri).getD c 0 = 0):=fun c hc hp=>by
  obtain ⟨z1,z2⟩:=h.zero c hc hp
  have hcj:(c:Int) ≠ j:=fun e=>by rw [← e] at j4;exact hp (by simpa using j4)
  have e1:=hr c (by omega)
  rw [if_neg hcj] at e1
  rw [Int.toNat_natCast] at e1
  refine ⟨e1.trans z1,?_⟩
  rw [hcs c hc]
  by_cases hci:(c:Int) = i
  ·rw [if_pos hci];right
   rw [← hri,← hci,Int.toNat_natCast];exact z1
  ·rw [if_neg hci]
   rcases z2 with z2 | z2
   ·exact .inl (((hBm _).1 z2).resolve_left hci)
   ·exact .inr z2
 have hBk:∀ x ∈ B,(0 ≤ x∧x < t.length)∧0 ≤ (u.rest.set j.toNat (rj - (all - ri))).getD x.toNat 0∧(u.rest.set j.toNat (rj - (all - ri))).getD x.toNat 0 < all:=fun x hx=>by rw [hrB x hx];exact h.B x ((hBm x).2 (.inr hx))
 have hAk:∀ x ∈ A,(0 ≤ x∧x < t.length)∧all < (u.rest.set j.toNat (rj - (all - ri))).getD x.toNat 0∧(u.rest.set j.toNat (rj - (all - ri))).getD x.toNat 0 ≤ 1099511627776∧0 < t.getD x.toNat 0:=fun x hx=>by rw [hrA x hx];exact h.A x ((hAm x).2 (.inr hx))
 unfold alStep
 rw [hri,hrj]
 dsimp only
 by_cases c1:rj - (all - ri) > all
 ·rw [if_pos c1,if_pos c1]
  refine ⟨by simp [hlr],by simp [hlc],by simp [hlo],?_,hBk,fun x hx=>?_,?_,hcut,hoth,hzero⟩
  ·refine List.nodup_append.2 ⟨nB,List.nodup_cons.2 ⟨hjA,nA⟩,fun a ha b hb=>?_⟩
   rcases List.mem_cons.1 hb with rfl | hb
   ·exact fun e=>hjB (e ▸ ha)
   ·exact hBA a ha b hb
  ·rcases List.mem_cons.1 hx with rfl | hx
   ·dsimp only;rw [hrjj];exact ⟨⟨j0,j1⟩,by omega,by omega,j4⟩
   ·exact hAk x hx
  ·dsimp only
   rw [List.map_cons,List.sum_cons,hsB,hsA,hrjj];omega
 ·rw [if_neg c1,if_neg c1]
  by_cases c2:rj - (all - ri) < all
  ·rw [if_pos c2]
   have hsm:∀ x,x ∈ srt (j :: B) ↔ x = j∨x ∈ B:=fun x=>by rw [(srt_perm _).mem_iff,List.mem_cons]
   refine ⟨by simp [hlr],by simp [hlc],by simp [hlo],?_,fun x hx=>?_,hAk,?_,hcut,hoth,fun c hc hp=>⟨(hzero c hc hp).1,(hzero c hc hp).2.imp (fun hm=>(hsm _).2 (.inr hm)) id⟩⟩
   ·refine List.nodup_append.2 ⟨(srt_perm _).nodup_iff.2 (List.nodup_cons.2 ⟨hjB,nB⟩),nA,fun a ha b hb=>?_⟩
    rcases (hsm a).1 ha with rfl | ha
    ·exact fun e=>hjA (e ▸ hb)
    ·exact hBA a ha b hb
   ·rcases (hsm x).1 hx with rfl | hx
    ·dsimp only;rw [hrjj];exact ⟨⟨j0,j1⟩,by omega,by omega⟩
    ·exact hBk x hx
   ·dsimp only
    rw [srt_sum,hsB,hsA,hrjj];omega
  ·rw [if_neg c2]
   refine ⟨by simp [hlr],by simp [hlc],by simp [hlo],?_,hBk,hAk,?_,hcut,hoth,hzero⟩
   ·exact List.nodup_append.2 ⟨nB,nA,hBA⟩
   ·dsimp only
    rw [hsB,hsA];omega
structure AlJ (t:List Int) (all:Int) (n:Nat) (u:AlS):Prop where
 lr:u.rest.length = t.length
 lc:u.cut.length = t.length
 lo:u.oth.length = t.length
 nd:(u.B ++ u.A).Nodup
 B:∀ i ∈ u.B,(0 ≤ i∧i < n)∧0 ≤ u.rest.getD i.toNat 0∧u.rest.getD i.toNat 0 < all
 A:∀ j ∈ u.A,(0 ≤ j∧j < n)∧all < u.rest.getD j.toNat 0∧u.rest.getD j.toNat 0 ≤ 1099511627776∧0 < t.getD j.toNat 0
 sum:(u.B.map fun i=>all - u.rest.getD i.toNat 0).sum - (u.A.map fun j=>u.rest.getD j.toNat 0 - all).sum = n * all - t.length * (t.take n).sum
 cut:∀ c:Nat,c < n→u.cut.getD c 0 = all
 oth:∀ c:Nat,c < n→u.oth.getD c 0 = c
 zero:∀ c:Nat,c < n→¬ 0 < t.getD c 0→u.rest.getD c 0 = 0∧(c:Int) ∈ u.B
theorem AlJ.start (t:List Int) (all:Int):AlJ t all 0 (alIn t all 0):=⟨by simp [alIn],by simp [alIn],by simp [alIn],by simp [alIn],by simp [alIn],by simp [alIn],by simp [alIn],fun c h=>by omega,fun c h=>by omega,fun c h=>by omega⟩
theorem AlJ.step {t:List Int} {all:Int} {n:Nat} (hw:∀ w ∈ t,0 ≤ w∧w ≤ 16777215) (hl:t.length ≤ 65536) (ha:0 < all) (hn:n < t.length) (h:AlJ t all n (alIn t all n)):AlJ t all (n + 1) (alIn t all (n + 1)):=by
 have hb:=hw _ (mem_getD.2 ⟨n,hn,rfl⟩)
 have hts:(t.take (n + 1)).sum = (t.take n).sum + t.getD n 0:=by rw [take_succ' hn 0,List.sum_append];simp
 unfold alIn
 generalize alIn t all n = u at *
 obtain ⟨h1,h2,h3,h4,h5,h6,h7,h8,h9,h10⟩:=h
 have hr0:0 ≤ t.getD n 0 * t.length:=Int.mul_nonneg hb.1 (by omega)
 have hr1:t.getD n 0 * t.length ≤ 16777215 * 65536:=Int.mul_le_mul hb.2 (by omega) (by omega) (by omega)
 have hr2:t.getD n 0 * t.length = t.length * t.getD n 0:=Int.mul_comm _ _
 have hr3:¬ 0 < t.getD n 0→t.getD n 0 * t.length = 0:=fun hz=>by rw [show t.getD n 0 = 0 by omega,Int.zero_mul]
 have hS:((n + 1:Nat):Int) * all - t.length * (t.take (n + 1)).sum = n * all + all - (t.length * (t.take n).sum + t.getD n 0 * (t.length:Int)):=by
  rw [hts,Int.mul_add,← hr2,show ((n + 1:Nat):Int) = (n:Int) + 1 by omega,Int.add_mul,Int.one_mul]
 generalize hr:t.getD n 0 * (t.length:Int) = r at *
 dsimp only
 have G:∀ x:Int,0 ≤ x→(u.rest.set n r).getD x.toNat 0 = if x = n then r else u.rest.getD x.toNat 0:=fun x hx=>by
  have:=getD_setI u.rest n x r (by omega) hx
  rwa [Int.toNat_natCast] at this
 have GB:∀ x ∈ u.B,(u.rest.set n r).getD x.toNat 0 = u.rest.getD x.toNat 0:=fun x hx=>by rw [G x (h5 x hx).1.1,if_neg (by have:=(h5 x hx).1;omega)]
 have GA:∀ x ∈ u.A,(u.rest.set n r).getD x.toNat 0 = u.rest.getD x.toNat 0:=fun x hx=>by rw [G x (h6 x hx).1.1,if_neg (by have:=(h6 x hx).1;omega)]
 have Gn:=G n (by omega)
 rw [if_pos rfl] at Gn
 have hnB:(n:Int) ∉ u.B:=fun hm=>by have:=(h5 _ hm).1;omega
 have hnA:(n:Int) ∉ u.A:=fun hm=>by have:=(h6 _ hm).1;omega
 have hsB:=map_sum_congr (l:=u.B) (f:=fun x=>all - (u.rest.set n r).getD x.toNat 0) (g:=fun x=>all - u.rest.getD x.toNat 0) (fun x hx=>by rw [GB x hx])
 have hsA:=map_sum_congr (l:=u.A) (f:=fun x=>(u.rest.set n r).getD x.toNat 0 - all) (g:=fun x=>u.rest.getD x.toNat 0 - all) (fun x hx=>by rw [GA x hx])
 have hBk:∀ x ∈ u.B,(0 ≤ x∧x < (n + 1:Nat))∧0 ≤ (u.rest.set n r).getD x.toNat 0∧(u.rest.set n r).getD x.toNat 0 < all:=fun x hx=>by
  rw [GB x hx];have:=h5 x hx;exact ⟨by omega,this.2⟩
 have hAk:∀ x ∈ u.A,(0 ≤ x∧x < (n + 1:Nat))∧all < (u.rest.set n r).getD x.toNat 0∧(u.rest.set n r).getD x.toNat 0 ≤ 1099511627776∧0 < t.getD x.toNat 0:=fun x hx=>by
  rw [GA x hx];have:=h6 x hx;exact ⟨by omega,this.2⟩
 have hcut:∀ c:Nat,c < n + 1→(u.cut.set n all).getD c 0 = all:=fun c hc=>by
  rw [getD_set _ _ _ _ (by omega)];split
  ·rfl
  ·exact h8 c (by omega)
 have hoth:∀ c:Nat,c < n + 1→(u.oth.set n (n:Int)).getD c 0 = c:=fun c hc=>by
  rw [getD_set _ _ _ _ (by omega)];split
  ·omega
  ·exact h9 c (by omega)
 have hz:∀ c:Nat,c < n→¬ 0 < t.getD c 0→(u.rest.set n r).getD c 0 = 0∧(c:Int) ∈ u.B:=fun c hc hp=>by
  obtain ⟨z1,z2⟩:=h10 c hc hp
  rw [getD_set _ _ _ _ (by omega),if_neg (by omega)];exact ⟨z1,z2⟩
 obtain ⟨n1,n2,n3⟩:=List.nodup_append.1 h4
 by_cases c1:r < all
 ·rw [if_pos c1,if_pos c1]
  have hsm:∀ x,x ∈ srt ((n:Int) :: u.B) ↔ x = n∨x ∈ u.B:=fun x=>by rw [(srt_perm _).mem_iff,List.mem_cons]
  refine ⟨by simp [h1],by simp [h2],by simp [h3],?_,fun x hx=>?_,hAk,?_,hcut,hoth,fun c hc hp=>?_⟩
  ·refine List.nodup_append.2 ⟨(srt_perm _).nodup_iff.2 (List.nodup_cons.2 ⟨hnB,n1⟩),n2,fun a ha' b hb'=>?_⟩
   rcases (hsm a).1 ha' with rfl | ha'
   ·exact fun e=>hnA (by rw [e];exact hb')
   ·exact n3 a ha' b hb'
  ·rcases (hsm x).1 hx with rfl | hx
   ·dsimp only;rw [Gn];exact ⟨by omega,by omega,by omega⟩
   ·exact hBk x hx
  ·dsimp only;rw [srt_sum,hsB,hsA,Gn,hS];omega
  ·by_cases e:c = n
   ·subst e
    rw [Int.toNat_natCast] at Gn
    exact ⟨Gn.trans (hr3 hp),(hsm _).2 (.inl rfl)⟩
   ·exact ⟨(hz c (by omega) hp).1,(hsm _).2 (.inr (hz c (by omega) hp).2)⟩
 ·rw [if_neg c1,if_neg c1]
  have hp1:0 < t.getD n 0:=Classical.byContradiction fun hp=>by have:=hr3 hp;omega
  have hzk:∀ c:Nat,c < n + 1→¬ 0 < t.getD c 0→(u.rest.set n r).getD c 0 = 0∧(c:Int) ∈ u.B:=fun c hc hp=>by
   by_cases e:c = n
   ·subst e;exact absurd hp1 hp
   ·exact hz c (by omega) hp
  by_cases c2:r > all
  ·rw [if_pos c2]
   have hsm:∀ x,x ∈ srt ((n:Int) :: u.A) ↔ x = n∨x ∈ u.A:=fun x=>by rw [(srt_perm _).mem_iff,List.mem_cons]
   refine ⟨by simp [h1],by simp [h2],by simp [h3],?_,hBk,fun x hx=>?_,?_,hcut,hoth,hzk⟩
   ·refine List.nodup_append.2 ⟨n1,(srt_perm _).nodup_iff.2 (List.nodup_cons.2 ⟨hnA,n2⟩),fun a ha' b hb'=>?_⟩
    rcases (hsm b).1 hb' with rfl | hb'
    ·exact fun e=>hnB (by rw [← e];exact ha')
    ·exact n3 a ha' b hb'
   ·rcases (hsm x).1 hx with rfl | hx
    ·dsimp only;rw [Gn,Int.toNat_natCast];exact ⟨by omega,by omega,by omega,hp1⟩
    ·exact hAk x hx
   ·dsimp only;rw [srt_sum,hsB,hsA,Gn,hS];omega
  ·rw [if_neg c2]
   refine ⟨by simp [h1],by simp [h2],by simp [h3],h4,hBk,hAk,?_,hcut,hoth,hzk⟩
   dsimp only;rw [hsB,hsA,hS];omega
theorem AlJ.all {t:List Int} {all:Int} (hw:∀ w ∈ t,0 ≤ w∧w ≤ 16777215) (hl:t.length ≤ 65536) (ha:0 < all):∀ n:Nat,n ≤ t.length→AlJ t all n (alIn t all n)
 | 0,_=>AlJ.start t all
 | n + 1,h=>AlJ.step hw hl ha h (AlJ.all hw hl ha n (by omega))
theorem AlJ.done {t:List Int} {u:AlS} (ha:0 < t.sum) (h:AlJ t t.sum t.length u):AlI t t.sum u:=by
 refine ⟨h.lr,h.lc,h.lo,h.nd,h.B,h.A,?_,fun c hc=>?_,fun c hc=>?_,fun c hc hp=>?_⟩
 ·have:=h.sum
  rw [List.take_length] at this
  omega
 ·rw [h.cut c hc];omega
 ·rw [h.cut c hc,h.oth c hc];exact ⟨by omega,.inl rfl⟩
 ·exact ⟨(h.zero c hc hp).1,.inl (h.zero c hc hp).2⟩
def alMu (u:AlS):Nat:=u.B.length + 2 * u.A.length
theorem alStep_mu {all:Int} {u:AlS} {i j:Int} {B A:List Int} (hB:u.B = i :: B) (hA:u.A = j :: A):alMu (alStep all u i j B A) < alMu u:=by
 unfold alMu alStep
 dsimp only
 rw [hB,hA]
 split
 ·simp only [List.length_cons];omega
 ·split
  ·rw [srt_length];simp only [List.length_cons];omega
  ·simp only [List.length_cons];omega
theorem alRun_more {all:Int} (f:Nat):∀ (g:Nat) (u:AlS),alMu u ≤ f→alMu u ≤ g→alRun all f u = alRun all g u:=by
 have key:∀ (f:Nat) (u:AlS),alMu u = 0→alRun all f u = u:=fun f u h=>by
  cases f with
  | zero=>rfl
  | succ f=>
   unfold alRun
   have:u.B = []:=List.eq_nil_of_length_eq_zero (by unfold alMu at h;omega)
   rw [this]
 induction f with
 | zero=>intro g u h1 _;rw [key 0 u (by omega),key g u (by omega)]
 | succ f ih=>
  intro g u h1 h2
  cases g with
  | zero=>rw [key (f + 1) u (by omega),key 0 u (by omega)]
  | succ g=>
   unfold alRun
   split
   ·rename_i i B j A hB hA
    have:=alStep_mu (all:=all) hB hA
    exact ih g _ (by omega) (by omega)
   ·rfl
def alEnd (all:Int) (u:AlS):AlS:=alRun all (alMu u) u
theorem alEnd_stop {all:Int} {u:AlS} (h:u.B = []):alEnd all u = u:=by
 unfold alEnd
 cases alMu u with
 | zero=>rfl
 | succ f=>unfold alRun;rw [h]
theorem alEnd_step {all:Int} {u:AlS} {i j:Int} {B A:List Int} (hB:u.B = i :: B) (hA:u.A = j :: A):alEnd all u = alEnd all (alStep all u i j B A):=by
 have hm:=alStep_mu (all:=all) hB hA
 unfold alEnd
 obtain ⟨k,hk⟩ : ∃ k,alMu u = k + 1:=⟨alMu u - 1,by omega⟩
 rw [hk]
 conv=>lhs;unfold alRun
 rw [hB,hA]
 exact alRun_more _ _ _ (by omega) (Nat.le_refl _)
theorem AlI.end {t:List Int} {all:Int} (ha:0 < all∧all ≤ 1099511627776) (m:Nat):∀ u,alMu u ≤ m→AlI t all u→AlI t all (alEnd all u)∧(alEnd all u).B = []:=by
 induction m with
 | zero=>
  intro u hm h
  have hB:u.B = []:=List.eq_nil_of_length_eq_zero (by unfold alMu at hm;omega)
  rw [alEnd_stop hB];exact ⟨h,hB⟩
 | succ m ih=>
  intro u hm h
  cases hB:u.B with
  | nil=>rw [alEnd_stop hB];exact ⟨h,hB⟩
  | cons i B=>
   cases hA:u.A with
   | nil=>exact absurd hA (h.more (by rw [hB];simp))
   | cons j A=>
    have:=alStep_mu (all:=all) hB hA
    rw [alEnd_step hB hA]
    exact ih _ (by omega) (h.step ha hB hA)
def alF (t:List Int):AlS:=alEnd t.sum (alIn t t.sum t.length)
theorem alF_ok {t:List Int} (hw:∀ w ∈ t,0 ≤ w∧w ≤ 16777215) (hl:1 ≤ t.length∧t.length ≤ 65536) (ha:0 < t.sum):alE t.sum (alF t).cut (alF t).oth = 0∧(alF t).cut.length = t.length∧∀ c l:Int,0 ≤ c∧c < t.length→0 ≤ l∧l < t.sum→0 < t.getD (alPick t.sum (alF t).cut (alF t).oth c l).toNat 0:=by
 have hs:=sum_bound hw
 have hall:0 < t.sum∧t.sum ≤ 1099511627776:=by omega
 obtain ⟨hI,hB⟩:=AlI.end hall _ _ (Nat.le_refl _) ((AlJ.all hw hl.2 ha t.length (Nat.le_refl _)).done ha)
 change AlI t t.sum (alF t) at hI
 change (alF t).B = [] at hB
 generalize alF t = u at *
 refine ⟨?_,hI.lc,fun c l hc hl'=>?_⟩
 ·unfold alE
  rw [if_neg (by rw [hI.lc,hI.lo];omega),if_neg]
  rw [Bool.or_eq_true,List.any_eq_true,List.any_eq_true]
  rintro (⟨x,hx,hb⟩ | ⟨x,hx,hb⟩)
  ·obtain ⟨c,hc,rfl⟩:=mem_getD.1 hx
   have:=hI.cut c (by rw [← hI.lc];exact hc)
   have hb:=of_decide_eq_true hb
   omega
  ·obtain ⟨c,hc,rfl⟩:=mem_getD.1 hx
   have:=(hI.oth c (by rw [← hI.lo];exact hc)).1
   have hb:=of_decide_eq_true hb
   rw [hI.lc] at hb
   omega
 ·have h1:=hI.oth c.toNat (by omega)
  have h2:=hI.zero c.toNat (by omega)
  unfold alPick
  split
  ·rename_i hlt
   refine Classical.byContradiction fun hn=>?_
   have:=(h2 hn).2
   rw [hB] at this
   rcases this with h | h
   ·cases h
   ·omega
  ·rename_i hlt
   rcases h1.2 with h | h
   ·omega
   ·exact h
open Go Go.Proofs Go.RowKit
section
variable {P:Program} {E:Env P} {n:Sh} {X:Cx} {s:List K} {fr:Fr} {A:List Ch} {ops:Array Oper} {fuel:Nat} {listed:Array Bool} {S:World→Prop} {a b:Code}
theorem sq_cutX {ι:Type} (p:ι→Prop) (fr':ι→Fr) (B:ι→List Ch) (hb:∀ i,p i→TC E n X s b (fr' i) (B i)) (ha:(∀ i,p i→∀ fr2 A2,Sub (fr' i) fr2→∀ {G},Fit A2 (B i) G→TC E n X s b fr2 A2)→TC E n X (.code b :: s) a fr A):TC E n X s (.seq a b) fr A:=
 sq (ha fun i hp fr2 A2 hs _ hf=>⟨fun w hw=>SC_sub (fr' i) hs ((hb i hp).run w ((hw.im hf).im (Im.drop _ _)))⟩)
theorem t3 (i j k:Nat) {oi oj ok:Oper} (h1:TO E n ⟨RQ P ops n.r (NP P n.r X.Q s) S fuel (listed.setIfInBounds i true),X.w0,X.A0⟩ [] ops [oi] fr A) (h2:TO E n ⟨RQ P ops n.r (NP P n.r X.Q s) S fuel (listed.setIfInBounds j true),X.w0,X.A0⟩ [] ops [oj] fr A)
  (h3:TO E n ⟨RQ P ops n.r (NP P n.r X.Q s) S fuel (listed.setIfInBounds k true),X.w0,X.A0⟩ [] ops [ok] fr A) (hi:ops[i]? = some oi:=by rfl) (hj:ops[j]? = some oj:=by rfl) (hk:ops[k]? = some ok:=by rfl)
  (hr:Region.ready .any ops listed = [i,j,k]:=by kernel_rfl):TS E n X s S ops (fuel + 1) listed fr A:=
 tn [i,j,k] hr (by simp) fun m hm=>by
  simp only [List.mem_cons,List.not_mem_nil,or_false] at hm
  rcases hm with rfl | rfl | rfl
  ·exact ⟨oi,hi,h1⟩
  ·exact ⟨oj,hj,h2⟩
  ·exact ⟨ok,hk,h3⟩
theorem tkw (i:Nat) (c:Int) {m:Int} {d:Nat} {o:Op} {ty:TypeId} {pos:String} {after:Array Edge} (k:TS E n X s S ops fuel (listed.setIfInBounds i true) ((d,I c) :: fr) A) (hi:ops[i]? = some ⟨some d,o,ty,pos,after,none⟩:=by rfl) (hv:evOp E fr o = some (.int .i64 (IntKind.i64.wrap m)):=by rfl) (he:m = c:=by first | rfl | assumption | omega) (hb : -9223372036854775808 ≤ c∧c ≤ 9223372036854775807:=by omega) (hs:Region.noSelect ops = true:=by kernel_rfl) (hf:Region.free .any ops listed i = true:=by kernel_rfl)
  (hr:(Region.ready .any ops listed).contains i = true:=by kernel_rfl) (hrd:n.r = none:=by rfl) (hd:Nat.blt d n.n = true:=by rfl) (hab:∀ w ρ,(⟨some d,o,ty,pos,after,none⟩ : Oper).about P w ρ = none:=by exact fun _ _=>rfl):TS E n X s S ops (fuel + 1) listed fr A:=
 tk i (fun _ _=>by subst he;exact R_wrap (R_auto hv) hb) k hi hs hf hr hrd hd hab
theorem res_at {fn:Func} {w:World} {a:Act} (ha:Holds n a fr) {t u:Nat} {ty T:TypeId} {dt:TypeDesc} {z:Value} {sz by_ b:Nat} {cs vs:List Value} {v2:Value} (hr:fn.results = #[.cell t ty,.tmp u]) (ht:lk E.und ty = some dt) (hg:aggB dt = true) (hi:lk E.inf ty = some (z,sz,by_)) (h1:get fr t = some (ptr b))
  (hb:w.heap[b]? = some (.cells cs.toArray T (0,0))) (hv:cs.take sz = vs) (hl:vs.length = sz) (h2:get fr u = some v2):(results fn a.tmps).run P w = .ok (.tuple #[.agg vs.toArray,v2]) w:=by
 obtain ⟨inf,g1,_,g2,_⟩:=E.info hi
 have h3:=run_loadCells_list (P:=P) w ⟨b,0,none⟩ vs (fun m u hm=>by
  rw [Addr.add_lit]
  refine blk_cell hb ?_
  rw [← hv,List.getElem?_take] at hm
  split at hm
  ·simpa using hm
  ·cases hm)
 rw [hl] at h3
 have e1:a.tmps[t]?.getD undef = ptr b:=by have:=ha.slot t _ h1;simpa using this
 have e2:a.tmps[u]?.getD undef = v2:=by have:=ha.slot u _ h2;simpa using this
 simp only [results,hr]
 simp [e1,e2,asAddr,loadVar,aggB_t (w:=w) ht hg,sizeOf,typeInfo,g1,g2,h3]
theorem rca {w0:World} {A0 D G:List Ch} {R':Value→List Ch→Prop} {fn:Func} {t u nn:Nat} {ty T:TypeId} {dt:TypeDesc} {z:Value} {sz by_ b:Nat} {cs vs:List Value} {v2:Value} (h:R' (.tuple #[.agg vs.toArray,v2]) D) (hr:fn.results = #[.cell t ty,.tmp u]:=by rfl) (ht:lk E.und ty = some dt:=by rfl) (hg:aggB dt = true:=by rfl) (hi:lk E.inf ty = some (z,sz,by_):=by rfl)
  (hv:get fr t = some (ptr b):=by rfl) (hv2:get fr u = some v2:=by rfl) (hm:pt b cs T ∈ A:=by exact memA) (hcs:cs.take sz = vs:=by rfl) (hl:vs.length = sz:=by rfl) (hf:Fit A D G:=by exact fitA) (nb:∀ c ∈ D,∀ b,¬ c.bd b:=by (repeat (first | exact nb0 | refine nb1 ?_));first | done | fail) :
  TX E ⟨nn,[],none⟩ ⟨bodyPost P fn (RetP (PR w0 A0 R')),w0,A0⟩ [] .ret fr A:=⟨fun w hw=>⟨fun a ha=>
 bodyPost_ret (res_at (E:=E) ha hr ht hg hi hv (hw.mem hm) hcs hl hv2) (ha.defers.trans rfl) ⟨_,rfl,PR.mk h hw hf nb⟩⟩⟩
end
section
variable {P:Program} {E:Env P} {n:Sh} {X:Cx} {s:List K} {fr:Fr} {A:List Ch} {a b:Code}
theorem cutK {ι:Type} (p:ι→Prop) (fr':ι→Fr) (B:ι→List Ch) (hb:∀ i,p i→TC E n X s b (fr' i) (B i)) (ha:(∀ i,p i→∀ fr2 A2,Sub (fr' i) fr2→∀ {G},Fit A2 (B i) G→TC E n X s b fr2 A2)→TC E n X (.code b :: s) a fr A):TC E n X (.code b :: s) a fr A:=
 ha fun i hp fr2 A2 hs _ hf=>⟨fun w hw=>SC_sub (fr' i) hs ((hb i hp).run w ((hw.im hf).im (Im.drop _ _)))⟩
theorem sq_cutY {ι:Type} (p:ι→Prop) (fr':ι→Fr) (B:ι→List Ch) (hb:∀ i,p i→TC E n X s b (fr' i) (B i)) (ha:∀ b':Code,(∀ i,p i→∀ fr2 A2,Sub (fr' i) fr2→∀ {G},Fit A2 (B i) G→TC E n X s b' fr2 A2)→TC E n X (.code b' :: s) a fr A):TC E n X s (.seq a b) fr A:=
 sq (ha b fun i hp fr2 A2 hs _ hf=>⟨fun w hw=>SC_sub (fr' i) hs ((hb i hp).run w ((hw.im hf).im (Im.drop _ _)))⟩)
end
end Go.Art
namespace Go.Art
open Go Go.Proofs Go.RowKit
attribute [local irreducible] Fit pt own ro vw mpc lpt vels rels mow lrc dfr
attribute [local irreducible] lmp lme mit velg relg
structure MkG where
 i:Nat
 hb:List Int
 ha:List Int
 bv:Value
 av:Value
structure MkH where
 u:AlS
 hb:List Int
 ha:List Int
 bv:Value
 av:Value
theorem alIn_len (t:List Int) (all:Int):∀ n,(alIn t all n).B.length + (alIn t all n).A.length ≤ n
 | 0=>by simp [alIn]
 | n + 1=>by
  have:=alIn_len t all n
  unfold alIn
  dsimp only
  split
  ·rw [srt_length,List.length_cons];omega
  ·split
   ·rw [srt_length,List.length_cons];omega
   ·omega
theorem alStep_len {all:Int} {u:AlS} {i j:Int} {B A:List Int} (hB:u.B = i :: B) (hA:u.A = j :: A):(alStep all u i j B A).B.length + (alStep all u i j B A).A.length ≤ u.B.length + u.A.length:=by
 unfold alStep
 dsimp only
 rw [hB,hA]
 split
 ·simp only [List.length_cons];omega
 ·split
  ·rw [srt_length];simp only [List.length_cons];omega
  ·simp only [List.length_cons];omega
theorem setI_get (l:List Int) (i:Nat) (x:Int) (h:i < l.length):(l.set i x).getD i 0 = x:=by rw [getD_set _ _ _ _ h,if_pos rfl]
theorem Make_tr (s:Value) (t:List Int) (hl:1 ≤ t.length∧t.length ≤ 65536) (hw:∀ w ∈ t,0 ≤ w∧w ≤ 16777215) (hpos:0 < t.sum):Tr Tryz.prog 92 [s] [vw s (Is t)] []
  fun v D=>∃ cv ov,v = tup2 (.agg #[I t.sum,cv,ov]) (I 0)∧D = [own 3 cv (Is (alF t).cut),own 3 ov (Is (alF t).oth)]∧cv.oneCell' = true∧ov.oneCell' = true:=by
 have hsb:=sum_bound hw
 refine Tr.enter env _ Tryz.func92 (by kernel_rfl) rfl Tryz.ntmps92 rfl (by repeat (first | exact has00 | refine has01 ?_)) fun w0=>?_
 repeat' first|(refine gca ?_;first|(refine ca (Total_tr s t hl hw) ?_;rintro _ _ ⟨rfl,rfl⟩))|refine al fun br=>?_|refine sq_cutX (a:=.region 4 _ _) (ι:=Nat × Value × Value) (fun i=>i.2.1.oneCell' = true∧i.2.2.oneCell' = true) (fun i=>[(0,s),(2,ptr br),(4,I t.length),(5,I t.sum),(6,ptr i.1)]) (fun i=>[vw s (Is t),pt br [I 0,nS,nS] TAl,pt i.1 [I t.sum,i.2.1,i.2.2] TAl,own 3 i.2.1 (Is (List.replicate t.length 0)),own 3 i.2.2 (Is (List.replicate t.length 0))]) ?_ (fun kb=>?_)|refine rs (id:=4) (fun _=>True) ?_ (fun _ _=>trivial)|(refine wo ?_;first|(refine ao ?_;first|refine oa ?_)|refine oa ?_|refine lnm ?_)|(refine gc ?_;first|(refine ci (fun hB=>?_) (fun hB=>?_) <;> try (exfalso;omega)))|refine sq ?_|refine rg ?_|refine xc ?_|refine nl ?_|refine sk ?_
 rotate_left
 ·refine tka 0 ?_
  refine tka 1 ?_
  refine tka 3 ?_
  refine t3 2 4 6 ?_ ?_ ?_
  ·refine mki fun cv=>?_
   refine TO.one (v:=cv) (xs:=Is (List.replicate (t.length:Int).toNat 0)) fun hcv=>?_
   repeat' first|refine nl ?_
   refine te (fun _ _=>trivial) ?_
   refine t2 4 6 ?_ ?_
   ·refine mki fun ov=>?_
    refine TO.one (v:=ov) (xs:=Is (List.replicate (t.length:Int).toNat 0)) fun hov=>?_
    repeat' first|refine nl ?_
    refine te (fun _ _=>trivial) ?_
    refine t2 5 6 ?_ ?_
    ·refine bdz ?_
     repeat' first|refine nl ?_
     refine te (fun _ _=>trivial) ?_
     refine t1 6 ?_
     refine al fun bo=>?_
     repeat' first|refine nl ?_
     refine te (fun _ _=>trivial) ?_
     refine t1 7 ?_
     refine srz ?_
     repeat' first|refine nl ?_
     refine te (fun _ _=>trivial) ?_
     refine t0 ?_
     refine xc ?_
     exact kb (bo,cv,ov) ⟨hcv,hov⟩ _ _ (by (repeat (refine Sub.cons rfl (by first | rfl | go_num) ?_));exact Sub.nil) fitA
    ·refine al fun bo=>?_
     repeat' first|refine nl ?_
     refine te (fun _ _=>trivial) ?_
     refine t1 5 ?_
     refine bdz ?_
     repeat' first|refine nl ?_
     refine te (fun _ _=>trivial) ?_
     refine t1 7 ?_
     refine srz ?_
     repeat' first|refine nl ?_
     refine te (fun _ _=>trivial) ?_
     refine t0 ?_
     refine xc ?_
     exact kb (bo,cv,ov) ⟨hcv,hov⟩ _ _ (by (repeat (refine Sub.cons rfl (by first | rfl | go_num) ?_));exact Sub.nil) fitA
   ·refine al fun bo=>?_
    repeat' first|refine nl ?_
    refine te (fun _ _=>trivial) ?_
    refine t1 4 ?_
    refine mki fun ov=>?_
    refine TO.one (v:=ov) (xs:=Is (List.replicate (t.length:Int).toNat 0)) fun hov=>?_
    repeat' first|refine nl ?_
    refine te (fun _ _=>trivial) ?_
    refine t1 5 ?_
    refine bdz ?_
    repeat' first|refine nl ?_
    refine te (fun _ _=>trivial) ?_
    refine t1 7 ?_
    refine srz ?_
    repeat' first|refine nl ?_
    refine te (fun _ _=>trivial) ?_
    refine t0 ?_
    refine xc ?_
    exact kb (bo,cv,ov) ⟨hcv,hov⟩ _ _ (by (repeat (refine Sub.cons rfl (by first | rfl | go_num) ?_));exact Sub.nil) fitA
  ·refine mki fun ov=>?_
   refine TO.one (v:=ov) (xs:=Is (List.replicate (t.length:Int).toNat 0)) fun hov=>?_
   repeat' first|refine nl ?_
   refine te (fun _ _=>trivial) ?_
   refine t2 2 6 ?_ ?_
   ·refine mki fun cv=>?_
    refine TO.one (v:=cv) (xs:=Is (List.replicate (t.length:Int).toNat 0)) fun hcv=>?_
    repeat' first|refine nl ?_
    refine te (fun _ _=>trivial) ?_
    refine t2 5 6 ?_ ?_
    ·refine bdz ?_
     repeat' first|refine nl ?_
     refine te (fun _ _=>trivial) ?_
     refine t1 6 ?_
     refine al fun bo=>?_
     repeat' first|refine nl ?_
     refine te (fun _ _=>trivial) ?_
     refine t1 7 ?_
     refine srz ?_
     repeat' first|refine nl ?_
     refine te (fun _ _=>trivial) ?_
     refine t0 ?_
     refine xc ?_
     exact kb (bo,cv,ov) ⟨hcv,hov⟩ _ _ (by (repeat (refine Sub.cons rfl (by first | rfl | go_num) ?_));exact Sub.nil) fitA
    ·refine al fun bo=>?_
     repeat' first|refine nl ?_
     refine te (fun _ _=>trivial) ?_
     refine t1 5 ?_
     refine bdz ?_
     repeat' first|refine nl ?_
     refine te (fun _ _=>trivial) ?_
     refine t1 7 ?_
     refine srz ?_
     repeat' first|refine nl ?_
     refine te (fun _ _=>trivial) ?_
     refine t0 ?_
     refine xc ?_
     exact kb (bo,cv,ov) ⟨hcv,hov⟩ _ _ (by (repeat (refine Sub.cons rfl (by first | rfl | go_num) ?_));exact Sub.nil) fitA
   ·refine al fun bo=>?_
    repeat' first|refine nl ?_
    refine te (fun _ _=>trivial) ?_
    refine t1 2 ?_
    refine mki fun cv=>?_
    refine TO.one (v:=cv) (xs:=Is (List.replicate (t.length:Int).toNat 0)) fun hcv=>?_
    repeat' first|refine nl ?_
    refine te (fun _ _=>trivial) ?_
    refine t1 5 ?_
    refine bdz ?_
    repeat' first|refine nl ?_
    refine te (fun _ _=>trivial) ?_
    refine t1 7 ?_
    refine srz ?_
    repeat' first|refine nl ?_
    refine te (fun _ _=>trivial) ?_
    refine t0 ?_
    refine xc ?_
    exact kb (bo,cv,ov) ⟨hcv,hov⟩ _ _ (by (repeat (refine Sub.cons rfl (by first | rfl | go_num) ?_));exact Sub.nil) fitA
  ·refine al fun bo=>?_
   repeat' first|refine nl ?_
   refine te (fun _ _=>trivial) ?_
   refine t2 2 4 ?_ ?_
   ·refine mki fun cv=>?_
    refine TO.one (v:=cv) (xs:=Is (List.replicate (t.length:Int).toNat 0)) fun hcv=>?_
    repeat' first|refine nl ?_
    refine te (fun _ _=>trivial) ?_
    refine t1 4 ?_
    refine mki fun ov=>?_
    refine TO.one (v:=ov) (xs:=Is (List.replicate (t.length:Int).toNat 0)) fun hov=>?_
    repeat' first|refine nl ?_
    refine te (fun _ _=>trivial) ?_
    refine t1 5 ?_
    refine bdz ?_
    repeat' first|refine nl ?_
    refine te (fun _ _=>trivial) ?_
    refine t1 7 ?_
    refine srz ?_
    repeat' first|refine nl ?_
    refine te (fun _ _=>trivial) ?_
    refine t0 ?_
    refine xc ?_
    exact kb (bo,cv,ov) ⟨hcv,hov⟩ _ _ (by (repeat (refine Sub.cons rfl (by first | rfl | go_num) ?_));exact Sub.nil) fitA
   ·refine mki fun ov=>?_
    refine TO.one (v:=ov) (xs:=Is (List.replicate (t.length:Int).toNat 0)) fun hov=>?_
    repeat' first|refine nl ?_
    refine te (fun _ _=>trivial) ?_
    refine t1 2 ?_
    refine mki fun cv=>?_
    refine TO.one (v:=cv) (xs:=Is (List.replicate (t.length:Int).toNat 0)) fun hcv=>?_
    repeat' first|refine nl ?_
    refine te (fun _ _=>trivial) ?_
    refine t1 5 ?_
    refine bdz ?_
    repeat' first|refine nl ?_
    refine te (fun _ _=>trivial) ?_
    refine t1 7 ?_
    refine srz ?_
    repeat' first|refine nl ?_
    refine te (fun _ _=>trivial) ?_
    refine t0 ?_
    refine xc ?_
    exact kb (bo,cv,ov) ⟨hcv,hov⟩ _ _ (by (repeat (refine Sub.cons rfl (by first | rfl | go_num) ?_));exact Sub.nil) fitA
 rintro ⟨bo,cv,ov⟩ ⟨hcv,hov⟩
 dsimp only at hcv hov ⊢
 repeat' first|refine mki fun rv=>?_|(refine wo ?_;first|refine oa ?_)|refine sq ?_|refine rg ?_|refine xc ?_|refine nl ?_
 refine TO.one (v:=rv) (xs:=Is (List.replicate (t.length:Int).toNat 0)) fun hrv=>?_
 repeat' first|refine al fun pa=>?_|(refine wo ?_;first|refine oa ?_|refine lnm ?_)|refine sq ?_|refine rg ?_|refine xc ?_|refine nl ?_|refine bk ?_
 rename_i pb
 refine TC.im (own_nil 3 _) ?_
 refine TC.im (own_nil 3 _) ?_
 have hall:=AlJ.all hw hl.2 hpos
 have hln:=alIn_len t t.sum
 refine TC.loop (ι:=MkG) (fun g=>[(31,I g.i)]) (fun g=>[own 3 rv (Is (alIn t t.sum g.i).rest),own 3 cv (Is (alIn t t.sum g.i).cut),own 3 ov (Is (alIn t t.sum g.i).oth),pt pb [g.bv] THp,own 3 g.bv (Is g.hb),pt pa [g.av] THp,own 3 g.av (Is g.ha)])
  (fun g=>g.i ≤ t.length∧Rep g.hb (alIn t t.sum g.i).B∧Rep g.ha (alIn t t.sum g.i).A) (fun g=>t.length - g.i) ⟨0,[],[],nS,nS⟩ [0,2,4,5,6,7,8,9,29,30] ⟨Nat.zero_le _,Rep.nil,Rep.nil⟩ ?_
 rintro ⟨i,hb,ha,bv,av⟩ ⟨hi,hrb,hra⟩
 dsimp only at hi hrb hra ⊢
 by_cases hlt:i < t.length
 ·have hst:alIn t t.sum (i + 1) = ⟨(alIn t t.sum i).rest.set i (t.getD i 0 * t.length),(alIn t t.sum i).cut.set i t.sum,(alIn t t.sum i).oth.set i i,if t.getD i 0 * t.length < t.sum then srt ((i:Int) :: (alIn t t.sum i).B) else (alIn t t.sum i).B,if t.getD i 0 * t.length < t.sum then (alIn t t.sum i).A else if t.getD i 0 * t.length > t.sum then srt ((i:Int) :: (alIn t t.sum i).A) else (alIn t t.sum i).A⟩:=rfl
  have hJ:=hall i hi
  have hL:=hln i
  have hx:=hw _ (mem_getD.2 ⟨i,hlt,rfl⟩)
  have hr0:0 ≤ t.getD i 0 * t.length:=Int.mul_nonneg hx.1 (by omega)
  have hr1:t.getD i 0 * t.length ≤ 16777215 * 65536:=Int.mul_le_mul hx.2 (by omega) (by omega) (by omega)
  have hu1:=hJ.lr
  have hu2:=hJ.lc
  have hu3:=hJ.lo
  clear hJ hall hln
  generalize alIn t t.sum i = U at *
  generalize hxe:t.getD i 0 = x at *
  generalize hre:x * (t.length:Int) = r at *
  have hq:=setI_get U.rest i r (by omega)
  have hbl:=hrb.len
  have hal:=hra.len
  repeat' first|refine lie hxe ?_|refine rs (id:=10) (fun w=>w.heap[bo]? = some (.cells #[I t.sum,cv,ov] TAl (0,0))∧(∃ xs,Sl w rv xs∧xs.length = t.length)∧(∃ xs,Sl w cv xs∧xs.length = t.length)∧(∃ xs,Sl w ov xs∧xs.length = t.length)) ?_ (fun w hw=>⟨pt_at memA hw,⟨_,has_sl hw hasA,by rw [Is_len];exact hu1⟩,⟨_,has_sl hw hasA,by rw [Is_len];exact hu2⟩,⟨_,has_sl hw hasA,by rw [Is_len];exact hu3⟩⟩)|(refine wo ?_;first|(refine ao ?_;first|refine oa ?_)|refine oa ?_|refine ixmn ?_)|(refine gc ?_;first|(refine ci (fun hB=>?_) (fun hB=>?_) <;> try (exfalso;omega)))|refine sq ?_|refine rg ?_|refine xc ?_|refine nl ?_|refine sk ?_|refine bk ?_
  refine tka 0 ?_
  refine tka 1 ?_
  refine tka 2 ?_
  refine tkl 3 (cs:=[I t.sum,cv,ov]) (fun w h=>h.1) ?_
  refine tka 4 ?_
  refine tka 5 ?_
  refine tkl 6 (cs:=[I t.sum,cv,ov]) (fun w h=>h.1) ?_
  refine tka 7 ?_
  refine tka 8 ?_
  refine tka 9 ?_
  refine tkw 10 r ?_
  refine tka 11 ?_
  refine tka 12 ?_
  refine tkx 13 (len:=t.length) (fun w h=>h.2.1) ?_
  refine t1 14 ?_
  refine soi (m:=r) (l:=U.rest) (j:=i) ?_
  repeat' first|refine nl ?_
  refine te (fun w hw=>⟨pt_at memA hw,⟨_,has_sl hw hasA,by rw [Is_len];first | assumption | (rw [List.length_set];assumption)⟩,⟨_,has_sl hw hasA,by rw [Is_len];first | assumption | (rw [List.length_set];assumption)⟩,⟨_,has_sl hw hasA,by rw [Is_len];first | assumption | (rw [List.length_set];assumption)⟩⟩) ?_
  refine tkx 15 (len:=t.length) (fun w h=>h.2.2.1) ?_
  refine t1 16 ?_
  refine soi (m:=t.sum) (l:=U.cut) (j:=i) ?_
  repeat' first|refine nl ?_
  refine te (fun w hw=>⟨pt_at memA hw,⟨_,has_sl hw hasA,by rw [Is_len];first | assumption | (rw [List.length_set];assumption)⟩,⟨_,has_sl hw hasA,by rw [Is_len];first | assumption | (rw [List.length_set];assumption)⟩,⟨_,has_sl hw hasA,by rw [Is_len];first | assumption | (rw [List.length_set];assumption)⟩⟩) ?_
  refine tkx 17 (len:=t.length) (fun w h=>h.2.2.2) ?_
  refine t1 18 ?_
  refine soi (m:=i) (l:=U.oth) (j:=i) ?_
  repeat' first|refine nl ?_
  refine te (fun w hw=>⟨pt_at memA hw,⟨_,has_sl hw hasA,by rw [Is_len];first | assumption | (rw [List.length_set];assumption)⟩,⟨_,has_sl hw hasA,by rw [Is_len];first | assumption | (rw [List.length_set];assumption)⟩,⟨_,has_sl hw hasA,by rw [Is_len];first | assumption | (rw [List.length_set];assumption)⟩⟩) ?_
  refine t0 ?_
  have hu1':i < (U.rest.set i r).length:=by rw [List.length_set,hu1];exact hlt
  by_cases c1:r < t.sum
  ·rw [if_pos c1,if_pos c1] at hst
   repeat' first|(refine gca ?_;first|(refine ca (push_tr pb bv hb i hrb.1 (by omega)) ?_;rintro _ _ ⟨bv',hb',rfl,hh,hp⟩))|refine lie hq ?_|(refine wo ?_;first|(refine ao ?_;first|refine aw ?_|refine oa ?_)|refine oa ?_|refine ixmn ?_)|(refine gc ?_;first|(refine ci (fun hB=>?_) (fun hB=>?_) <;> try (exfalso;omega)))|refine sq ?_|refine rg ?_|refine xc ?_|refine nl ?_|refine bk ?_|refine xb ?_
   refine lp ⟨i + 1,hb',ha,bv',av⟩ ⟨by dsimp only;omega,by dsimp only;rw [hst];exact hrb.push i hh hp,by dsimp only;rw [hst];exact hra⟩ (hf:=by dsimp only;rw [hst];exact fitA)
  ·rw [if_neg c1,if_neg c1] at hst
   by_cases c2:r > t.sum
   ·rw [if_pos c2] at hst
    repeat' first|(refine gca ?_;first|(refine ca (push_tr pa av ha i hra.1 (by omega)) ?_;rintro _ _ ⟨av',ha',rfl,hh,hp⟩))|refine lie hq ?_|(refine wo ?_;first|(refine ao ?_;first|refine aw ?_|refine oa ?_)|refine oa ?_|refine ixmn ?_)|(refine gc ?_;first|(refine ci (fun hB=>?_) (fun hB=>?_) <;> try (exfalso;omega)))|refine sq ?_|refine rg ?_|refine xc ?_|refine nl ?_|refine bk ?_|refine xb ?_
    refine lp ⟨i + 1,hb,ha',bv,av'⟩ ⟨by dsimp only;omega,by dsimp only;rw [hst];exact hrb,by dsimp only;rw [hst];exact hra.push i hh hp⟩ (hf:=by dsimp only;rw [hst];exact fitA)
   ·rw [if_neg c2] at hst
    repeat' first|refine lie hq ?_|(refine wo ?_;first|(refine ao ?_;first|refine aw ?_|refine oa ?_)|refine oa ?_|refine ixmn ?_)|(refine gc ?_;first|(refine ci (fun hB=>?_) (fun hB=>?_) <;> try (exfalso;omega)))|refine sq ?_|refine rg ?_|refine xc ?_|refine nl ?_|refine sk ?_|refine bk ?_|refine xb ?_
    refine lp ⟨i + 1,hb,ha,bv,av⟩ ⟨by dsimp only;omega,by dsimp only;rw [hst];exact hrb,by dsimp only;rw [hst];exact hra⟩ (hf:=by dsimp only;rw [hst];exact fitA)
 ·obtain rfl:i = t.length:=by omega
  have hI:=(hall t.length (Nat.le_refl _)).done hpos
  have hL:=hln t.length
  have hF:alEnd t.sum (alIn t t.sum t.length) = alF t:=rfl
  clear hall hln hlt hi
  repeat' first|(refine wo ?_;first|(refine ao ?_;first|refine oa ?_))|(refine gc ?_;first|(refine ci (fun hB=>?_) (fun hB=>?_) <;> try (exfalso;omega)))|refine sq ?_|refine rg ?_|refine xc ?_|refine nl ?_|refine bk ?_|refine xe ?_
  generalize alIn t t.sum t.length = U at *
  refine TC.loop (ι:=MkH) (fun _=>[]) (fun g=>[own 3 rv (Is g.u.rest),own 3 cv (Is g.u.cut),own 3 ov (Is g.u.oth),pt pb [g.bv] THp,own 3 g.bv (Is g.hb),pt pa [g.av] THp,own 3 g.av (Is g.ha)])
   (fun g=>AlI t t.sum g.u∧g.u.B.length + g.u.A.length ≤ t.length∧Rep g.hb g.u.B∧Rep g.ha g.u.A∧alEnd t.sum g.u = alF t) (fun g=>alMu g.u) ⟨U,hb,ha,bv,av⟩ [2,4,5,6,7,8,9] ⟨hI,hL,hrb,hra,hF⟩ ?_
  clear hI hL hrb hra hF
  rintro ⟨u,hb,ha,bv,av⟩ ⟨hI,hL,hrb,hra,hF⟩
  dsimp only at hI hL hrb hra hF ⊢
  have hmu:=fun (i j:Int) (B A:List Int) (h1:u.B = i :: B) (h2:u.A = j :: A)=>alStep_mu (all:=t.sum) h1 h2
  have hsl:=fun (i j:Int) (B A:List Int) (h1:u.B = i :: B) (h2:u.A = j :: A)=>alStep_len (all:=t.sum) h1 h2
  refine TC.leni (v:=bv) (l:=hb) fun hbl0=>?_
  cases hB:u.B with
  | nil=>
   have hbl:=hrb.len
   rw [hB,List.length_nil] at hbl
   rw [alEnd_stop hB] at hF
   subst hF
   repeat' first|refine lda ?_|refine srz ?_|(refine wo ?_;first|(refine ao ?_;first|refine oa ?_)|refine oa ?_|refine ld ?_|refine lnm ?_)|(refine gc ?_;first|(refine ci (fun hB=>?_) (fun hB=>?_) <;> try (exfalso;omega)))|refine sq ?_|refine rg ?_|refine xc ?_|refine nl ?_|refine xe ?_|refine rt ?_
   exact rca ⟨cv,ov,rfl,rfl,hcv,hov⟩
  | cons i B=>
   obtain ⟨j,A,hA⟩ : ∃ j A,u.A = j :: A:=by
    cases hA:u.A with
    | nil=>exact absurd hA (hI.more (by rw [hB];simp))
    | cons j A=>exact ⟨j,A,rfl⟩
   have hmu:=hmu i j B A hB hA
   have hsl:=hsl i j B A hB hA
   have hI':=hI.step (i:=i) (j:=j) (B:=B) (A:=A) (by omega) hB hA
   have hF':=(alEnd_step (all:=t.sum) hB hA).symm.trans hF
   have hbi:=hI.B i (by rw [hB];simp)
   have haj:=hI.A j (by rw [hA];simp)
   have hij:i ≠ j:=fun e=>by subst e;omega
   have hu1:=hI.lr
   have hu2:=hI.lc
   have hu3:=hI.lo
   have hbl:=hrb.len
   have hal:=hra.len
   rw [hB] at hrb hbl hL hsl
   rw [hA] at hra hal hL hsl
   have hbh:=hrb.head
   have hah:=hra.head
   rw [List.length_cons] at hbl hal hL hsl
   rw [List.length_cons] at hL hsl
   have hst:alStep t.sum u i j B A = ⟨u.rest.set j.toNat (u.rest.getD j.toNat 0 - (t.sum - u.rest.getD i.toNat 0)),u.cut.set i.toNat (u.rest.getD i.toNat 0),u.oth.set i.toNat j,if u.rest.getD j.toNat 0 - (t.sum - u.rest.getD i.toNat 0) > t.sum then B else if u.rest.getD j.toNat 0 - (t.sum - u.rest.getD i.toNat 0) < t.sum then srt (j :: B) else B,if u.rest.getD j.toNat 0 - (t.sum - u.rest.getD i.toNat 0) > t.sum then j :: A else A⟩:=rfl
   clear hI hF hB hA
   generalize alStep t.sum u i j B A = u' at *
   generalize hri:u.rest.getD i.toNat 0 = ri at *
   generalize hrj:u.rest.getD j.toNat 0 = rj at *
   generalize hre:rj - (t.sum - ri) = r at *
   obtain ⟨⟨i0,i1⟩,i2,i3⟩:=hbi
   obtain ⟨⟨j0,j1⟩,j2,j3,j4⟩:=haj
   have hq:=setI_get u.rest j.toNat r (by omega)
   have hu1':(u.rest.set j.toNat r).length = t.length:=by rw [List.length_set];exact hu1
   repeat' first|refine rs (id:=17) (fun w=>w.heap[pa]? = some (.cells #[av] THp (0,0))∧Sl w av (Is ha)) ?_ (fun w hw=>⟨pt_at memA hw,has_sl hw hasA⟩)|(refine wo ?_;first|(refine ao ?_;first|refine oa ?_)|refine ld ?_|refine lnm ?_)|(refine gc ?_;first|(refine ci (fun hB=>?_) (fun hB=>?_) <;> try (exfalso;omega)))|refine sq ?_|refine rg ?_|refine xc ?_|refine nl ?_|refine sk ?_|refine bk ?_
   refine tkl 1 (cs:=[av]) (fun w h=>h.1) ?_
   refine tkx 2 (len:=ha.length) (fun w h=>⟨_,h.2,Is_len ha⟩) ?_
   refine tkli 3 (fun w h=>h.2) hah ?_
   refine t1 0 ?_
   refine ca (pop_tr pb bv hb hrb.1 (by omega) (by omega)) ?_
   rintro _ _ ⟨bv1,hb1,rfl,rfl,hh1,hp1⟩
   have hrb1:=hrb.pop hh1 hp1
   have hbl1:=hrb1.len
   rw [hbh]
   repeat' first|refine nl ?_
   refine te (fun w hw=>⟨pt_at memA hw,has_sl hw hasA⟩) ?_
   refine tka 4 ?_
   refine tka 5 ?_
   refine t0 ?_
   repeat' first|refine rs (id:=18) (fun w=>w.heap[bo]? = some (.cells #[I t.sum,cv,ov] TAl (0,0))∧(∃ xs,Sl w cv xs∧xs.length = t.length)∧(∃ xs,Sl w ov xs∧xs.length = t.length)∧Sl w rv (Is u.rest)) ?_ (fun w hw=>⟨pt_at memA hw,⟨_,has_sl hw hasA,by rw [Is_len];first | assumption | (rw [List.length_set];assumption)⟩,⟨_,has_sl hw hasA,by rw [Is_len];first | assumption | (rw [List.length_set];assumption)⟩,has_sl hw hasA⟩)|refine sq ?_|refine xc ?_
   refine tka 0 ?_
   refine tkl 1 (cs:=[I t.sum,cv,ov]) (fun w h=>h.1) ?_
   refine tka 2 ?_
   refine tka 3 ?_
   refine tkl 4 (cs:=[I t.sum,cv,ov]) (fun w h=>h.1) ?_
   refine tka 5 ?_
   refine tka 6 ?_
   refine tka 7 ?_
   refine tkx 8 (len:=t.length) (fun w h=>⟨_,h.2.2.2,by rw [Is_len,hu1]⟩) ?_
   refine tkli 9 (fun w h=>h.2.2.2) hri ?_
   refine tka 10 ?_
   refine tkx 11 (len:=t.length) (fun w h=>h.2.1) ?_
   refine t1 12 ?_
   refine soi (m:=ri) (l:=u.cut) (j:=i.toNat) ?_
   repeat' first|refine nl ?_
   refine te (fun w hw=>⟨pt_at memA hw,⟨_,has_sl hw hasA,by rw [Is_len];first | assumption | (rw [List.length_set];assumption)⟩,⟨_,has_sl hw hasA,by rw [Is_len];first | assumption | (rw [List.length_set];assumption)⟩,has_sl hw hasA⟩) ?_
   refine tkx 13 (len:=t.length) (fun w h=>h.2.2.1) ?_
   refine t1 14 ?_
   refine soi (m:=j) (l:=u.oth) (j:=i.toNat) ?_
   repeat' first|refine nl ?_
   refine te (fun w hw=>⟨pt_at memA hw,⟨_,has_sl hw hasA,by rw [Is_len];first | assumption | (rw [List.length_set];assumption)⟩,⟨_,has_sl hw hasA,by rw [Is_len];first | assumption | (rw [List.length_set];assumption)⟩,has_sl hw hasA⟩) ?_
   refine t0 ?_
   repeat' first|refine rs (id:=19) (fun w=>∃ xs,Sl w rv xs∧xs.length = t.length) ?_ (fun w hw=>⟨_,has_sl hw hasA,by rw [Is_len];first | assumption | (rw [List.length_set];assumption)⟩)|refine sq ?_|refine xc ?_
   refine tka 0 ?_
   refine tka 1 ?_
   refine tkx 2 (len:=t.length) (fun w h=>h) ?_
   refine tka 4 ?_
   refine tka 5 ?_
   refine tka 6 ?_
   refine tkx 7 (len:=t.length) (fun w h=>h) ?_
   refine t2 3 8 ?_ ?_
   ·refine lie hrj ?_
    repeat' first|refine nl ?_
    refine te (fun w hw=>⟨_,has_sl hw hasA,by rw [Is_len];first | assumption | (rw [List.length_set];assumption)⟩) ?_
    refine t1 8 ?_
    refine lie hri ?_
    repeat' first|refine nl ?_
    refine te (fun w hw=>⟨_,has_sl hw hasA,by rw [Is_len];first | assumption | (rw [List.length_set];assumption)⟩) ?_
    refine tkw 9 (t.sum - ri) ?_
    refine tkw 10 r ?_
    refine tkx 11 (len:=t.length) (fun w h=>h) ?_
    refine t1 12 ?_
    refine soi (m:=r) (l:=u.rest) (j:=j.toNat) ?_
    repeat' first|refine nl ?_
    refine te (fun w hw=>⟨_,has_sl hw hasA,by rw [Is_len];first | assumption | (rw [List.length_set];assumption)⟩) ?_
    refine t0 ?_
    by_cases c1:r > t.sum
    ·rw [if_pos c1,if_pos c1] at hst
     repeat' first|refine lie hq ?_|(refine wo ?_;first|(refine ao ?_;first|refine oa ?_)|refine oa ?_|refine ixm ?_)|(refine gc ?_;first|(refine ci (fun hB=>?_) (fun hB=>?_) <;> try (exfalso;omega)))|refine sq ?_|refine rg ?_|refine xc ?_|refine nl ?_|refine xe ?_
     refine lp ⟨u',hb1,ha,bv1,av⟩ ⟨hI',by dsimp only;omega,by dsimp only;rw [hst];exact hrb1,by dsimp only;rw [hst];exact hra,hF'⟩ (hf:=by dsimp only;rw [hst];exact fitA) (hlt:=hmu)
    ·rw [if_neg c1,if_neg c1] at hst
     by_cases c2:r < t.sum
     ·rw [if_pos c2] at hst
      repeat' first|(refine gca ?_;first|(refine ca (pop_tr pa av ha hra.1 (by omega) (by omega)) ?_;rintro _ _ ⟨av1,ha1,rfl,rfl,hh2,hp2⟩;have hra1:=hra.pop hh2 hp2)|(refine ca (push_tr pb bv1 hb1 j hrb1.1 (by omega)) ?_;rintro _ _ ⟨bv2,hb2,rfl,hh3,hp3⟩;have hrb2:=hrb1.push j hh3 hp3))|refine lie hq ?_|(refine wo ?_;first|(refine ao ?_;first|refine oa ?_)|refine oa ?_|refine ixm ?_)|(refine gc ?_;first|(refine ci (fun hB=>?_) (fun hB=>?_) <;> try (exfalso;omega)))|refine sq ?_|refine rg ?_|refine xc ?_|refine nl ?_|refine sk ?_|refine xb ?_
      refine lp ⟨u',hb2,ha1,bv2,av1⟩ ⟨hI',by dsimp only;omega,by dsimp only;rw [hst];exact hrb2,by dsimp only;rw [hst];exact hra1,hF'⟩ (hf:=by dsimp only;rw [hst];exact fitA) (hlt:=hmu)
     ·rw [if_neg c2] at hst
      repeat' first|(refine gca ?_;first|(refine ca (pop_tr pa av ha hra.1 (by omega) (by omega)) ?_;rintro _ _ ⟨av1,ha1,rfl,rfl,hh2,hp2⟩;have hra1:=hra.pop hh2 hp2))|refine lie hq ?_|(refine wo ?_;first|(refine ao ?_;first|refine oa ?_)|refine oa ?_|refine ixm ?_)|(refine gc ?_;first|(refine ci (fun hB=>?_) (fun hB=>?_) <;> try (exfalso;omega)))|refine sq ?_|refine rg ?_|refine xc ?_|refine nl ?_|refine sk ?_|refine xb ?_
      refine lp ⟨u',hb1,ha1,bv1,av1⟩ ⟨hI',by dsimp only;omega,by dsimp only;rw [hst];exact hrb1,by dsimp only;rw [hst];exact hra1,hF'⟩ (hf:=by dsimp only;rw [hst];exact fitA) (hlt:=hmu)
   ·refine lie hri ?_
    repeat' first|refine nl ?_
    refine te (fun w hw=>⟨_,has_sl hw hasA,by rw [Is_len];first | assumption | (rw [List.length_set];assumption)⟩) ?_
    refine tkw 9 (t.sum - ri) ?_
    refine t1 3 ?_
    refine lie hrj ?_
    repeat' first|refine nl ?_
    refine te (fun w hw=>⟨_,has_sl hw hasA,by rw [Is_len];first | assumption | (rw [List.length_set];assumption)⟩) ?_
    refine tkw 10 r ?_
    refine tkx 11 (len:=t.length) (fun w h=>h) ?_
    refine t1 12 ?_
    refine soi (m:=r) (l:=u.rest) (j:=j.toNat) ?_
    repeat' first|refine nl ?_
    refine te (fun w hw=>⟨_,has_sl hw hasA,by rw [Is_len];first | assumption | (rw [List.length_set];assumption)⟩) ?_
    refine t0 ?_
    by_cases c1:r > t.sum
    ·rw [if_pos c1,if_pos c1] at hst
     repeat' first|refine lie hq ?_|(refine wo ?_;first|(refine ao ?_;first|refine oa ?_)|refine oa ?_|refine ixm ?_)|(refine gc ?_;first|(refine ci (fun hB=>?_) (fun hB=>?_) <;> try (exfalso;omega)))|refine sq ?_|refine rg ?_|refine xc ?_|refine nl ?_|refine xe ?_
     refine lp ⟨u',hb1,ha,bv1,av⟩ ⟨hI',by dsimp only;omega,by dsimp only;rw [hst];exact hrb1,by dsimp only;rw [hst];exact hra,hF'⟩ (hf:=by dsimp only;rw [hst];exact fitA) (hlt:=hmu)
    ·rw [if_neg c1,if_neg c1] at hst
     by_cases c2:r < t.sum
     ·rw [if_pos c2] at hst
      repeat' first|(refine gca ?_;first|(refine ca (pop_tr pa av ha hra.1 (by omega) (by omega)) ?_;rintro _ _ ⟨av1,ha1,rfl,rfl,hh2,hp2⟩;have hra1:=hra.pop hh2 hp2)|(refine ca (push_tr pb bv1 hb1 j hrb1.1 (by omega)) ?_;rintro _ _ ⟨bv2,hb2,rfl,hh3,hp3⟩;have hrb2:=hrb1.push j hh3 hp3))|refine lie hq ?_|(refine wo ?_;first|(refine ao ?_;first|refine oa ?_)|refine oa ?_|refine ixm ?_)|(refine gc ?_;first|(refine ci (fun hB=>?_) (fun hB=>?_) <;> try (exfalso;omega)))|refine sq ?_|refine rg ?_|refine xc ?_|refine nl ?_|refine sk ?_|refine xb ?_
      refine lp ⟨u',hb2,ha1,bv2,av1⟩ ⟨hI',by dsimp only;omega,by dsimp only;rw [hst];exact hrb2,by dsimp only;rw [hst];exact hra1,hF'⟩ (hf:=by dsimp only;rw [hst];exact fitA) (hlt:=hmu)
     ·rw [if_neg c2] at hst
      repeat' first|(refine gca ?_;first|(refine ca (pop_tr pa av ha hra.1 (by omega) (by omega)) ?_;rintro _ _ ⟨av1,ha1,rfl,rfl,hh2,hp2⟩;have hra1:=hra.pop hh2 hp2))|refine lie hq ?_|(refine wo ?_;first|(refine ao ?_;first|refine oa ?_)|refine oa ?_|refine ixm ?_)|(refine gc ?_;first|(refine ci (fun hB=>?_) (fun hB=>?_) <;> try (exfalso;omega)))|refine sq ?_|refine rg ?_|refine xc ?_|refine nl ?_|refine sk ?_|refine xb ?_
      refine lp ⟨u',hb1,ha1,bv1,av1⟩ ⟨hI',by dsimp only;omega,by dsimp only;rw [hst];exact hrb1,by dsimp only;rw [hst];exact hra1,hF'⟩ (hf:=by dsimp only;rw [hst];exact fitA) (hlt:=hmu)
end Go.Art
namespace Go.Art
open Go Go.Proofs Go.RowKit
def xorL (l m:List Int):List Int:=List.zipWith bxr l m
def mid (l m:List Int) (i:Nat):List Int:=(xorL l m).take i ++ l.drop i
theorem xorL_len {l m:List Int} (h:l.length = m.length):(xorL l m).length = l.length:=by unfold xorL;simp;omega
theorem mid_len {l m:List Int} (h:l.length = m.length) (i:Nat):(mid l m i).length = l.length:=by unfold mid;simp [xorL_len h];omega
theorem xorL_get {l m:List Int} (h:l.length = m.length) {i:Nat} (hi:i < l.length):(xorL l m).getD i 0 = bxr (l.getD i 0) (m.getD i 0):=by
 unfold xorL
 simp [List.getD_eq_getElem?_getD,List.getElem?_zipWith,hi,show i < m.length by omega]
theorem mid_get {l m:List Int} (h:l.length = m.length) (i j:Nat) (hj:j < l.length):(mid l m i).getD j 0 = if j < i then bxr (l.getD j 0) (m.getD j 0) else l.getD j 0:=by
 have hx:=xorL_len h
 unfold mid
 by_cases c:j < i
 ·rw [if_pos c,← xorL_get h hj]
  simp only [List.getD_eq_getElem?_getD]
  rw [List.getElem?_append_left (by simp;omega),List.getElem?_take,if_pos c]
 ·rw [if_neg c]
  simp only [List.getD_eq_getElem?_getD]
  rw [List.getElem?_append_right (by simp;omega),List.getElem?_drop]
  congr 2;simp;omega
theorem ext_getD {l m:List Int} (h:l.length = m.length) (hg:∀ i,i < l.length→l.getD i 0 = m.getD i 0):l = m:=by
 refine List.ext_getElem h fun i h1 h2=>?_
 have:=hg i h1
 simpa [List.getD_eq_getElem?_getD,h1,h2] using this
theorem mid_set {l m:List Int} (h:l.length = m.length) (i:Nat) (hi:i < l.length):(mid l m i).set i (bxr (l.getD i 0) (m.getD i 0)) = mid l m (i + 1):=by
 refine ext_getD (by rw [List.length_set,mid_len h,mid_len h]) fun j hj=>?_
 rw [List.length_set,mid_len h] at hj
 rw [getD_set _ _ _ _ (by rw [mid_len h];exact hi),mid_get h _ _ hj,mid_get h _ _ hj]
 by_cases c:j = i
 ·subst c;rw [if_pos rfl,if_pos (by omega)]
 ·rw [if_neg (by omega)];by_cases c2:j < i
  ·rw [if_pos c2,if_pos (by omega)]
  ·rw [if_neg c2,if_neg (by omega)]
theorem mid_zero (l m:List Int):mid l m 0 = l:=by simp [mid]
theorem mid_all {l m:List Int} (h:l.length = m.length):mid l m l.length = xorL l m:=by
 unfold mid;rw [List.drop_length,List.append_nil,List.take_of_length_le (by rw [xorL_len h];omega)]
def e8 (l:List Int) (k:Nat):List Int:=(l.drop k).take 8
theorem e8_len {l:List Int} {k:Nat} (h:k + 8 ≤ l.length):(e8 l k).length = 8:=by unfold e8;simp;omega
theorem e8_get {l:List Int} {k:Nat} (h:k + 8 ≤ l.length) {i:Nat} (hi:i < 8):(e8 l k).getD i 0 = l.getD (k + i) 0:=by
 unfold e8;simp only [List.getD_eq_getElem?_getD];rw [List.getElem?_take,if_pos hi,List.getElem?_drop]
theorem mid_lay {l m:List Int} (h:l.length = m.length) {k:Nat} (hk:k + 8 ≤ l.length):lay (mid l m k) k (xorL (e8 (mid l m k) k) (e8 m k)) = mid l m (k + 8):=by
 have hm:=mid_len h k
 have h8:(e8 (mid l m k) k).length = (e8 m k).length:=by rw [e8_len (by omega),e8_len (by omega)]
 have hx:(xorL (e8 (mid l m k) k) (e8 m k)).length = 8:=by rw [xorL_len h8,e8_len (by omega)]
 refine ext_getD (by rw [lay_len (by omega),hm,mid_len h]) fun j hj=>?_
 rw [lay_len (by omega),hm] at hj
 rw [mid_get h _ _ hj]
 unfold lay
 rw [hx]
 simp only [List.getD_eq_getElem?_getD,List.getElem?_append,List.length_append,List.length_take]
 rw [hx,show min k (mid l m k).length = k by omega]
 by_cases c1:j < k
 ·rw [if_pos (by omega),if_pos c1,if_pos (by omega),List.getElem?_take,if_pos c1]
  have:=mid_get h k j hj
  rw [if_pos c1,List.getD_eq_getElem?_getD] at this
  simpa [List.getD_eq_getElem?_getD] using this
 ·by_cases c2:j < k + 8
  ·rw [if_pos c2,if_neg c1,if_pos c2]
   have h2:=xorL_get h8 (i:=j - k) (by rw [e8_len (by omega)];omega)
   rw [e8_get (by omega) (by omega),e8_get (by omega) (by omega),show k + (j - k) = j by omega,mid_get h _ _ hj,if_neg c1] at h2
   simpa [List.getD_eq_getElem?_getD] using h2
  ·rw [if_neg c2,if_neg c2,List.getElem?_drop,show k + 8 + (j - (k + 8)) = j by omega]
   have:=mid_get h k j hj
   rw [if_neg c1,List.getD_eq_getElem?_getD] at this
   simpa [List.getD_eq_getElem?_getD] using this
theorem cells8 {w:World} {a:Value} {l:List Int} {k:Nat} (h:Sl w a (By l)) (hk:k + 8 ≤ l.length):∀ m u,(By (e8 l k))[m]? = some u→w.cell? ((addrAt a k).add m) = some u:=by
 intro m u hu
 have hm:m < 8:=by
  have:=(List.getElem?_eq_some_iff.1 hu).1
  rw [By_len,e8_len hk] at this;exact this
 have hc:(By l)[k + m]? = some u:=by
  rw [By_get _ _ (by rw [e8_len hk];exact hm),e8_get hk hm] at hu
  rw [By_get _ _ (by omega)];exact hu
 have:=h.cell hc
 obtain ⟨o,c,rfl,h1,h2,h3⟩:=h
 obtain ⟨x,rfl,_⟩:=h3 _ _ hc
 show w.cell? ((x.add k).add m) = some u
 rw [Addr_add_add _ _ _ (.inr trivial)];exact this
theorem By_lay (l:List Int) (k:Nat) (m:List Int):(By l).take k ++ By m ++ (By l).drop (k + (By m).length) = By (lay l k m):=by
 unfold lay;rw [By_len];simp only [By,List.map_append,List.map_take,List.map_drop]
theorem rfl0 {cs:List Value} (l:List Value) (h:cs.length ≤ 8:=by decide):cs.take 0 ++ l ++ cs.drop (0 + 8) = l:=by rw [List.take_zero,List.nil_append,Nat.zero_add,List.drop_eq_nil_of_le h,List.append_nil]
theorem SetAt.of (v:Value):∀ (cs:List Value) (j:Nat),j < cs.length→SetAt v cs j (cs.set j v)
 | [],j,h=>by simp at h
 | c :: r,0,_=>SetAt.z _ _
 | c :: r,j + 1,h=>SetAt.s _ (SetAt.of v r j (by simpa using h))
section
variable {P:Program} {E:Env P} {n:Sh} {X:Cx} {s:List K} {fr:Fr} {A A':List Ch} {ops:Array Oper} {rest:List Oper} {d:Nat} {ty t t' el:TypeId} {pos:String} {after:Array Edge} {z v a u:Value} {x y:Operand} {k by_ N:Nat} {xs:List Value} {m:Nat}
theorem lnt (hn:xs.length = N) (tl:Tl a v N k) (kk:TO E n X s ops rest ((d,I ((N - k:Nat):Int)) :: fr) A) (hx:ev fr x = some v:=by rfl) (hh:Has A (vw a xs):=by exact hasA) (ht:lk E.und t = some (.slice el):=by rfl) (hd:Nat.blt d n.n = true:=by rfl) :
  TO E n X s ops (⟨some d,.call ⟨.builtin .len,#[x],#[t]⟩,ty,pos,after,none⟩ :: rest) fr A:=ln (xs:=xs.drop k) (by rw [List.length_drop,hn];exact kk) hx ((hn.symm ▸ tl:Tl a v xs.length k).has hh) ht hd
theorem qst {lo:Int} {k1:IntKind} {zo:Operand} (hn:xs.length = N) (tl:Tl a v N k) (kk:TQ E n X s ops rest ((d,slSub v lo.toNat (N - k)) :: fr) A) (hx:ev fr x = some v:=by rfl) (hl:ev fr zo = some (.int k1 lo):=by rfl) (hb:0 ≤ lo∧lo ≤ ((N - k:Nat):Int):=by omega) (hh:Has A (vw a xs):=by exact hasA)
  (ht:lk E.und t = some (.slice el):=by rfl) (he:lk E.inf el = some (z,1,by_):=by rfl) (hd:Nat.blt d n.n = true:=by rfl):TQ E n X s ops (⟨some d,.slice t x (some zo) none none,ty,pos,after,none⟩ :: rest) fr A:=
 TQ.val (fun w h=>by
  subst hn
  have:=R_sliceLo (P:=P) (E:=E) (n:=n) (fr:=fr) (ty:=ty) ht he hx hl (tl.sl (has_sl h hh)) (by rw [List.length_drop];exact hb)
  rw [List.length_drop] at this;exact this) kk hd
theorem cpo {e:TypeId} {cs ys:List Value} {ad:Addr} {c q:Nat} (hn:xs.length = N) (tl:Tl a v N k) (hl:cs.length = q) (kk:TO E n X s ops rest ((d,I q) :: fr) (own e a ys :: A')) (hx:ev fr x = some v:=by rfl) (hy:ev fr y = some (.slice (some ad) q c):=by rfl) (hm:Tk (own e a xs) A A':=by exact tkA) (hk:k + q ≤ N:=by omega) (h0:0 < q:=by omega)
  (hsrc:∀ w,Sat A' w→∀ j u,cs[j]? = some u→w.cell? (ad.add j) = some u) (h1:∀ c ∈ cs,c.oneCell' = true) (hs:xs.take k ++ cs ++ xs.drop (k + cs.length) = ys) (ht:lk E.und t = some (.slice e):=by rfl) (he:lk E.inf e = some (z,1,by_):=by rfl) (hd:Nat.blt d n.n = true:=by rfl) :
  TO E n X s ops (⟨some d,.call ⟨.builtin .copy,#[x,y],#[t,t']⟩,ty,pos,after,none⟩ :: rest) fr A:=⟨fun w hw=>by
 subst hs;subst hn;subst hl
 have h2:=hw.im hm
 have h3:OwnO w e a xs:=h2.mem (List.Mem.head _)
 refine SO_copyO hd ht he h3 tl hk h0 hx hy (hsrc w (Sat.cons.1 h2.sat).2.2) h1 fun w' hU hO=>kk.run w' (h2.set hU (fun b hb=>.inl (by show a.ownBlock = some b;simpa using hb)) hO ?_ (fun _ h=>h))
 rintro b (hb | hb | hb);exact .inl hb;exact hb.elim;exact hb.elim⟩
end
theorem R_idxZ {P:Program} {E:Env P} {n:Sh} {fr:Fr} {t ty el:TypeId} {z:Value} {x y:Operand} {b m by_ i:Nat} {w:World} {k1:IntKind} (ht:lk E.und t = some (.array m el)) (he:lk E.inf el = some (z,1,by_)) (hx:ev fr x = some (.pointer (some ⟨b,0,none⟩))) (hy:ev fr y = some (.int k1 (i:Int))) (h:i < m) :
  OpV P n fr (.indexAddr t x y) ty w (.pointer (some ⟨b,i,none⟩)) w:=by
 have:=R_idxP (P:=P) (E:=E) (n:=n) (fr:=fr) (ty:=ty) (w:=w) (j:=0) ht he hx hy (by omega)
 rwa [Int.toNat_natCast,Nat.zero_add] at this
attribute [local irreducible] Fit pt own ro vw mpc lpt vels rels mow lrc dfr
attribute [local irreducible] lmp lme mit velg relg
abbrev TyB:TypeId:=5
abbrev TyE:TypeId:=129
structure XoG where
 k:Nat
 va:Value
 vb:Value
theorem add_tr (a b:Value) (l m:List Int) (hl:l.length = m.length):Tr Tryz.prog 133 [a,b] [vw b (By m)] [own TyB a (By l)] fun _ D=>D = [own TyB a (By (xorL l m))]:=by
 have hmz:=mid_zero l m
 have hma:=mid_all hl
 refine Tr.enter env _ Tryz.func133 (by kernel_rfl) rfl Tryz.ntmps133 rfl (by repeat (first | exact has00 | refine has01 ?_)) fun w0=>?_
 refine TC.fact (p:=Tl a a (By l).length 0) (fun w hw=>Tl.zero (has_sl hw hasA)) fun ta=>?_
 refine TC.fact (p:=Tl b b (By m).length 0) (fun w hw=>Tl.zero (has_sl hw hasA)) fun tb=>?_
 rw [By_len] at ta tb
 rw [← hl] at tb
 refine TC.fact (p:=l.length ≤ 9223372036854775807) (fun w hw=>by have:=(has_sl hw (v:=a) (xs:=By l) hasA).len;rwa [By_len] at this) fun hln=>?_
 repeat' first|refine sq ?_|refine bk ?_
 refine TC.loop (ι:=XoG) (fun g=>[(0,g.va),(1,g.vb)]) (fun g=>[own TyB a (By (mid l m g.k))]) (fun g=>Tl a g.va l.length g.k∧Tl b g.vb l.length g.k) (fun g=>l.length - g.k) ⟨0,a,b⟩ [] ⟨ta,tb⟩ ?_ (hs:=by dsimp only;(repeat (refine Sub.cons rfl (by first | rfl | go_num) ?_));exact Sub.nil) (hf:=by dsimp only;rw [hmz];exact fitA)
 clear ta tb
 rintro ⟨k,va,vb⟩ ⟨ta,tb⟩
 dsimp only at ta tb ⊢
 have hk:=ta.le
 have hL:=mid_len hl k
 have hBL:(By (mid l m k)).length = l.length:=by rw [By_len,hL]
 have hBm:(By m).length = l.length:=by rw [By_len,hl]
 by_cases h8:k + 8 ≤ l.length
 ·obtain ⟨ca,hca,hca8⟩:=ta.head h8 (by decide)
  obtain ⟨cb,hcb,hcb8⟩:=tb.head h8 (by decide)
  have hea:(e8 (mid l m k) k).length = 8:=e8_len (by omega)
  have heb:(e8 m k).length = 8:=e8_len (by omega)
  have hlay:=mid_lay hl h8
  have hnx:l.length - (k + 8) < l.length - k:=by omega
  have ta':=ta.next h8
  have tb':=tb.next h8
  generalize hL':mid l m (k + 8) = L' at *
  generalize hLe:mid l m k = L at *
  repeat' first|refine lnt hBL ta ?_|refine sq_cutX (a:=.region 1 _ _) (ι:=Nat × Nat) (fun _=>True) (fun i=>[(0,va),(1,vb),(4,ptr i.1),(5,ptr i.2)]) (fun i=>[own TyB a (By L),vw b (By m),pt i.1 (By (e8 L k)) TyE,pt i.2 (By (e8 m k)) TyE]) ?_ (fun kb=>?_)|refine rs (id:=1) (fun w=>Sl w a (By L)∧Sl w b (By m)) ?_ (fun w hw=>⟨has_sl hw hasA,has_sl hw hasA⟩)|(refine wo ?_;first|(refine ao ?_;first|refine oa ?_)|refine oa ?_)|(refine gc ?_;first|(refine ci (fun hB=>?_) (fun hB=>?_) <;> try (exfalso;omega)))|refine sq ?_|refine rg ?_|refine xc ?_|refine nl ?_|refine sk ?_|refine bk ?_
  rotate_left
  ·refine tka 0 ?_
   refine tk 1 (v:=.slice (some (addrAt a k)) 8 ca) (hi:=rfl) (fun w h=>by rw [← hca];exact R_sliceHi (E:=env) (hi:=8) rfl rfl rfl rfl ((hBL.symm ▸ ta:Tl a va (By L).length k).sl h.1) (by rw [List.length_drop,hBL];omega)) ?_
   refine tk 2 (v:=.pointer (some (addrAt a k))) (hi:=rfl) (fun w h=>by exact R_arr (E:=env) rfl rfl) ?_
   refine tk 3 (v:=.agg (By (e8 L k)).toArray) (hi:=rfl) (fun w h=>by exact R_loadArr (E:=env) rfl rfl rfl rfl (cells8 h.1 (by omega)) (by rw [By_len,hea])) ?_
   refine tka 4 ?_
   refine tk 5 (v:=.slice (some (addrAt b k)) 8 cb) (hi:=rfl) (fun w h=>by rw [← hcb];exact R_sliceHi (E:=env) (hi:=8) rfl rfl rfl rfl ((hBm.symm ▸ tb:Tl b vb (By m).length k).sl h.2) (by rw [List.length_drop,hBm];omega)) ?_
   refine tk 6 (v:=.pointer (some (addrAt b k))) (hi:=rfl) (fun w h=>by exact R_arr (E:=env) rfl rfl) ?_
   refine tk 7 (v:=.agg (By (e8 m k)).toArray) (hi:=rfl) (fun w h=>by exact R_loadArr (E:=env) rfl rfl rfl rfl (cells8 h.2 (by omega)) (by rw [By_len,heb])) ?_
   refine t2 8 9 ?_ ?_
   ·refine al fun p4=>?_
    repeat' first|refine nl ?_
    refine te (fun w hw=>⟨has_sl hw hasA,has_sl hw hasA⟩) ?_
    refine t1 9 ?_
    refine al fun p5=>?_
    repeat' first|refine nl ?_
    refine te (fun w hw=>⟨has_sl hw hasA,has_sl hw hasA⟩) ?_
    refine t1 10 ?_
    refine srz (vs:=By (e8 L k)) (cs':=By (e8 L k)) ?_ (hl:=by rw [By_len,hea]) (h1:=By_one _) (hs:=rfl0 _)
    repeat' first|refine nl ?_
    refine te (fun w hw=>⟨has_sl hw hasA,has_sl hw hasA⟩) ?_
    refine t1 11 ?_
    refine srz (vs:=By (e8 m k)) (cs':=By (e8 m k)) ?_ (hl:=by rw [By_len,heb]) (h1:=By_one _) (hs:=rfl0 _)
    repeat' first|refine nl ?_
    refine te (fun w hw=>⟨has_sl hw hasA,has_sl hw hasA⟩) ?_
    refine t0 ?_
    refine xc ?_
    exact kb (p4,p5) trivial _ _ (by (repeat (refine Sub.cons rfl (by first | rfl | go_num) ?_));exact Sub.nil) fitA
   ·refine al fun p5=>?_
    repeat' first|refine nl ?_
    refine te (fun w hw=>⟨has_sl hw hasA,has_sl hw hasA⟩) ?_
    refine t1 8 ?_
    refine al fun p4=>?_
    repeat' first|refine nl ?_
    refine te (fun w hw=>⟨has_sl hw hasA,has_sl hw hasA⟩) ?_
    refine t1 10 ?_
    refine srz (vs:=By (e8 L k)) (cs':=By (e8 L k)) ?_ (hl:=by rw [By_len,hea]) (h1:=By_one _) (hs:=rfl0 _)
    repeat' first|refine nl ?_
    refine te (fun w hw=>⟨has_sl hw hasA,has_sl hw hasA⟩) ?_
    refine t1 11 ?_
    refine srz (vs:=By (e8 m k)) (cs':=By (e8 m k)) ?_ (hl:=by rw [By_len,heb]) (h1:=By_one _) (hs:=rfl0 _)
    repeat' first|refine nl ?_
    refine te (fun w hw=>⟨has_sl hw hasA,has_sl hw hasA⟩) ?_
    refine t0 ?_
    refine xc ?_
    exact kb (p4,p5) trivial _ _ (by (repeat (refine Sub.cons rfl (by first | rfl | go_num) ?_));exact Sub.nil) fitA
  rintro ⟨p4,p5⟩ _
  dsimp only
  have hee:(e8 L k).length = (e8 m k).length:=by rw [hea,heb]
  have hm8:=mid_all hee
  rw [hea] at hm8
  have hm0:=mid_zero (e8 L k) (e8 m k)
  have hx8:(xorL (e8 L k) (e8 m k)).length = 8:=by rw [xorL_len hee,hea]
  have hmg:=fun i=>mid_get hee i
  have hms:=fun i=>mid_set hee i
  have hml:=fun i=>mid_len hee i
  rw [hea] at hmg hms hml
  have hLk:lay L k (xorL (e8 L k) (e8 m k)) = L':=hlay
  generalize e8 L k = ex at *
  generalize e8 m k = ey at *
  repeat' first|(refine wo ?_;first|refine oa ?_)|refine sq ?_|refine rg ?_|refine xc ?_|refine nl ?_|refine bk ?_
  refine TC.loop (ι:=Nat) (fun i=>[(19,I i)]) (fun i=>[pt p4 (By (mid ex ey i)) TyE]) (fun i=>i ≤ 8) (fun i=>8 - i) 0 [0,1,4,5] (by omega) ?_ (hf:=by rw [hm0];exact fitA)
  intro i hi
  by_cases hi8:i < 8
  ·have hg:=hmg i i hi8
   rw [if_neg (Nat.lt_irrefl i)] at hg
   have hs:=hms i hi8
   have hl8:=hml i
   generalize hM':mid ex ey (i + 1) = M' at *
   generalize hM:mid ex ey i = M at *
   repeat' first|refine rs (id:=5) (fun w=>w.heap[p5]? = some (.cells (By ey).toArray TyE (0,0))) ?_ (fun w hw=>pt_at memA hw)|(refine wo ?_;first|(refine ao ?_;first|refine oa ?_)|refine oa ?_)|(refine gc ?_;first|(refine ci (fun hB=>?_) (fun hB=>?_) <;> try (exfalso;omega)))|refine sq ?_|refine rg ?_|refine xc ?_|refine nl ?_|refine sk ?_|refine bk ?_
   refine tka 0 ?_
   refine tk 1 (v:=.pointer (some ⟨p4,i,none⟩)) (hi:=rfl) (fun w h=>by exact R_idxZ (E:=env) rfl rfl rfl rfl hi8) ?_
   refine tka 3 ?_
   refine tk 4 (v:=.pointer (some ⟨p5,i,none⟩)) (hi:=rfl) (fun w h=>by exact R_idxZ (E:=env) rfl rfl rfl rfl hi8) ?_
   refine tk 5 (v:=y8 (ey.getD i 0)) (hi:=rfl) (fun w h=>by exact R_load (E:=env) rfl rfl rfl (blk_cell h (by rw [List.getElem?_toArray];exact By_get _ _ (by omega)))) ?_
   refine t1 2 ?_
   refine ld (b:=p4) (j:=i) (cs:=By M) (T:=TyE) (v:=y8 (ex.getD i 0)) ?_ (hj:=by rw [← hg];exact By_get _ _ (by omega))
   repeat' first|refine nl ?_
   refine te (fun w hw=>pt_at memA hw) ?_
   refine tk 6 (v:=y8 (bxr (ex.getD i 0) (ey.getD i 0))) (hi:=rfl) (fun w h=>by exact R_bxr rfl rfl) ?_
   refine tk 7 (v:=.pointer (some ⟨p4,i,none⟩)) (hi:=rfl) (fun w h=>by exact R_idxZ (E:=env) rfl rfl rfl rfl hi8) ?_
   refine t1 8 ?_
   refine sr (b:=p4) (j:=i) (cs:=By M) (cs':=By M') (T:=TyE) (v:=y8 (bxr (ex.getD i 0) (ey.getD i 0))) ?_ (hs:=by rw [← hs,By_set];exact SetAt.of _ _ _ (by rw [By_len];omega))
   repeat' first|refine nl ?_
   refine te (fun w hw=>pt_at memA hw) ?_
   refine t0 ?_
   repeat' first|(refine wo ?_;first|(refine ao ?_;first|refine aw ?_)|refine oa ?_)|refine rg ?_|refine xc ?_|refine nl ?_|refine xb ?_
   exact lp (i + 1) (by omega) (hf:=by rw [hM'];exact fitA)
  ·obtain rfl:i = 8:=by omega
   rw [hm8]
   repeat' first|(refine wo ?_;first|(refine ao ?_;first|refine oa ?_)|refine oa ?_)|(refine gc ?_;first|refine cf ?_)|refine sq ?_|refine rg ?_|refine xc ?_|refine nl ?_|refine xe ?_
   refine TO.val (v:=.slice (some ⟨p4,0,none⟩) 8 8) (fun _ _=>by exact R_slArr (E:=env) rfl rfl rfl) ?_
   refine cpo hBL ta (cs:=By (xorL ex ey)) (ys:=By L') (by rw [By_len,hx8]) ?_ (hsrc:=fun w hw j u hu=>by rw [Addr.add_lit,Nat.zero_add];exact blk_cell (pt_at memA hw) (by rw [List.getElem?_toArray];exact hu)) (h1:=By_one _) (hs:=by rw [By_lay,hlay])
   have hBL':(By L').length = l.length:=by rw [By_len,← hL',mid_len hl]
   repeat' first|(refine qst hBL' ta ?_)|(refine qst hBm tb ?_)|refine xc ?_|refine nl ?_|refine xb ?_|refine rq ?_|refine nq ?_|(refine wq ?_;first|refine qa ?_)
   exact lp ⟨k + 8,slSub va 8 (l.length - k),slSub vb 8 (l.length - k)⟩ ⟨ta',tb'⟩ (hs:=by dsimp only;(repeat (refine Sub.cons rfl (by first | rfl | go_num) ?_));exact Sub.nil) (hf:=by dsimp only;rw [hL'];exact fitA) (hlt:=hnx)
 ·generalize hLe:mid l m k = L at *
  repeat' first|refine lnt hBL ta ?_|(refine wo ?_;first|(refine ao ?_;first|refine oa ?_)|refine oa ?_)|(refine gc ?_;first|(refine ci (fun hB=>?_) (fun hB=>?_) <;> try (exfalso;omega)))|refine sq ?_|refine rg ?_|refine xc ?_|refine nl ?_|refine bk ?_|refine xe ?_
  have hBL0:(By L).length = l.length:=hBL
  subst hLe
  refine TC.loop (ι:=Nat) (fun i=>[(40,I i)]) (fun i=>[own TyB a (By (mid l m (k + i)))]) (fun i=>k + i ≤ l.length) (fun i=>l.length - i) 0 [0,1,39] hk ?_
  intro i hi
  have hLi:=mid_len hl (k + i)
  have hBi:(By (mid l m (k + i))).length = l.length:=by rw [By_len,hLi]
  by_cases hlt:k + i < l.length
  ·have hg:=mid_get hl (k + i) (k + i) hlt
   rw [if_neg (Nat.lt_irrefl _)] at hg
   have hs:=mid_set hl (k + i) hlt
   generalize hM':mid l m (k + i + 1) = M' at *
   generalize hM:mid l m (k + i) = M at *
   generalize hx:l.getD (k + i) 0 = x at *
   generalize hy:m.getD (k + i) 0 = y at *
   have hAa:addrAt va i = addrAt a (k + i):=ta.ad hlt
   have hAb:addrAt vb i = addrAt b (k + i):=tb.ad hlt
   repeat' first|refine rs (id:=12) (fun w=>Sl w b (By m)∧∃ xs,Sl w a xs∧xs.length = l.length) ?_ (fun w hw=>⟨has_sl hw hasA,_,has_sl hw hasA,hBi⟩)|(refine wo ?_;first|(refine ao ?_;first|refine oa ?_)|refine oa ?_)|(refine gc ?_;first|(refine ci (fun hB=>?_) (fun hB=>?_) <;> try (exfalso;omega)))|refine sq ?_|refine rg ?_|refine xc ?_|refine nl ?_|refine sk ?_|refine bk ?_
   refine tka 0 ?_
   refine tka 1 ?_
   refine tk 2 (v:=.pointer (some (addrAt a (k + i)))) (hi:=rfl) (fun w h=>by obtain ⟨xs,h1,h2⟩:=h.2;rw [← hAa];exact R_idx (E:=env) (i:=i) rfl rfl rfl rfl ((h2.symm ▸ ta:Tl a va xs.length k).sl h1) (by rw [List.length_drop,h2];omega)) ?_
   refine tka 4 ?_
   refine tka 5 ?_
   refine tk 6 (v:=.pointer (some (addrAt b (k + i)))) (hi:=rfl) (fun w h=>by rw [← hAb];exact R_idx (E:=env) (i:=i) rfl rfl rfl rfl ((hBm.symm ▸ tb:Tl b vb (By m).length k).sl h.1) (by rw [List.length_drop,hBm];omega)) ?_
   refine tk 7 (v:=y8 y) (hi:=rfl) (fun w h=>by rw [← hy];exact R_load (E:=env) rfl rfl rfl (h.1.cell (By_get _ _ (by omega)))) ?_
   refine t1 3 ?_
   refine le (v:=a) (j:=k + i) (xs:=By M) (u:=y8 x) ?_ (hj:=by rw [← hg];exact By_get _ _ (by omega))
   repeat' first|refine nl ?_
   refine te (fun w hw=>⟨has_sl hw hasA,_,has_sl hw hasA,hBi⟩) ?_
   refine tk 8 (v:=y8 (bxr x y)) (hi:=rfl) (fun w h=>by exact R_bxr rfl rfl) ?_
   refine tk 9 (v:=.pointer (some (addrAt a (k + i)))) (hi:=rfl) (fun w h=>by obtain ⟨xs,h1,h2⟩:=h.2;rw [← hAa];exact R_idx (E:=env) (i:=i) rfl rfl rfl rfl ((h2.symm ▸ ta:Tl a va xs.length k).sl h1) (by rw [List.length_drop,h2];omega)) ?_
   refine t1 10 ?_
   refine so (v:=a) (j:=k + i) (xs:=By M) (ys:=By M') (c:=y8 (bxr x y)) ?_ (hj:=by omega) (hs:=by rw [← hs,By_set])
   repeat' first|refine nl ?_
   refine te (fun w hw=>⟨has_sl hw hasA,_,has_sl hw hasA,by rw [← hM',By_len,mid_len hl]⟩) ?_
   refine t0 ?_
   repeat' first|(refine wo ?_;first|(refine ao ?_;first|refine aw ?_)|refine oa ?_)|refine rg ?_|refine xc ?_|refine nl ?_|refine xb ?_
   exact lp (i + 1) (by omega) (hf:=by rw [← Nat.add_assoc,hM'];exact fitA)
  ·have hki:k + i = l.length:=by omega
   rw [hki,hma]
   repeat' first|(refine wo ?_;first|(refine ao ?_;first|refine oa ?_))|(refine gc ?_;first|(refine ci (fun hB=>?_) (fun hB=>?_) <;> try (exfalso;omega)))|refine sq ?_|refine rg ?_|refine xc ?_|refine nl ?_|refine xe ?_
   exact e0 rfl
end Go.Art
